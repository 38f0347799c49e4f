/- A verified reading of translated code: values in place of memory; part F of 6, spaces and remarks taken out. No condition. Own work of this seat. -/
import Derived.Test.YtdknpknohipffaaGreatOwE
/- The framework, part 63: types, checked by computing. Own work of this seat. -/
set_option linter.unusedSectionVars false
set_option linter.unusedVariables false
set_option linter.unusedSimpArgs false
namespace Go.Proofs.YtdknpknohipffaaGreat.Ow
open Go
structure YU where
 ty:List (TypeId×K)
 bytes:List (TypeId×Nat)
 ptr:List TypeId
 ids:Bool:=false
def look {A:Type} (n:Nat):List (Nat×A)→Option A
 | []=>none
 | (m,a) :: l=>bif Nat.beq n m then some a else look n l
def aer (n:Nat):List (Nat×Nat)→Nat
 | []=>0
 | (m,a) :: l=>bif Nat.beq n m then a else aer n l
def YU.tab (L:YU):jF:={ ty:=fun t=>look t L.ty,bytes:=fun t=>aer t L.bytes,ptr:=fun t=>ay t L.ptr,eq:=fun _=>false,ids:=L.ids }
def aaX:K→Value→Bool
 | .int ik, .int jk (.ofNat 0)=>DF ik jk
 | .bool, .bool false=>true
 | .str, .string s=>Nat.beq s.data.size 0
 | .sl _ _, .slice none 0 0=>true
 | .id _, .slice none 0 0=>true
 | _,_=>false
def QT:K→List Value→Option (List Value)
 | .pair a b,l=>match QT a l with
  | some m=>QT b m
  | none=>none
 | .unit,l=>some l
 | .st f,l=>QT f l
 | .gap _,_=>none
 | k,v :: l=>bif aaX k v then some l else none
 | _,[]=>none
def isZ:K→Value→Bool
 | .st f, .agg arr=>match QT f arr.toList with
  | some []=>true
  | _=>false
 | .st _,_=>false
 | k,v=>aaX k v
def Ap (P:Program) (t:TypeId) (k:K):Bool:=match P.info? t with
 | some i=>Nat.beq i.size k.size && (match i.zero with
  | some v=>isZ k v
  | none=>false)
 | none=>false
def nL (P:Program) (T:jF):K→(TypeId→Bool)×(List Field→Nat→Bool)
 | .int ik=>(fun t=>(match P.underlying t with
  | some (.int jk)=>DF ik jk
  | _=>false) && Ap P t (.int ik),fun _ _=>false)
 | .bool=>(fun t=>(match P.underlying t with
  | some .bool=>true
  | _=>false) && Ap P t .bool,fun _ _=>false)
 | .str=>(fun t=>(match P.underlying t with
  | some .string=>true
  | _=>false) && Ap P t .str,fun _ _=>false)
 | .sl e k=>(fun t=>(match P.underlying t with
  | some (.slice e')=>Nat.beq e e'
  | _=>false) && Ap P t (.sl e k) && (nL P T k).1 e && Nat.blt 0 k.size && (match P.info? e with
  | some i=>Nat.beq i.bytes (T.bytes e) && Nat.blt 0 i.bytes
  | none=>false),fun _ _=>false)
 | .unit=>(fun _=>false,fun fs _=>fs.isEmpty)
 | .pair a b=>(fun _=>false,fun fs off=>match fs with
  | []=>false
  | f :: fs=>Nat.beq f.offset off && (nL P T a).1 f.type && Nat.blt 0 a.size && (nL P T b).2 fs (off+a.size))
 | .st c=>(fun t=>(match P.underlying t with
  | some (.struct fs)=>(nL P T c).2 fs.toList 0
  | _=>false) && Ap P t (.st c),fun _ _=>false)
 | .gap _=>(fun _=>false,fun _ _=>false)
 | .id e=>(fun t=>(match P.underlying t with
  | some (.slice e')=>Nat.beq e e'
  | _=>false) && Ap P t (.id e) && T.ids,fun _ _=>false)
def Fa (P:Program) (L:YU):Bool:=L.ty.all (fun q=>(nL P L.tab q.2).1 q.1) && L.ptr.all fun t=>match P.underlying t with
 | some (.pointer _)=>true
 | _=>false
section
variable [Fr] {P:Program} {T:jF}
theorem WC {k:K} {v:Value} (h:aaX k v=true):bW k=[v]∧vL k=v:=by
 unfold aaX at h
 split at h
 ·have:=EH h; subst this; exact ⟨rfl,rfl⟩
 ·exact ⟨rfl,rfl⟩
 ·rename_i s
  have:s=ByteArray.empty:=by
   have h1:=Nat.eq_of_beq_eq_true h
   obtain ⟨d⟩:=s
   have:d=#[]:=Array.eq_empty_of_size_eq_zero h1
   subst this
   rfl
  subst this
  exact ⟨rfl,rfl⟩
 ·exact ⟨rfl,rfl⟩
 ·exact ⟨rfl,rfl⟩
 ·simp at h
theorem adk:∀{k:K} {l m:List Value},QT k l=some m→l=bW k++m:=by
 intro k
 have one:∀{k:K} {l m:List Value},(match l with | v :: l=>(bif aaX k v then some l else none) | []=>none)=some m→l=bW k++m:=by
  intro k l m h
  cases l with
  | nil=>simp at h
  | cons v l=>
   obtain ⟨hb,h⟩:=xz h
   simp only [Option.some.injEq] at h
   subst h
   rw [(WC hb).1]
   rfl
 induction k with
 | pair a b iha ihb=>
  intro l m h
  simp only [QT] at h
  split at h
  ·rename_i q hq
   rw [iha hq,ihb h]
   simp [bW]
  ·simp at h
 | unit=>intro l m h; simp only [QT,Option.some.injEq] at h; subst h; rfl
 | st f ih=>intro l m h; exact ih (show QT f l=some m from h)
 | gap n=>intro l m h; simp [QT] at h
 | int ik=>intro l m h; exact one (k:=.int ik) (by cases l <;> exact h)
 | bool=>intro l m h; exact one (k:=.bool) (by cases l <;> exact h)
 | id e=>intro l m h; exact one (k:=.id e) (by cases l <;> exact h)
 | str=>intro l m h; exact one (k:=.str) (by cases l <;> exact h)
 | sl e k _=>intro l m h; exact one (k:=.sl e k) (by cases l <;> exact h)
theorem agF {k:K} {v:Value} (h:isZ k v=true):vL k=v:=by
 unfold isZ at h
 split at h
 ·rename_i f arr
  split at h
  ·rename_i hz
   have:=adk hz
   simp only [List.append_nil] at this
   show Value.agg (bW f).toArray=.agg arr
   rw [←this]
  ·simp at h
 ·simp at h
 ·exact (WC h).2
theorem wJ {t:TypeId} {k:K} (h:Ap P t k=true):wo P t k:=by
 unfold Ap at h
 split at h
 ·rename_i i hi
  simp only [Bool.and_eq_true] at h
  obtain ⟨h1,h2⟩:=h
  split at h2
  ·rename_i v hv
   exact ⟨i,hi,Nat.eq_of_beq_eq_true h1,by rw [hv,agF h2]⟩
  ·simp at h2
 ·simp at h
theorem UK {a b:Nat} (h:Nat.blt a b=true):a<b:=by
 unfold Nat.blt at h
 exact Nat.le_of_ble_eq_true h
theorem abW:∀{k:K},(∀t,(nL P T k).1 t=true→(kg P T k).1 t)∧∀fs off,(nL P T k).2 fs off=true→(kg P T k).2 fs off:=by
 intro k
 induction k with
 | int ik=>
  refine ⟨fun t h=>?_,fun fs off h=>by simp [nL] at h⟩
  simp only [nL,Bool.and_eq_true] at h
  obtain ⟨h1,h2⟩:=h
  split at h1
  ·rename_i jk hu
   have:=EH h1; subst this
   exact ⟨hu,wJ h2⟩
  ·simp at h1
 | bool=>
  refine ⟨fun t h=>?_,fun fs off h=>by simp [nL] at h⟩
  simp only [nL,Bool.and_eq_true] at h
  obtain ⟨h1,h2⟩:=h
  split at h1
  ·rename_i hu; exact ⟨hu,wJ h2⟩
  ·simp at h1
 | str=>
  refine ⟨fun t h=>?_,fun fs off h=>by simp [nL] at h⟩
  simp only [nL,Bool.and_eq_true] at h
  obtain ⟨h1,h2⟩:=h
  split at h1
  ·rename_i hu; exact ⟨hu,wJ h2⟩
  ·simp at h1
 | sl e k ih=>
  refine ⟨fun t h=>?_,fun fs off h=>by simp [nL] at h⟩
  simp only [nL,Bool.and_eq_true] at h
  obtain ⟨⟨⟨⟨h1,h2⟩,h3⟩,h4⟩,h5⟩:=h
  split at h1
  ·rename_i e' hu
   have:=Nat.eq_of_beq_eq_true h1; subst this
   split at h5
   ·rename_i i hi
    simp only [Bool.and_eq_true] at h5
    exact ⟨hu,wJ h2,ih.1 e h3,UK h4,i,hi,Nat.eq_of_beq_eq_true h5.1,UK h5.2⟩
   ·simp at h5
  ·simp at h1
 | unit=>exact ⟨fun t h=>by simp [nL] at h,fun fs off h=>show fs=[] by simpa [nL] using h⟩
 | gap n=>exact ⟨fun t h=>by simp [nL] at h,fun fs off h=>by simp [nL] at h⟩
 | id e=>
  refine ⟨fun t h=>?_,fun fs off h=>by simp [nL] at h⟩
  simp only [nL,Bool.and_eq_true] at h
  obtain ⟨⟨h1,h2⟩,h3⟩:=h
  split at h1
  ·rename_i e' hu
   have:=Nat.eq_of_beq_eq_true h1; subst this
   exact ⟨hu,wJ h2,h3⟩
  ·simp at h1
 | pair a b iha ihb=>
  refine ⟨fun t h=>by simp [nL] at h,fun fs off h=>?_⟩
  cases fs with
  | nil=>simp [nL] at h
  | cons f fs=>
   simp only [nL,Bool.and_eq_true] at h
   obtain ⟨⟨⟨h1,h2⟩,h3⟩,h4⟩:=h
   exact ⟨Nat.eq_of_beq_eq_true h1,iha.1 _ h2,UK h3,ihb.2 _ _ h4⟩
 | st c ih=>
  refine ⟨fun t h=>?_,fun fs off h=>by simp [nL] at h⟩
  simp only [nL,Bool.and_eq_true] at h
  obtain ⟨h1,h2⟩:=h
  split at h1
  ·rename_i fs hu
   exact ⟨⟨fs,hu,ih.2 _ _ h1⟩,wJ h2⟩
  ·simp at h1
theorem Tu {A:Type} {n:Nat} {a:A}:∀{l:List (Nat×A)},look n l=some a→(n,a)∈l
 | [],h=>by simp [look] at h
 | (m,b) :: l,h=>by
  simp only [look] at h
  cases hb:Nat.beq n m with
  | true=>
   rw [hb] at h
   have:=Nat.eq_of_beq_eq_true hb
   simp only [cond_true,Option.some.injEq] at h
   subst this h
   simp
  | false=>
   rw [hb] at h
   exact .tail _ (Tu h)
theorem abT {L:YU} (h:Fa P L=true):fq P L.tab:=by
 unfold Fa at h
 simp only [Bool.and_eq_true,List.all_eq_true] at h
 refine ⟨fun t k ht=>abW.1 t (h.1 (t,k) (Tu ht)),fun t ht=>?_⟩
 have:=h.2 t (aL.1 ht)
 split at this
 ·rename_i e he; exact ⟨e,he⟩
 ·simp at this
theorem agO {L:YU}:Ot P L.tab:=fun t c x y u v w hp1 hp2 ok1 ok2 _ he=>by simp [YU.tab] at he
end
end Go.Proofs.YtdknpknohipffaaGreat.Ow

/- The framework, part 64: what a call list asks. Own work of this seat. -/
namespace Go.Proofs.YtdknpknohipffaaGreat.Ow
open Go
abbrev gK (T:jF) (hi:Hint) (fn:Func) (E:Entry):Prop:=∀n (c:Cont (kin E.ps)),fQ T hi fn E.ps E.rs n c=E.F n c
variable [Fr] {P:Program} {n:Nat}
theorem aA:∀q∈([]:List (Nat×Option Nat×Entry)),ak P n q.2.2:=by simp
theorem aa {f:Nat} {d:Option Nat} {E:Entry} {l:List (Nat×Option Nat×Entry)} (h:ak P n E) (t:∀q∈l,ak P n q.2.2):∀q∈(f,d,E) :: l,ak P n q.2.2:=by
 intro q hq
 rcases List.mem_cons.1 hq with rfl | hq
 ·exact h
 ·exact t q hq
theorem aj (hm:P.follows .mixedOrders=true) {L:YU} (hL:Fa P L=true) {E:Entry} {fn:Func} (hf:P.funcs[E.f]?=some fn) (hname:(fn.name == "runtime.NumGoroutine")=false) {hi:Hint} (hC:∀q∈hi.calls,ak P n q.2.2)
  (hD:∀n (c:Cont (kin E.ps)),fQ L.tab hi fn E.ps E.rs n c=E.F n c):ak P n E:=
 UZ hm (abT hL) agO hf hname hC (fun c out h=>by rw [hD]; exact h)
end Go.Proofs.YtdknpknohipffaaGreat.Ow

/- The framework, part 65: loops, by themselves. Own work of this seat. -/
namespace Go.Proofs.YtdknpknohipffaaGreat.Ow
open Go
def fF {A:Type} (xs:List A) (i:Nat) (d:A) (f:A→A):List A:=xs.set i (f (xs.getD i d))
def bY {R:Type} (step:Nat→Option R) (fin:R):Nat→Nat→R
 | 0,_=>fin
 | m+1,i=>match step i with
  | some r=>r
  | none=>bY step fin m (i+1)
theorem VD {V R:Type} {B:(V→Option R)→V→Option R} (S:Nat→V) (step:Nat→Option (Option R)) (fin:Option R) {m:Nat} (h1:∀L i,i<m→(∀j,j<i→step j=none)→B L (S i)=match step i with | some r=>r | none=>L (S (i+1))) (h2:∀L,(∀j,j<m→step j=none)→B L (S m)=fin) :
  ∀(d i n:Nat),i+d=m→d<n→(∀j,j<i→step j=none)→rounds B n (S i)=bY step fin d i:=by
 intro d
 induction d with
 | zero=>
  intro i n hi hn hp
  cases n with
  | zero=>omega
  | succ n=>
   have:i=m:=by omega
   subst this
   exact h2 _ hp
 | succ d ih=>
  intro i n hi hn hp
  cases n with
  | zero=>omega
  | succ n=>
   show B (rounds B n) (S i)=_
   rw [h1 _ i (by omega) hp]
   unfold bY
   cases hs:step i with
   | some r=>rfl
   | none=>exact ih (i+1) n (by omega) (by omega) (fun j hj=>by
     by_cases e:j=i
     ·rw [e,hs]
     ·exact hp j (by omega))
theorem aO {V R:Type} {B:(V→Option R)→V→Option R} {v0:V} (S:Nat→V) (step:Nat→Option (Option R)) (fin:Option R) {m n:Nat} (h0:v0=S 0) (hn:m<n) (h1:∀L i,i<m→(∀j,j<i→step j=none)→B L (S i)=match step i with | some r=>r | none=>L (S (i+1))) (h2:∀L,(∀j,j<m→step j=none)→B L (S m)=fin) :
  rounds B n v0=bY step fin m 0:=by
 rw [h0]
 exact VD S step fin h1 h2 m 0 n (by omega) hn (fun j h=>by omega)
theorem XF {A:Type} (d:A) {xs:List A} {i:Nat} (h:i<xs.length):(xs.take i++List.replicate (xs.length - i) d).set ((i:Int).toNat) xs[i]=xs.take (i+1)++List.replicate (xs.length - (i+1)) d:=by
 rw [Int.toNat_natCast]
 apply List.ext_getElem
 ·simp; omega
 ·intro j h1 h2
  rw [List.getElem_set]
  split
  ·rename_i e
   subst e
   rw [List.getElem_append_left (by simp; omega)]
   simp
  ·rename_i e
   simp only [List.getElem_append,List.length_take,List.getElem_take,List.getElem_replicate]
   split <;> split <;> first | rfl | omega
theorem dU {A:Type} {l:List A} {i:Nat} (h:i<l.length) (d:A):l.getD ((i:Int).toNat) d=l[i]:=by
 simp [h]
theorem bJ {R:Type} {step:Nat→Option R} {fin:R}:∀{m i:Nat},(∀j,i≤j→j<i+m→step j=none)→bY step fin m i=fin:=by
 intro m
 induction m with
 | zero=>intro i _; rfl
 | succ m ih=>
  intro i h
  unfold bY
  rw [h i (Nat.le_refl _) (by omega)]
  exact ih (fun j h1 h2=>h j (by omega) (by omega))
theorem QG {R:Type} {s1 s2:Nat→Option R} {f1 f2:R} (hf:f1=f2):∀{m i:Nat},(∀j,i≤j→j<i+m→s1 j=s2 j)→bY s1 f1 m i=bY s2 f2 m i:=by
 intro m
 induction m with
 | zero=>intro i _; exact hf
 | succ m ih=>
  intro i h
  unfold bY
  rw [h i (Nat.le_refl _) (by omega)]
  cases s2 i with
  | some r=>rfl
  | none=>exact ih (fun j h1 h2=>h j (by omega) (by omega))
theorem Ig {R:Type} {step:Nat→Option R} {fin r:R} (hc:∀j,step j=none∨step j=some r):∀{m i:Nat},bY step fin m i=r∨bY step fin m i=fin:=by
 intro m
 induction m with
 | zero=>intro i; exact .inr rfl
 | succ m ih=>
  intro i
  unfold bY
  rcases hc i with h | h
  ·rw [h]; exact ih
  ·rw [h]; exact .inl rfl
theorem wrap_i64 {x:Int} (h1 : -9223372036854775808≤x) (h2:x≤9223372036854775807):IntKind.i64.wrap x=x:=by
 simp [IntKind.wrap,IntKind.bits,IntKind.signed]
 omega
theorem aN {i:Nat} {n:Nat} (h:i<n) (hn:n≤9223372036854775807):IntKind.i64.wrap ((i:Int)+1)=((i+1:Nat):Int):=by
 rw [wrap_i64 (by omega) (by omega)]
 omega
theorem aG {i n:Nat} (h:i<n):aH (i:Int) n:=⟨by omega,by omega⟩
end Go.Proofs.YtdknpknohipffaaGreat.Ow

/- The framework, part 66: functions that are known by a contract. Own work of this seat. -/
namespace Go.Proofs.YtdknpknohipffaaGreat.Ow
open Go
variable [Fr]
section
variable {P:Program} {cx:Cx} {σ:St} {α:dN} {F:List Nat} {a:Act} {w w':World}
theorem Rel.grown (H:Rel cx σ α F a w) (hO:Zw w w') (ht:w'.tape=w.tape):Rel cx σ α F a w':=H.aae hO.1 hO.2.1 hO.2.2.1 hO.2.2.2 ht
end
end Go.Proofs.YtdknpknohipffaaGreat.Ow

/- The framework, part 67: functions that are known by a contract and give a new row. Own work of this seat. -/
namespace Go.Proofs.YtdknpknohipffaaGreat.Ow
open Go
variable [Fr]
section
variable {P:Program} {cx:Cx} {σ:St} {α:dN} {F:List Nat} {a:Act} {w w':World}
end
end Go.Proofs.YtdknpknohipffaaGreat.Ow

/- The framework, part 68: functions that are known by a contract and read what is lent; functions that call themselves. Own work of this seat. -/
namespace Go.Proofs.YtdknpknohipffaaGreat.Ow
open Go
variable [Fr]
section
variable {P:Program} {cx:Cx} {σ:St} {α:dN} {F:List Nat} {a:Act} {w w':World}
end
end Go.Proofs.YtdknpknohipffaaGreat.Ow

/- The framework, part 69: rows that are not looked into, and the same rows looked into. Own work of this seat. -/
namespace Go.Proofs.YtdknpknohipffaaGreat.Ow
open Go
section
variable {e:TypeId} {kk:K}
def Rw (e:TypeId) (kk:K) (z:Bool) (tb:Nat→List (El kk)):(k k':K)→El k→El k'→List Nat→Prop
 | .sl f k, .id f',xs,i,ns=>f=e∧f'=e∧∃h:k=kk,h▸(show List (El k) from xs)=tb i∧((i≠(0:Nat)∧ns=[i])∨(z=true∧i=(0:Nat)∧tb 0=[]∧ns=[]))
 | .sl f k, .sl f' k',xs,ys,ns=>f=f'∧k'.size=k.size∧(show List (El k) from xs).length=(show List (El k') from ys).length∧∃nss:List (List Nat),nss.length=(show List (El k) from xs).length∧ns=nss.flatten∧
   ∀(i:Nat) (h1:i<(show List (El k) from xs).length) (h2:i<(show List (El k') from ys).length),Rw e kk z tb k k' ((show List (El k) from xs)[i]) ((show List (El k') from ys)[i]) (nss.getD i [])
 | .pair a b, .pair a' b',x,y,ns=>∃n1 n2,ns=n1++n2∧Rw e kk z tb a a' x.1 y.1 n1∧Rw e kk z tb b b' x.2 y.2 n2
 | .st f, .st f',x,y,ns=>Rw e kk z tb f f' x y ns
 | .int ik, .int jk,x,y,ns=>ik=jk∧(show Int from x)=y∧ns=[]
 | .bool, .bool,x,y,ns=>(show Bool from x)=y∧ns=[]
 | .str, .str,x,y,ns=>(show List Int from x)=y∧ns=[]
 | .unit, .unit,_,_,ns=>ns=[]
 | _,_,_,_,_=>False
theorem Rw.size {z:Bool} {tb:Nat→List (El kk)}:∀{k k':K} {x:El k} {y:El k'} {ns:List Nat},Rw e kk z tb k k' x y ns→k'.size=k.size:=by
 intro k
 induction k with
 | sl f k ih=>intro k' x y ns h; cases k' <;> first | rfl | exact h.elim
 | pair a b iha ihb=>
  intro k' x y ns h
  cases k' with
  | pair a' b'=>unfold Rw at h; obtain ⟨n1,n2,_,h1,h2⟩:=h; simp [K.size,iha h1,ihb h2]
  | _=>exact h.elim
 | st f ih=>
  intro k' x y ns h
  cases k' with
  | st f'=>unfold Rw at h; exact ih (k':=f') (x:=x) (y:=y) (ns:=ns) h
  | _=>exact h.elim
 | int ik=>intro k' x y ns h; cases k' <;> first | rfl | exact h.elim
 | bool=>intro k' x y ns h; cases k' <;> first | rfl | exact h.elim
 | str=>intro k' x y ns h; cases k' <;> first | rfl | exact h.elim
 | unit=>intro k' x y ns h; cases k' <;> first | rfl | exact h.elim
 | gap n=>intro k' x y ns h; cases k' <;> exact h.elim
 | id f=>intro k' x y ns h; cases k' <;> exact h.elim
abbrev OW:=Nat×Value×List Nat
def aS (l:List OW):List Nat:=l.flatMap (·.2.2)
theorem GN:∀(l:List (List OW)),aS l.flatten=(l.map aS).flatten
 | []=>rfl
 | a :: l=>by
  simp only [List.flatten_cons,List.map_cons]
  unfold aS at *
  rw [List.flatMap_append]
  congr 1
  exact GN l
theorem GI {A:Type}:∀{bz fs gs:List (List A)},fs.length=bz.length→gs.length=bz.length→(∀i,i<bz.length→(bz.getD i []).Perm (fs.getD i []++gs.getD i []))→bz.flatten.Perm (fs.flatten++gs.flatten)
 | [],[],[],_,_,_=>.refl _
 | f :: bz,[],_,h,_,_=>by simp at h
 | f :: bz,_ :: _,[],_,h,_=>by simp at h
 | [],_ :: _,_,h,_,_=>by simp at h
 | [],[],_ :: _,_,h,_=>by simp at h
 | f :: bz,a :: fs,b :: gs,h1,h2,h=>by
  have h0:=h 0 (by simp)
  have ht:=GI (bz:=bz) (fs:=fs) (gs:=gs) (by simpa using h1) (by simpa using h2) (fun i hi=>by have:=h (i+1) (by simpa using hi); simpa using this)
  simp only [List.flatten_cons]
  have h0':f.Perm (a++b):=by simpa using h0
  refine (h0'.append ht).trans ?_
  simp only [List.append_assoc]
  refine List.Perm.append_left a ?_
  rw [←List.append_assoc, ←List.append_assoc]
  exact List.Perm.append_right _ List.perm_append_comm
variable [fr:Fr]
abbrev gI (fr:Fr) (iP:Nat→Value) (h0:iP 0=.slice none 0 0) (hs:∀i,∃a n c,iP i=.slice a n c):Fr:=⟨fr.free,fr.obj,iP,h0,hs⟩
theorem RQ {h:Heap} {own:List TypeId} {ok:Nat→Prop} {tb:Nat→List (El kk)}:∀{k k':K} {x:El k} {y:El k'} {ns:List Nat} {cs:List Value} {fo:List Nat},(∀t∈k.tys,ay t own=true)→
  Rw e kk false tb k k' x y ns→Ow h own ok k x cs fo→
  ∃(dX:List OW) (dK:List Nat),dX.map (·.1)=ns∧fo.Perm (dK++aS dX)∧(∀q∈dX,Ow h own ok (.sl e kk) (tb q.1) [q.2.1] q.2.2)∧
   ∀fr':Fr,fr'.free=fr.free→(∀q∈dX,fr'.iP q.1=q.2.1)→@Ow fr' h own ok k' y cs dK:=by
 intro k
 induction k with
 | sl f k ih=>
  intro k' x y ns cs fo hown hR hO
  cases k' with
  | id f'=>
   obtain ⟨rfl,rfl,hk,hx,hi⟩:=hR
   subst hk
   rcases hi with ⟨_,rfl⟩ | ⟨hz,_⟩
   ·have M8:=hO
    unfold Ow at hO
    rw [if_pos (hown f' (by simp [K.tys]))] at hO
    obtain ⟨a,n,c,rfl,_⟩:=hO
    refine ⟨[(y, .slice a n c,fo)],[],rfl,by simp [aS],fun q hq=>?_,fun fr' _ aow=>⟨rfl, ?_⟩⟩
    ·simp only [List.mem_singleton] at hq
     subst hq
     show Ow h own ok (.sl f' k) (tb y:List (El k)) _ _
     rw [←hx]
     exact M8
    ·show _=[fr'.iP y]
     rw [aow _ (List.mem_singleton.2 rfl)]
   ·simp at hz
  | sl f' k'=>
   obtain ⟨rfl,hsz,hl,nss,hnl,rfl,hat⟩:=hR
   have hf:ay f own=true:=hown f (by simp [K.tys])
   unfold Ow at hO
   rw [if_pos hf] at hO
   obtain ⟨a,n,c,rfl,hn,hnc,hO⟩:=hO
   rcases hO with ⟨hc,rfl⟩ | ⟨b,o,arr,lo,hi,rfl,hb,hfz,hoc,bz,hfl,hfo,hel⟩
   ·have h0:(show List (El k) from x).length=0:=by omega
    refine ⟨[],[], ?_,by simp [aS],fun q hq=>by simp at hq,fun fr' _ _=>?_⟩
    ·have:nss=[]:=List.length_eq_zero_iff.1 (by omega)
     rw [this]; rfl
    ·unfold Ow
     rw [if_pos hf]
     exact ⟨a,n,c,rfl,by omega,hnc, .inl ⟨hc,rfl⟩⟩
   ·have hone:∀i,i<(show List (El k) from x).length→∃q:List OW×List Nat,∀(h1:i<(show List (El k) from x).length) (h2:i<(show List (El k') from y).length),q.1.map (·.1)=nss.getD i []∧(bz.getD i []).Perm (q.2++aS q.1)∧(∀t∈q.1,Ow h own ok (.sl e kk) (tb t.1) [t.2.1] t.2.2)∧
      ∀fr':Fr,fr'.free=fr.free→(∀t∈q.1,fr'.iP t.1=t.2.1)→∃ds, @Cells h b (o+i * k.size) ds∧@Ow fr' h own ok k' ((show List (El k') from y)[i]) ds q.2:=by
     intro i h1
     obtain ⟨ds,g1,g2⟩:=hel i h1
     obtain ⟨dX,dK,f1,f2,f3,f4⟩:=ih (fun t ht=>hown t (by simp [K.tys,ht])) (hat i h1 (by omega)) g2
     exact ⟨(dX,dK),fun _ _=>⟨f1,f2,f3,fun fr' e1 e2=>⟨ds,g1,f4 fr' e1 e2⟩⟩⟩
    obtain ⟨qs,hql,hq⟩:=Ka hone
    refine ⟨(qs.map (·.1)).flatten,b :: (qs.map (·.2)).flatten, ?_, ?_, ?_,fun fr' e1 e2=>?_⟩
    ·rw [List.map_flatten,List.map_map]
     congr 1
     apply List.ext_getElem
     ·simp; omega
     ·intro i h1 h2
      have hi:i<qs.length:=by simpa using h1
      have:=(hq i hi (by omega) (by omega)).1
      simp only [List.getElem_map,Function.comp_apply]
      rw [this,List.getD_eq_getElem?_getD,List.getElem?_eq_getElem h2]
      rfl
    ·refine hfo.trans ?_
     rw [GN,List.cons_append]
     refine List.Perm.cons b (GI (by simp; omega) (by simp; omega) fun i hi=>?_)
     have hi':i<qs.length:=by omega
     have:=(hq i hi' (by omega) (by omega)).2.1
     simp only [List.getD_eq_getElem?_getD,List.getElem?_map,List.getElem?_eq_getElem hi',Option.map_some,Option.getD_some,List.map_map,Function.comp_apply] at this ⊢
     exact this
    ·intro t ht
     obtain ⟨l,hl,ht⟩:=List.mem_flatten.1 ht
     obtain ⟨q,hq',rfl⟩:=List.mem_map.1 hl
     obtain ⟨i,hi,rfl⟩:=List.getElem_of_mem hq'
     exact (hq i hi (by omega) (by omega)).2.2.1 t ht
    ·unfold Ow
     rw [if_pos hf]
     refine ⟨_,n,c,rfl,by omega,hnc, .inr ⟨b,o,arr,lo,hi,rfl,hb,hfz, ?_,qs.map (·.2),by rw [List.length_map,hql]; exact hl, .refl _,fun i hi'=>?_⟩⟩
     ·rw [hsz]; exact hoc
     ·have hiq:i<qs.length:=by omega
      obtain ⟨ds,g1,g2⟩:=(hq i hiq (by omega) hi').2.2.2 fr' e1 (fun t ht=>e2 t (List.mem_flatten.2 ⟨_,List.mem_map.2 ⟨qs[i],List.getElem_mem hiq,rfl⟩,ht⟩))
      refine ⟨ds, ?_, ?_⟩
      ·rw [hsz]; exact g1
      ·have:(qs.map (·.2)).getD i []=qs[i].2:=by simp [List.getD_eq_getElem?_getD,List.getElem?_map,List.getElem?_eq_getElem hiq]
       rw [this]
       exact g2
  | _=>exact hR.elim
 | pair a b iha ihb=>
  intro k' x y ns cs fo hown hR hO
  cases k' with
  | pair a' b'=>
   obtain ⟨n1,n2,rfl,r1,r2⟩:=hR
   obtain ⟨c1,c2,f1,f2,rfl,hp,o1,o2⟩:=hO
   obtain ⟨t1,g1,p1,p2,p3,p4⟩:=iha (fun t ht=>hown t (by simp [K.tys,ht])) r1 o1
   obtain ⟨t2,g2,q1,q2,q3,q4⟩:=ihb (fun t ht=>hown t (by simp [K.tys,ht])) r2 o2
   refine ⟨t1++t2,g1++g2,by rw [List.map_append,p1,q1], ?_,fun q hq=>?_,fun fr' e1 e2=>⟨c1,c2,g1,g2,rfl, .refl _,p4 fr' e1 (fun q hq=>e2 q (List.mem_append_left _ hq)),q4 fr' e1 (fun q hq=>e2 q (List.mem_append_right _ hq))⟩⟩
   ·refine hp.trans ((p2.append q2).trans ?_)
    have:aS (t1++t2)=aS t1++aS t2:=by simp [aS]
    rw [this]
    simp only [List.append_assoc]
    refine List.Perm.append_left g1 ?_
    rw [←List.append_assoc, ←List.append_assoc]
    exact List.Perm.append_right _ List.perm_append_comm
   ·rcases List.mem_append.1 hq with hq | hq
    ·exact p3 q hq
    ·exact q3 q hq
  | _=>exact hR.elim
 | st f ih=>
  intro k' x y ns cs fo hown hR hO
  cases k' with
  | st f'=>
   obtain ⟨dX,dK,f1,f2,f3,f4⟩:=ih (k':=f') (x:=x) (y:=y) (ns:=ns) (cs:=cs) (fo:=fo) hown hR hO
   exact ⟨dX,dK,f1,f2,f3,fun fr' e1 e2=>f4 fr' e1 e2⟩
  | _=>exact hR.elim
 | int ik=>
  intro k' x y ns cs fo hown hR hO
  cases k' with
  | int jk=>
   obtain ⟨rfl,rfl,rfl⟩:=hR
   exact ⟨[],fo,rfl,by simp [aS],fun q hq=>by simp at hq,fun _ _ _=>hO⟩
  | _=>exact hR.elim
 | bool=>
  intro k' x y ns cs fo hown hR hO
  cases k' with
  | bool=>
   obtain ⟨rfl,rfl⟩:=hR
   exact ⟨[],fo,rfl,by simp [aS],fun q hq=>by simp at hq,fun _ _ _=>hO⟩
  | _=>exact hR.elim
 | str=>
  intro k' x y ns cs fo hown hR hO
  cases k' with
  | str=>
   obtain ⟨rfl,rfl⟩:=hR
   exact ⟨[],fo,rfl,by simp [aS],fun q hq=>by simp at hq,fun _ _ _=>hO⟩
  | _=>exact hR.elim
 | unit=>
  intro k' x y ns cs fo hown hR hO
  cases k' with
  | unit=>
   have:ns=[]:=hR
   subst this
   exact ⟨[],fo,rfl,by simp [aS],fun q hq=>by simp at hq,fun _ _ _=>hO⟩
  | _=>exact hR.elim
 | gap n=>intro k' x y ns cs fo _ hR; cases k' <;> exact hR.elim
 | id f=>intro k' x y ns cs fo _ hR; cases k' <;> exact hR.elim
theorem PR {A B:Type} (f:A→B):∀{nss:List (List B)} {l:List A},l.map f=nss.flatten→∃RB:List (List A),RB.flatten=l∧RB.map (·.map f)=nss
 | [],l,h=>by
  have:l=[]:=by simpa using h
  exact ⟨[],by simp [this],rfl⟩
 | ns :: nss,l,h=>by
  rw [List.flatten_cons,List.map_eq_append_iff] at h
  obtain ⟨l1,l2,rfl,h1,h2⟩:=h
  obtain ⟨RB,g1,g2⟩:=PR f h2
  exact ⟨l1 :: RB,by simp [g1],by simp [h1,g2]⟩
theorem Qg {h:Heap} {own:List TypeId} {ok:Nat→Prop} {tb:Nat→List (El kk)} (fr':Fr):∀{k k':K} {x:El k} {y:El k'} {dX:List OW} {cs:List Value} {dK:List Nat},(∀t∈k.tys,ay t own=true)→
  Rw e kk true tb k k' x y (dX.map (·.1))→@Ow fr' h own ok k' y cs dK→(∀q∈dX, @Ow fr h own ok (.sl e kk) (tb q.1) [q.2.1] q.2.2∧fr'.iP q.1=q.2.1)→@Ow fr h own ok k x cs (dK++aS dX):=by
 intro k
 induction k with
 | sl f k ih=>
  intro k' x y dX cs dK hown hR hO htr
  cases k' with
  | id f'=>
   obtain ⟨rfl,rfl,hk,hx,hi⟩:=hR
   subst hk
   obtain ⟨rfl,hcs⟩:=hO
   have hcs:cs=[fr'.iP y]:=hcs
   subst hcs
   rcases hi with ⟨_,hns⟩ | ⟨_,h0,hx0,hns⟩
   ·cases dX with
    | nil=>simp at hns
    | cons q l=>
     cases l with
     | cons _ _=>simp at hns
     | nil=>
      simp only [List.map_cons,List.map_nil,List.cons.injEq,and_true] at hns
      obtain ⟨g1,g2⟩:=htr q (by simp)
      rw [hns] at g1 g2
      have hx':(show List (El k) from x)=tb y:=hx
      show @Ow fr h own ok (.sl f' k) (show List (El k) from x) _ _
      rw [hx',g2]
      simpa [aS] using g1
   ·have ht:dX=[]:=by simpa using hns
    subst ht
    have hy:y=(0:Nat):=h0
    subst hy
    have hx':(show List (El k) from x)=[]:=hx.trans hx0
    rw [fr'.agE]
    unfold Ow
    rw [if_pos (hown f' (by simp [K.tys]))]
    exact ⟨none,0,0,rfl,by rw [hx']; rfl,Nat.le_refl _, .inl ⟨rfl,rfl⟩⟩
  | sl f' k'=>
   obtain ⟨rfl,hsz,hl,nss,hnl,hns,hat⟩:=hR
   have hf:ay f own=true:=hown f (by simp [K.tys])
   unfold Ow at hO ⊢
   rw [if_pos hf] at hO ⊢
   obtain ⟨a,n,c,rfl,hn,hnc,hO⟩:=hO
   obtain ⟨RB,rfl,hts⟩:=PR (fun q:OW=>q.1) hns
   have htl:RB.length=nss.length:=by rw [←hts,List.length_map]
   rcases hO with ⟨hc,rfl⟩ | ⟨b,o,arr,lo,hi,rfl,hb,hfz,hoc,bz,hfl,hfo,hel⟩
   ·have h0:(show List (El k) from x).length=0:=by omega
    have:RB=[]:=List.length_eq_zero_iff.1 (by omega)
    subst this
    exact ⟨a,n,c,rfl,by omega,hnc, .inl ⟨hc,rfl⟩⟩
   ·have hone:∀i (hi1:i<(show List (El k) from x).length),∃ds,Cells h b (o+i * k.size) ds∧@Ow fr h own ok k ((show List (El k) from x)[i]) ds (bz.getD i []++aS (RB.getD i [])):=by
     intro i h1
     obtain ⟨ds,g1,g2⟩:=hel i (by omega)
     have hti:i<RB.length:=by omega
     have e1:RB.getD i []=RB[i]:=by simp [hti]
     have e2:nss.getD i []=(RB[i]).map (·.1):=by
      rw [←hts]
      simp [hti]
     have hR':=hat i h1 (by omega)
     rw [e2] at hR'
     refine ⟨ds,by rw [←hsz]; exact g1, ?_⟩
     rw [e1]
     exact ih (fun t ht=>hown t (by simp [K.tys,ht])) hR' g2 (fun q hq=>htr q (List.mem_flatten.2 ⟨_,List.getElem_mem hti,hq⟩))
    refine ⟨_,n,c,rfl,by omega,hnc, .inr ⟨b,o,arr,lo,hi,rfl,hb,hfz,by rw [←hsz]; exact hoc,(List.range (show List (El k) from x).length).map fun i=>bz.getD i []++aS (RB.getD i []),by simp, ?_,fun i h1=>?_⟩⟩
    ·refine (hfo.append_right _).trans ?_
     rw [List.cons_append]
     refine List.Perm.cons b ?_
     rw [GN]
     refine (GI (bz:=(List.range (show List (El k) from x).length).map fun i=>bz.getD i []++aS (RB.getD i [])) (fs:=bz) (gs:=RB.map aS) (by rw [List.length_map,List.length_range]; omega) (by rw [List.length_map,List.length_map,List.length_range]; omega) fun i hi1=>?_).symm
     have hi2:i<(show List (El k) from x).length:=by simpa using hi1
     have hti:i<RB.length:=by omega
     simp [List.getD_eq_getElem?_getD,List.getElem?_map,List.getElem?_range,hi2,hti]
    ·obtain ⟨ds,g1,g2⟩:=hone i h1
     refine ⟨ds,g1, ?_⟩
     have:((List.range (show List (El k) from x).length).map fun i=>bz.getD i []++aS (RB.getD i [])).getD i []=bz.getD i []++aS (RB.getD i []):=by
      simp [List.getD_eq_getElem?_getD,List.getElem?_map,List.getElem?_range,h1]
     rw [this]
     exact g2
  | _=>exact hR.elim
 | pair a b iha ihb=>
  intro k' x y dX cs dK hown hR hO htr
  cases k' with
  | pair a' b'=>
   obtain ⟨n1,n2,hns,r1,r2⟩:=hR
   obtain ⟨c1,c2,f1,f2,rfl,hp,o1,o2⟩:=hO
   rw [List.map_eq_append_iff] at hns
   obtain ⟨t1,t2,rfl,rfl,rfl⟩:=hns
   refine ⟨c1,c2,f1++aS t1,f2++aS t2,rfl, ?_,iha (fun t ht=>hown t (by simp [K.tys,ht])) r1 o1 (fun q hq=>htr q (List.mem_append_left _ hq)),ihb (fun t ht=>hown t (by simp [K.tys,ht])) r2 o2 (fun q hq=>htr q (List.mem_append_right _ hq))⟩
   refine (hp.append_right _).trans ?_
   have:aS (t1++t2)=aS t1++aS t2:=by simp [aS]
   rw [this]
   simp only [List.append_assoc]
   refine List.Perm.append_left f1 ?_
   rw [←List.append_assoc, ←List.append_assoc]
   exact List.Perm.append_right _ List.perm_append_comm
  | _=>exact hR.elim
 | st f ih=>
  intro k' x y dX cs dK hown hR hO htr
  cases k' with
  | st f'=>exact ih (k':=f') (x:=x) (y:=y) (dX:=dX) (cs:=cs) (dK:=dK) hown hR hO htr
  | _=>exact hR.elim
 | int ik=>
  intro k' x y dX cs dK hown hR hO htr
  cases k' with
  | int jk=>
   obtain ⟨rfl,rfl,hns⟩:=hR
   have:dX=[]:=by simpa using hns
   subst this
   have e0:dK++aS []=dK:=List.append_nil _
   rw [e0]
   exact hO
  | _=>exact hR.elim
 | bool=>
  intro k' x y dX cs dK hown hR hO htr
  cases k' with
  | bool=>
   obtain ⟨rfl,hns⟩:=hR
   have:dX=[]:=by simpa using hns
   subst this
   have e0:dK++aS []=dK:=List.append_nil _
   rw [e0]
   exact hO
  | _=>exact hR.elim
 | str=>
  intro k' x y dX cs dK hown hR hO htr
  cases k' with
  | str=>
   obtain ⟨rfl,hns⟩:=hR
   have:dX=[]:=by simpa using hns
   subst this
   have e0:dK++aS []=dK:=List.append_nil _
   rw [e0]
   exact hO
  | _=>exact hR.elim
 | unit=>
  intro k' x y dX cs dK hown hR hO htr
  cases k' with
  | unit=>
   have hns:dX.map (·.1)=[]:=hR
   have:dX=[]:=by simpa using hns
   subst this
   have e0:dK++aS []=dK:=List.append_nil _
   rw [e0]
   exact hO
  | _=>exact hR.elim
 | gap n=>intro k' x y dX cs dK _ hR; cases k' <;> exact hR.elim
 | id f=>intro k' x y dX cs dK _ hR; cases k' <;> exact hR.elim
def GH:K→Bool
 | .id _=>false
 | .sl _ k=>GH k
 | .pair a b=>GH a && GH b
 | .st f=>GH f
 | _=>true
theorem ZC {h:Heap} {ok:Nat→Prop} (fr':Fr) (hf:fr'.free=fr.free):∀{k:K} {x:El k} {cs:List Value},GH k=true→@Vw fr h ok k x cs→@Vw fr' h ok k x cs:=by
 intro k
 induction k with
 | sl f k ih=>
  intro x cs hk H
  obtain ⟨a,n,c,e1,e2,e3,H⟩:=H
  refine ⟨a,n,c,e1,e2,e3,fun hn=>?_⟩
  obtain ⟨b,o,ea,hb,ht,H⟩:=H hn
  refine ⟨b,o,ea,hb,ht.imp id (fun h=>by rw [hf]; exact h),fun i hi=>?_⟩
  obtain ⟨ds,h1,h2⟩:=H i hi
  exact ⟨ds,h1,ih hk h2⟩
 | pair a b iha ihb=>
  intro x cs hk H
  simp only [GH,Bool.and_eq_true] at hk
  obtain ⟨c1,c2,e,h1,h2⟩:=H
  exact ⟨c1,c2,e,iha hk.1 h1,ihb hk.2 h2⟩
 | st f ih=>intro x cs hk H; exact ih (x:=x) (cs:=cs) hk H
 | id f=>intro x cs hk; simp [GH] at hk
 | int ik=>intro x cs _ H; exact H
 | bool=>intro x cs _ H; exact H
 | str=>intro x cs _ H; exact H
 | unit=>intro x cs _ H; exact H
 | gap n=>intro x cs _ H; exact H
def Dc (cx:Cx) (bad:List Nat):Cx:={ cx with
 par:=fun j=>(cx.par j).map fun pi=>{ pi with bl:=pi.bl.filter fun b=>!ay b bad }
 ptrs:=fun _ _ _ _=>False
 refs:=fun _ _=>False }
theorem pK {cx:Cx} {bad:List Nat} {j:Nat} {IA:Xm} (h:(Dc cx bad).par j=some IA):∃pi,cx.par j=some pi∧IA={ pi with bl:=pi.bl.filter fun b=>!ay b bad }:=by
 simp only [Dc,Option.map_eq_some_iff] at h
 obtain ⟨pi,h1,h2⟩:=h
 exact ⟨pi,h1,h2.symm⟩
theorem MG {cx:Cx} {bad:List Nat} {b:Nat}:nG (Dc cx bad) b↔nG cx b:=by
 constructor
 ·rintro ⟨j,IA,o,n,h1,h2⟩
  obtain ⟨pi,g1,rfl⟩:=pK h1
  exact ⟨j,pi,o,n,g1,h2⟩
 ·rintro ⟨j,pi,o,n,h1,h2⟩
  exact ⟨j,{ pi with bl:=pi.bl.filter fun b=>!ay b bad },o,n,by simp [Dc,h1],h2⟩
def Va (T:List Tag):Prop:=∀t∈T,fK t.1=true
def HZ:Br→Prop
 | .one .undef=>True
 | .one (.ptr r p n)=>r=au 0∧p=[]∧n=0
 | .one (.val k _ T)=>GH k=true∧Va T
 | .one (.fn _ cs)=>∀c∈cs,GH c.2.1.1=true∧Va c.2.2∧c.1=SENT
 | _=>False
section
variable {cx:Cx} {σ:St} {α:dN} {a:Act} {w:World}
theorem abt {R0 R1:Root} {dK bad:List Nat} (h0:∀r R,aR σ r R→r=au 0∧R=R0) (h1:aR σ (au 0) R0) (hk:R1.kind=R0.kind) (hsub:∀b∈dK,b∈α.fo (au 0)) (hbad:∀b∈bad,b∈α.fo (au 0)) {T:List Tag} (hT:Va T) {b:Nat} (h:iU cx σ α [] w T b) :
  iU (Dc cx bad) (az σ (au 0) R1) (aJ α (au 0) (α.loc (au 0)) (α.hdr (au 0)) dK) [] w T b:=by
 obtain ⟨g1,g2,g3,g4,g5⟩:=h
 refine ⟨g1,g2,fun hb=>g3 (MG.1 hb),fun r R hr hb=>?_,fun hlt=>?_⟩
 ·rcases jI hr with ⟨rfl,rfl,_⟩ | ⟨e,hr'⟩
  ·rw [eO] at hb
   refine g4 _ R0 h1 ?_
   rw [bT]
   unfold iE at hb ⊢
   rw [hk] at hb
   rcases List.mem_append.1 hb with h | h
   ·exact List.mem_append_left _ h
   ·exact List.mem_append_right _ (hsub b h)
  ·exact absurd (h0 r R hr').1 e
 ·rcases g5 hlt with ⟨j,n,f1,f2⟩ | ⟨j,pi,f1,f2⟩
  ·exact .inl ⟨j,n,f1,f2⟩
  ·refine .inr ⟨j,{ pi with bl:=pi.bl.filter fun b=>!ay b bad },by simp [Dc,f1], ?_⟩
   refine List.mem_filter.2 ⟨f2, ?_⟩
   cases hm:ay b bad with
   | false=>rfl
   | true=>
    have hb:=hbad b (aL.1 hm)
    obtain ⟨n,hn⟩:=g4 _ R0 h1 (by rw [bT]; exact List.mem_append_right _ hb)
    have:=hT _ hn
    rw [qH] at this
    simp at this
theorem MC {σ:St} {tys:List TypeId} {T:List Tag} (h:Va T):bg σ tys T=true:=qF.2 fun t ht=>.inl (h t ht)
structure F5 (cx:Cx) (σ:St) (α:dN) (R0 R1:Root) (dK bad:List Nat):Prop where
 only:∀r R,aR σ r R→r=au 0∧R=R0
 lv:aR σ (au 0) R0
 kind:R1.kind=R0.kind
 tags:R0.tags=[]
 sub:∀b∈dK,b∈α.fo (au 0)
 bad:∀b∈bad,b∈α.fo (au 0)
theorem F5.iU {R0 R1:Root} {dK bad:List Nat} (L:F5 cx σ α R0 R1 dK bad) {T:List Tag} (hT:Va T) {b:Nat} (h:Ow.iU cx σ α [] w T b) :
  Ow.iU (Dc cx bad) (az σ (au 0) R1) (aJ α (au 0) (α.loc (au 0)) (α.hdr (au 0)) dK) [] w T b:=abt L.only L.lv L.kind L.sub L.bad hT h
theorem F5.wh {R0 R1:Root} {dK bad:List Nat} (L:F5 cx σ α R0 R1 dK bad):eD (aJ α (au 0) (α.loc (au 0)) (α.hdr (au 0)) dK) R1 (au 0)=eD α R0 (au 0):=by
 rw [jX]
 unfold Aa eD
 rw [L.kind] <;> cases R0.kind <;> rfl
theorem F5.av (fr':Fr) (hf:fr'.free=fr.free) {R0 R1:Root} {dK bad:List Nat} (L:F5 cx σ α R0 R1 dK bad) {x:Br} {v:Value} (hx:HZ x) (h : @kJ fr cx σ α [] w x v) :
  @kJ fr' (Dc cx bad) (az σ (au 0) R1) (aJ α (au 0) (α.loc (au 0)) (α.hdr (au 0)) dK) [] w x v:=by
 have hv0:bq σ R0:=⟨L.lv.2,by rw [L.tags]; rfl⟩
 cases x with
 | Li l=>exact hx.elim
 | one x=>
  cases x with
  | undef=>trivial
  | ptr r p n=>
   obtain ⟨rfl,rfl,rfl⟩:=hx
   refine ⟨h.1,fun R hR _ _ _ _=>?_⟩
   rw [aK] at hR
   have hR:=Option.some.inj hR
   subst hR
   obtain ⟨_,cs,b,o,hn,e⟩:=h.2 R0 L.lv.1 hv0 (by unfold eB clean; simp [ay]) (fun t ht=>by simp [ah] at ht) rfl
   simp only [bF,Option.some.injEq,Prod.mk.injEq] at hn
   refine ⟨trivial,α.hdr (au 0),b,o, ?_,e⟩
   simp only [bF]
   rw [L.wh,hn.2]
   simp [aJ,upd_same]
  | val k x T=>
   intro _
   obtain ⟨cs,h1,h2⟩:=h (.inr (MC hx.2))
   exact ⟨cs,h1, @ZC fr _ _ fr' hf _ _ _ hx.1 (@fO fr _ _ _ _ (fun _ _=>rfl) (fun b hb=>L.iU hx.2 hb) _ _ _ h2)⟩
  | fn f cs=>
   obtain ⟨vs,e,hc⟩:=h
   refine ⟨vs,e, ?_⟩
   clear e
   have key:∀(cs:List (TypeId×Dat×List Tag)) (vs:List Value),(∀c∈cs,GH c.2.1.1=true∧Va c.2.2∧c.1=SENT)→@lD fr cx σ α [] w cs vs→@lD fr' (Dc cx bad) (az σ (au 0) R1) (aJ α (au 0) (α.loc (au 0)) (α.hdr (au 0)) dK) [] w cs vs:=by
    intro cs
    induction cs with
    | nil=>intro vs _ h; cases vs <;> exact h
    | cons c cs ih=>
     intro vs hc h
     cases vs with
     | nil=>exact h
     | cons v vs=>
      obtain ⟨⟨h1,h2⟩,h3⟩:=h
      obtain ⟨g1,g2,g3⟩:=hc c (by simp)
      refine ⟨⟨h1,fun _=>?_⟩,ih vs (fun c hc'=>hc c (by simp [hc'])) h3⟩
      obtain ⟨b,o,ds,e,q1,q2,⟨q3,q4,q5⟩,_⟩:=h2 (MC g2)
      refine ⟨b,o,ds,e,q1, @ZC fr _ _ fr' hf _ _ _ g1 (@fO fr _ _ _ _ (fun _ _=>rfl) (fun b hb=>L.iU g2 hb) _ _ _ q2),⟨q3,q4,fun r R hr hb=>?_⟩, .inl ⟨g3,g2⟩⟩
      rcases jI hr with ⟨rfl,rfl,_⟩ | ⟨e,hr'⟩
      ·rw [eO] at hb
       refine q5 _ R0 L.lv ?_
       rw [bT]
       unfold iE at hb ⊢
       rw [L.kind] at hb
       rcases List.mem_append.1 hb with h | h
       ·exact List.mem_append_left _ h
       ·exact List.mem_append_right _ (L.sub b h)
      ·exact absurd (L.only r R hr').1 e
   exact key cs vs hx hc
  | _=>exact hx.elim
theorem Vm:∀{dX:List OW},(dX.map (·.1)).Nodup→0∉dX.map (·.1)→(∀q∈dX,∃a n c,q.2.1=Value.slice a n c)→∃iP:Nat→Value,iP 0=.slice none 0 0∧(∀i,∃a n c,iP i=.slice a n c)∧∀q∈dX,iP q.1=q.2.1
 | [],_,_,_=>⟨fun _=>.slice none 0 0,rfl,fun _=>⟨none,0,0,rfl⟩,fun q hq=>by simp at hq⟩
 | q :: l,hn,h0,hs=>by
  rw [List.map_cons,List.nodup_cons] at hn
  rw [List.map_cons,List.mem_cons,not_or] at h0
  obtain ⟨iP,g1,g2,g3⟩:=Vm hn.2 h0.2 (fun q hq=>hs q (by simp [hq]))
  refine ⟨fun i=>if i=q.1 then q.2.1 else iP i,by simp only [if_neg h0.1]; exact g1,fun i=>?_,fun t ht=>?_⟩
  ·by_cases h:i=q.1
   ·simp only [if_pos h]; exact hs q (by simp)
   ·simp only [if_neg h]; exact g2 i
  ·rcases List.mem_cons.1 ht with rfl | ht
   ·simp only [if_true]
   ·have hne:¬t.1=q.1:=fun e=>hn.1 (List.mem_map.2 ⟨t,ht,e⟩)
    simp only [if_neg hne]; exact g3 t ht
theorem WV {h:Heap} {own:List TypeId} {ok:Nat→Prop} {xs:List (El kk)} {v:Value} {fo:List Nat} (he:ay e own=true) (H:Ow h own ok (.sl e kk) xs [v] fo):∃a n c,v=.slice a n c:=by
 unfold Ow at H
 rw [if_pos he] at H
 obtain ⟨a,n,c,hv,_⟩:=H
 simp only [List.cons.injEq,and_true] at hv
 exact ⟨a,n,c,hv⟩
theorem Yl (H:Rel cx σ α [] a w) (hw0:cx.w0=w) {R0:Root} (hR0:aR σ (au 0) R0) (pQ:∀r,r≠au 0→σ.roots r=none) (hpar:R0.kind=.par) (ve:R0.tags=[]) (hown:∀t∈R0.k.tys,ay t R0.own=true) (he:ay e R0.own=true)
  (hsl:∀s,HZ (σ.slots s)) {k':K} {x':El k'} {tb:Nat→List (El kk)} {ns:List Nat} (hR:Rw e kk false tb R0.k k' R0.x x' ns) (hnd:ns.Nodup) (hn0:0∉ns) (hown':∀t∈k'.tys,ay t R0.own=true) :
  ∃(dX:List OW) (dK:List Nat) (iP:Nat→Value) (h0:iP 0=.slice none 0 0) (hs:∀i,∃a n c,iP i=.slice a n c),dX.map (·.1)=ns∧(α.fo (au 0)).Perm (dK++aS dX)∧
   (∀q∈dX, @Ow fr (hp w) R0.own (fun _=>False) (.sl e kk) (tb q.1) [q.2.1] q.2.2)∧(∀q∈dX,iP q.1=q.2.1)∧
   @Rel (gI fr iP h0 hs) (Dc cx (aS dX)) (az σ (au 0) { R0 with k:=k',x:=x' }) (aJ α (au 0) (α.loc (au 0)) (α.hdr (au 0)) dK) [] a w:=by
 have K:=H.roots _ R0 hR0
 have hv0:bq σ R0:=⟨hR0.2,by rw [ve]; rfl⟩
 have hO:Ow (hp w) R0.own (fun _=>False) R0.k R0.x (α.hdr (au 0)) (α.fo (au 0)):=gQ (dz hown) (K.ow hv0)
 obtain ⟨dX,dK,g1,g2,g3,g4⟩:=RQ hown hR hO
 obtain ⟨iP,i1,i2,i3⟩:=Vm (dX:=dX) (by rw [g1]; exact hnd) (by rw [g1]; exact hn0) (fun q hq=>WV he (g3 q hq))
 refine ⟨dX,dK,iP,i1,i2,g1,g2,g3,i3, ?_⟩
 have hblk:blk α R0 (au 0)=(α.loc (au 0)).1 :: α.fo (au 0):=by unfold blk eD; rw [hpar]; rfl
 have hsub:∀b∈dK,b∈α.fo (au 0):=fun b hb=>g2.mem_iff.2 (List.mem_append_left _ hb)
 have hbad:∀b∈aS dX,b∈α.fo (au 0):=fun b hb=>g2.mem_iff.2 (List.mem_append_right _ hb)
 have L:F5 cx σ α R0 { R0 with k:=k',x:=x' } dK (aS dX):=⟨fun r R hr=>by
  by_cases e:r=au 0
  ·subst e; refine ⟨rfl, ?_⟩; have:=hr.1; rw [hR0.1] at this; exact (Option.some.inj this).symm
  ·have:=hr.1; rw [pQ r e] at this; simp at this,hR0,rfl,ve,hsub,hbad⟩
 have vK:=K.nd
 rw [hblk] at vK
 have Ij:=List.nodup_cons.1 vK
 have wI:=List.nodup_append.1 (g2.nodup Ij.2)
 have hlv:∀{q Q},aR (az σ (au 0) { R0 with k:=k',x:=x' }) q Q→q=au 0∧Q={ R0 with k:=k',x:=x' }:=fun {q Q} hq=>by
  rcases jI hq with ⟨rfl,rfl,_⟩ | ⟨e,hq'⟩
  ·exact ⟨rfl,rfl⟩
  ·exact absurd (L.only q Q hq').1 e
 have hlv1:aR (az σ (au 0) { R0 with k:=k',x:=x' }) (au 0) { R0 with k:=k',x:=x' }:=⟨aK ..,hR0.2⟩
 have hblk':blk (aJ α (au 0) (α.loc (au 0)) (α.hdr (au 0)) dK) { R0 with k:=k',x:=x' } (au 0)=(α.loc (au 0)).1 :: dK:=by
  rw [eO]; unfold iE; simp only [hpar]; rfl
 have jT:∀b∈(α.loc (au 0)).1 :: dK,Ow.mine (Dc cx (aS dX)) w b:=fun b hb=>by
  have hb0:b∈blk α R0 (au 0):=by
   rw [hblk]
   rcases List.mem_cons.1 hb with h | h
   ·rw [h]; exact List.mem_cons_self
   ·exact List.mem_cons_of_mem _ (hsub b h)
  obtain ⟨m1,m2⟩:=K.mine b hb0
  refine ⟨m1, ?_⟩
  rcases m2 with m2 | ⟨j,pi,m2,m3⟩
  ·exact .inl m2
  ·refine .inr ⟨j,{ pi with bl:=pi.bl.filter fun b=>!ay b (aS dX) },by simp [Dc,m2],List.mem_filter.2 ⟨m3, ?_⟩⟩
   have:ay b (aS dX)=false:=by
    rw [aV]
    intro hm
    rcases List.mem_cons.1 hb with h | h
    ·subst h; exact Ij.1 (hbad _ hm)
    ·exact wI.2.2 b h b hm rfl
   rw [this]; rfl
 have hpl:=H.sw
 refine @Rel.mk (gI fr iP i1 i2) _ _ _ _ _ _ H.defs H.sz ?_ ?_ ?_ ?_ ?_ ?_ ?_ (fun b hb=>by simp at hb) List.nodup_nil (fun r R hr b hb h=>by simp at h) ?_ ?_ ?_ (fun j p ts v h=>h.elim) (fun j v h=>h.elim)
 ·intro j IA b o n hj hb
  obtain ⟨pi,hj',rfl⟩:=pK hj
  obtain ⟨R,f1,f2,f3,f4⟩:=H.oN j pi b o n hj' hb
  obtain ⟨e1,rfl⟩:=L.only _ R f1
  rw [e1] at f3 ⊢
  exact ⟨_,hlv1,hpar,by simp [aJ,upd_same,f3],by show k'.size=n; rw [hR.size]; exact f4⟩
 ·intro r R hr hk
  obtain ⟨rfl,rfl⟩:=hlv hr
  obtain ⟨j,pi,n,f1,f2,f3⟩:=H.KW _ R0 hR0 hpar
  exact ⟨j,{ pi with bl:=pi.bl.filter fun b=>!ay b (aS dX) },n,f1,by simp [Dc,f2],by simp [aJ,upd_same,f3]⟩
 ·intro s
  exact F5.av (fr:=fr) (gI fr iP i1 i2) rfl L (hsl s) (H.slots s)
 ·intro s
  have hs:=hsl s
  show CV _ (σ.slots s)
  cases hx:σ.slots s with
  | Li l=>rw [hx] at hs; exact hs.elim
  | one x=>
   rw [hx] at hs
   cases x with
   | undef=>trivial
   | ptr r p n=>obtain ⟨rfl,rfl,rfl⟩:=hs; exact ⟨_,aK .., .inr (Nat.zero_le _)⟩
   | val k x T=>exact fun t ht=>.inl (hs.2 t ht)
   | fn f cs=>exact fun c hc t ht=>.inl ((hs c hc).2.1 t ht)
   | _=>exact hs.elim
 ·intro r R hr
  obtain ⟨rfl,rfl⟩:=hlv hr
  refine @xX.mk (gI fr iP i1 i2) _ _ _ _ _ _ _ (fun _=>?_) ?_ ?_ ?_ ?_
  ·have e1:(aJ α (au 0) (α.loc (au 0)) (α.hdr (au 0)) dK).hdr (au 0)=α.hdr (au 0):=by simp [aJ,upd_same]
   have e2:(aJ α (au 0) (α.loc (au 0)) (α.hdr (au 0)) dK).fo (au 0)=dK:=by simp [aJ,upd_same]
   rw [e1,e2]
   exact @gQ (gI fr iP i1 i2) _ _ _ _ _ _ _ _ (dz hown') (g4 (gI fr iP i1 i2) rfl i3)
  ·show ((aJ α (au 0) (α.loc (au 0)) (α.hdr (au 0)) dK).hdr (au 0)).length=k'.size
   rw [hR.size]
   simpa [aJ,upd_same] using K.len
  ·intro b o hb
   rw [L.wh] at hb
   obtain ⟨m1,arr,e',lo,hi,m2,m3,m4,m5⟩:=K.mem b o hb
   refine ⟨by simpa [aJ,upd_same] using m1,arr,e',lo,hi,m2,m3,by show o+k'.size≤_; rw [hR.size]; exact m4,m5⟩
  ·rw [hblk']
   exact List.nodup_cons.2 ⟨fun h=>Ij.1 (hsub _ h),wI.1⟩
  ·intro b hb
   rw [hblk'] at hb
   exact jT b hb
 ·intro r R hr
  by_cases e:r=au 0
  ·subst e
   rw [aK] at hr
   have hr:=Option.some.inj hr
   subst hr
   exact ⟨fun t ht=>by rw [show ({ R0 with k:=k',x:=x' }:Root).tags=R0.tags from rfl,ve] at ht; simp at ht,qH 0,fun n hn=>by rw [show ({ R0 with k:=k',x:=x' }:Root).tags=R0.tags from rfl,ve] at hn; simp at hn⟩
  ·rw [cu _ _ e,pQ r e] at hr; simp at hr
 ·intro r R r' R' hr hr' hne
  exact absurd ((hlv hr).1.trans (hlv hr').1.symm) hne
 ·obtain ⟨f1,f2,f3,f4,f5,f6⟩:=H.frame
  refine ⟨f1,f2,f3,f4,fun b _ _=>by show hp w b=hp cx.w0 b; rw [hw0],fun j IA b o n hj hb=>?_⟩
  obtain ⟨pi,hj',rfl⟩:=pK hj
  exact f6 j pi b o n hj' hb
 ·intro j IA hj hkp
  obtain ⟨pi,hj',rfl⟩:=pK hj
  obtain ⟨R,f1,f2⟩:=H.zw j pi hj' hkp
  by_cases e:au j=au 0
  ·refine ⟨_,by rw [e]; exact aK ..,fun _ b hb hnb=>.inr ⟨by show hp w b=hp cx.w0 b; rw [hw0],by simp,fun q Q hq _=>by rw [(hlv hq).1,e]⟩⟩
  ·rw [pQ _ e] at f1; simp at f1
 ·refine ⟨fun j IA hj b hb=>?_,fun b hb=>⟨?_,fun j IA hj hbl=>?_⟩,fun b hb=>hpl.2.2 b hb⟩
  ·obtain ⟨pi,hj',rfl⟩:=pK hj
   exact hpl.1 j pi hj' b (List.mem_filter.1 hb).1
  ·exact (hpl.2.1 b hb).1
  ·obtain ⟨pi,hj',rfl⟩:=pK hj
   exact (hpl.2.1 b hb).2 j pi hj' (List.mem_filter.1 hbl).1
theorem K7 {h:Heap} {own own':List TypeId} {ok:Nat→Prop}:∀{k:K} {x:El k} {cs:List Value} {fo:List Nat},(∀t∈k.tys,ay t own=ay t own')→Ow h own ok k x cs fo→Ow h own' ok k x cs fo:=by
 intro k
 induction k with
 | sl f k ih=>
  intro x cs fo ht H
  have hf:=ht f (by simp [K.tys])
  unfold Ow at H ⊢
  cases hm:ay f own with
  | true=>
   rw [if_pos hm] at H
   rw [if_pos (by rw [←hf]; exact hm)]
   obtain ⟨a,n,c,e1,e2,e3,H⟩:=H
   refine ⟨a,n,c,e1,e2,e3, ?_⟩
   rcases H with H | ⟨b,o,arr,lo,hi,ea,hb,hz,hs,bz,hl,hp,H⟩
   ·exact .inl H
   ·refine .inr ⟨b,o,arr,lo,hi,ea,hb,hz,hs,bz,hl,hp,fun i hi=>?_⟩
    obtain ⟨ds,h1,h2⟩:=H i hi
    exact ⟨ds,h1,ih (fun t h=>ht t (by simp [K.tys,h])) h2⟩
  | false=>
   rw [if_neg (by rw [hm]; simp)] at H
   rw [if_neg (by rw [←hf,hm]; simp)]
   exact H
 | pair a b iha ihb=>
  intro x cs fo ht H
  obtain ⟨c1,c2,f1,f2,e,hp,h1,h2⟩:=H
  exact ⟨c1,c2,f1,f2,e,hp,iha (fun t h=>ht t (by simp [K.tys,h])) h1,ihb (fun t h=>ht t (by simp [K.tys,h])) h2⟩
 | st f ih=>intro x cs fo ht H; exact ih (x:=x) ht H
 | int ik=>intro x cs fo _ H; exact H
 | bool=>intro x cs fo _ H; exact H
 | id e=>intro x cs fo _ H; exact H
 | str=>intro x cs fo _ H; exact H
 | unit=>intro x cs fo _ H; exact H
 | gap n=>intro x cs fo _ H; exact H
theorem ajx {z:Bool} {tb:Nat→List (El kk)} {k k':K} {x:El k} {y:El k'} {ns:List Nat} {v:Value} {cs:List Value} (hR:Rw e kk z tb k k' x y ns) (h:VC k' v cs):VC k v cs:=by
 cases k <;> cases k' <;> first | exact hR.elim | exact h
def RwR (e:TypeId) (kk:K) (tb:Nat→List (El kk)):(rs rs':List jY)→Cont (iF rs)→Cont (iF rs')→List Nat→Prop
 | [],[],_,_,ns=>ns=[]
 | .val k _ _ :: rs, .val k' _ _ :: rs',c,c',ns=>(∃h:k=k',k.flat=true∧GH k=true∧h▸c.1=c'.1)∧RwR e kk tb rs rs' c.2 c'.2 ns
 | .own k ow _ _ :: rs, .own k' ow' _ _ :: rs',c,c',ns=>∃n1 n2,ns=n1++n2∧((k.tys.all fun t=>ay t ow)=true∧(k'.tys.all fun t=>ay t ow')=true∧Rw e kk true tb k k' c.1 c'.1 n1)∧RwR e kk tb rs rs' c.2 c'.2 n2
 | _,_,_,_,_=>False
theorem select {dX:List OW}:∀{ns:List Nat},(∀n∈ns,n∈dX.map (·.1))→∃l:List OW,l.map (·.1)=ns∧∀q∈l,q∈dX
 | [],_=>⟨[],rfl,fun q hq=>by simp at hq⟩
 | n :: ns,h=>by
  obtain ⟨l,h1,h2⟩:=select (ns:=ns) (fun n hn=>h n (by simp [hn]))
  obtain ⟨q,hq,e⟩:=List.mem_map.1 (h n (by simp))
  exact ⟨q :: l,by simp [h1,e],fun t ht=>by
   rcases List.mem_cons.1 ht with rfl | ht
   ·exact hq
   ·exact h2 t ht⟩
theorem JY:∀{dX:List OW},(aS dX).Nodup→(dX.map (·.1)).Nodup→∀q∈dX,q.2.2.Nodup∧∀q'∈dX,q.1≠q'.1→∀b∈q.2.2,b∉q'.2.2
 | [],_,_,q,hq=>by simp at hq
 | t :: l,hn,hm,q,hq=>by
  have e:aS (t :: l)=t.2.2++aS l:=rfl
  rw [e] at hn
  obtain ⟨n1,n2,n3⟩:=List.nodup_append.1 hn
  rw [List.map_cons,List.nodup_cons] at hm
  have hin:∀q∈l,∀b∈q.2.2,b∈aS l:=fun q hq b hb=>List.mem_flatMap.2 ⟨q,hq,hb⟩
  rcases List.mem_cons.1 hq with rfl | hql
  ·refine ⟨n1,fun q' hq' hne b hb hb'=>?_⟩
   rcases List.mem_cons.1 hq' with rfl | hq'
   ·exact hne rfl
   ·exact n3 b hb b (hin q' hq' b hb') rfl
  ·obtain ⟨g1,g2⟩:=JY n2 hm.2 q hql
   refine ⟨g1,fun q' hq' hne b hb hb'=>?_⟩
   rcases List.mem_cons.1 hq' with rfl | hq'
   ·exact n3 b hb' b (hin q hql b hb) rfl
   ·exact g2 q' hq' hne b hb hb'
theorem JZ {dX:List OW} (hn:(aS dX).Nodup) (hm:(dX.map (·.1)).Nodup):∀{l:List OW},(∀q∈l,q∈dX)→(l.map (·.1)).Nodup→(aS l).Nodup
 | [],_,_=>List.nodup_nil
 | t :: l,hs,hl=>by
  have e:aS (t :: l)=t.2.2++aS l:=rfl
  rw [e]
  rw [List.map_cons,List.nodup_cons] at hl
  refine List.nodup_append.2 ⟨(JY hn hm t (hs t (by simp))).1,JZ hn hm (fun q hq=>hs q (by simp [hq])) hl.2,fun b hb c hc ebc=>?_⟩
  subst ebc
  obtain ⟨q,hq,hb'⟩:=List.mem_flatMap.1 hc
  exact (JY hn hm t (hs t (by simp))).2 q (hs q (by simp [hq])) (fun e=>hl.1 (List.mem_map.2 ⟨q,hq,e.symm⟩)) b hb hb'
theorem aa9 (fr':Fr) (hf:fr'.free=fr.free) {cx':Cx} {σ':St} {α':dN} {F':List Nat} {w':World} {tb:Nat→List (El kk)} {O:List TypeId} (hO:∀t∈(K.sl e kk).tys,ay t O=true)  :
  ∀{rs rs':List jY} {c:Cont (iF rs)} {c':Cont (iF rs')} {vs:List Value} {bz:List (List Nat)} {dX:List OW},RwR e kk tb rs rs' c c' (dX.map (·.1))→@Ma fr' cx' σ' α' F' w' rs' c' vs bz→
   (∀q∈dX, @Ow fr (hp w') O (fun _=>False) (.sl e kk) (tb q.1) [q.2.1] q.2.2∧fr'.iP q.1=q.2.1)→
   ∃XW,(∀σ1 dO F1, @Ma fr cx σ1 dO F1 w' rs c vs XW)∧XW.flatten.Perm (bz.flatten++aS dX):=by
 intro rs
 induction rs with
 | nil=>
  intro rs' c c' vs bz dX hR hL htr
  cases rs' with
  | cons _ _=>exact hR.elim
  | nil=>
   have ht:dX=[]:=by simpa using (show dX.map (·.1)=[] from hR)
   subst ht
   cases vs with
   | cons _ _=>exact hL.elim
   | nil=>cases bz with
    | cons _ _=>exact hL.elim
    | nil=>exact ⟨[],fun _ _ _=>trivial, .refl _⟩
 | cons r rs ih=>
  intro rs' c c' vs bz dX hR hL htr
  cases rs' with
  | nil=>cases r <;> exact hR.elim
  | cons r' rs'=>
   cases r with
   | into _ _=>exact hR.elim
   | ptr _ _ _ _=>exact hR.elim
   | val k ex pr=>
    cases r' with
    | val k' ex' pr'=>
     obtain ⟨⟨hk,h1,h2,h3⟩,hR⟩:=hR
     subst hk
     cases vs with
     | nil=>exact hL.elim
     | cons v vs=>
      cases bz with
      | nil=>exact hL.elim
      | cons fo bz=>
       obtain ⟨⟨rfl,T,cs,g1,g2,g3⟩,hL⟩:=hL
       obtain ⟨XW,q1,q2⟩:=ih hR hL htr
       refine ⟨[] :: XW,fun σ1 dO F1=>⟨⟨rfl,[],cs, .inl h1,g2, ?_⟩,q1 σ1 dO F1⟩,by simpa using q2⟩
       have h3:c.1=c'.1:=h3
       rw [h3]
       exact @je fr _ _ _ _ _ _ _ h1 (@ZC fr' _ _ fr hf.symm _ _ _ h2 g3)
    | _=>exact hR.elim
   | own k ow ex pr=>
    cases r' with
    | own k' ow' ex' pr'=>
     obtain ⟨n1,n2,hns,⟨a1,a2,a3⟩,hR⟩:=hR
     rw [List.map_eq_append_iff] at hns
     obtain ⟨t1,t2,rfl,rfl,rfl⟩:=hns
     cases vs with
     | nil=>exact hL.elim
     | cons v vs=>
      cases bz with
      | nil=>exact hL.elim
      | cons fo bz=>
       obtain ⟨⟨T,cs,ao3,g1,g2,g3,g4⟩,hL⟩:=hL
       obtain ⟨XW,q1,q2⟩:=ih hR hL (fun q hq=>htr q (List.mem_append_right _ hq))
       have hk':∀t∈k'.tys,ay t ao3=true:=fun t ht=>g2 t ht (List.all_eq_true.1 a2 t ht)
       let O2:List TypeId:=O++k.tys++k'.tys
       have m1:∀t∈k.tys,ay t O2=true:=fun t ht=>aL.2 (List.mem_append_left _ (List.mem_append_right _ ht))
       have m2:∀t∈k'.tys,ay t O2=true:=fun t ht=>aL.2 (List.mem_append_right _ ht)
       have m3:∀t∈(K.sl e kk).tys,ay t O2=true:=fun t ht=>aL.2 (List.mem_append_left _ (List.mem_append_left _ (aL.1 (hO t ht))))
       have g5 : @Ow fr' (hp w') O2 (fun _=>False) k' c'.1 cs fo:=@gQ fr' _ _ _ _ _ _ _ _ (dz m2) (@K7 fr' _ _ _ _ _ _ _ _ (fun t ht=>by rw [hk' t ht,m2 t ht]) g4)
       have g6:=Qg (fr:=fr) fr' m1 a3 g5 (fun q hq=>by
        obtain ⟨f1,f2⟩:=htr q (List.mem_append_left _ hq)
        exact ⟨@K7 fr _ _ _ _ _ _ _ _ (fun t ht=>by rw [hO t ht,m3 t ht]) f1,f2⟩)
       refine ⟨(fo++aS t1) :: XW,fun σ1 dO F1=>⟨⟨[],cs,O2, .inl a1,fun t ht _=>m1 t ht,ajx a3 g3, @gQ fr _ _ _ _ _ _ _ _ (dz m1) g6⟩,q1 σ1 dO F1⟩, ?_⟩
       simp only [List.flatten_cons]
       have et:aS (t1++t2)=aS t1++aS t2:=by simp [aS]
       rw [et]
       refine (q2.append_left (fo++aS t1)).trans ?_
       simp only [List.append_assoc]
       refine List.Perm.append_left fo ?_
       rw [←List.append_assoc, ←List.append_assoc]
       exact List.Perm.append_right _ List.perm_append_comm
    | _=>exact hR.elim
end
end
end Go.Proofs.YtdknpknohipffaaGreat.Ow

/- The framework, part 70: a call's end, the rows put back. Own work of this seat. -/
namespace Go.Proofs.YtdknpknohipffaaGreat.Ow
open Go
section
variable {e:TypeId} {kk:K} [fr:Fr]
variable {cx:Cx} {σ:St} {α:dN} {a:Act} {w:World}
def pM (k:K) (x:El k) (ow wt ht:List TypeId):Root:={ k,x,own:=ow,tags:=[],w:=wt,h:=ht,g:=0,kind:=.par,fixed:=false,keep:=true,ew:=[],eh:=ht }
def EB (R:Root):St:=⟨fun _=>.one .undef,fun r=>bif Nat.beq r (au 0) then some R else none⟩
def Gr (loc:Nat×Nat) (hdr:List Value) (fo:List Nat):dN:=⟨fun _=>loc,fun _=>hdr,fun _=>fo⟩
theorem tO {R:Root} {r:Nat} {Q:Root} (h:(EB R).roots r=some Q):r=au 0∧Q=R:=by
 unfold EB at h
 simp only at h
 cases hb:Nat.beq r (au 0) with
 | true=>rw [hb] at h; exact ⟨Nat.eq_of_beq_eq_true hb,(Option.some.inj h).symm⟩
 | false=>rw [hb] at h; simp at h
theorem xA {R:Root}:(EB R).roots (au 0)=some R:=by simp [EB]
theorem aa8 (H:Rel cx σ α [] a w) (hw0:cx.w0=w) {R0:Root} (hR0:aR σ (au 0) R0) (pQ:∀r,r≠au 0→σ.roots r=none) (hpar:R0.kind=.par) (hg0:R0.g=0) (hv0:bq σ R0)
  (hown:∀t∈R0.k.tys,ay t R0.own=true) {k':K} (hown':∀t∈k'.tys,ay t R0.own=true) (Wq:∀t∈(K.sl e kk).tys,ay t R0.own=true)
  {tb:Nat→List (El kk)} {dX:List OW} {dK:List Nat} {iP:Nat→Value} {h0:iP 0=.slice none 0 0} {hs:∀i,∃a n c,iP i=.slice a n c}
  (hperm:(α.fo (au 0)).Perm (dK++aS dX)) (hnd:(dX.map (·.1)).Nodup) (hrow:∀q∈dX, @Ow fr (hp w) R0.own (fun _=>False) (.sl e kk) (tb q.1) [q.2.1] q.2.2) (hid:∀q∈dX,iP q.1=q.2.1)
  {σ1:St} {dO:dN} {F1:List Nat} {a1:Act} {w':World} (H1 : @Rel (gI fr iP h0 hs) (Dc cx (aS dX)) σ1 dO F1 a1 w') {Q:Root} (hQ:σ1.roots (au 0)=some Q) (hQv:bq σ1 Q) (hQk:Q.k=k') (hQo:∀t∈k'.tys,ay t Q.own=true)
  {wt ht:List TypeId} (hwt:oF Q.w wt=true∧oF Q.ew wt=true) (hwk:∀t∈(K.sl e kk).tys,t∈wt) (aaw:tK∈ht)
  {y:El R0.k} {tT:List OW} (hP:Rw e kk true tb R0.k Q.k y Q.x (tT.map (·.1))) (hPs:∀q∈tT,q∈dX)
  {rs rs':List jY} {c:Cont (iF rs)} {c':Cont (iF rs')} {vs:List Value} {bz:List (List Nat)} {J2:List OW} (hRs:∀q∈J2,q∈dX) (hRR:RwR e kk tb rs rs' c c' (J2.map (·.1)))
  (hL : @Ma (gI fr iP h0 hs) (Dc cx (aS dX)) σ1 dO F1 w' rs' c' vs bz) (hfn:bz.flatten.Nodup) (Uh:∀b∈bz.flatten,b∈F1) (hall:((J2++tT).map (·.1)).Nodup)
  (JJ:∀j p ts v,cx.ptrs j p ts v→∃k,ts=eB p k) :
  ∃Dt M4,Rel cx (EB (pM R0.k y R0.own wt ht)) Dt M4.flatten a1 w'∧Ma cx (EB (pM R0.k y R0.own wt ht)) Dt M4.flatten w' rs c vs M4∧M4.flatten.Nodup:=by
 have K0:=H.roots _ R0 hR0
 have hlv1:aR σ1 (au 0) Q:=⟨hQ,hQv.1⟩
 have K1:=@Rel.roots (gI fr iP h0 hs) _ _ _ _ _ _ H1 _ Q hlv1
 have afy:=@xX.ow (gI fr iP h0 hs) _ _ _ _ _ _ _ K1
 have Zq:=@xX.len (gI fr iP h0 hs) _ _ _ _ _ _ _ K1
 have aiW:=@xX.mem (gI fr iP h0 hs) _ _ _ _ _ _ _ K1
 have afx:=@xX.nd (gI fr iP h0 hs) _ _ _ _ _ _ _ K1
 have Ur:=@xX.mine (gI fr iP h0 hs) _ _ _ _ _ _ _ K1
 have Vl:∀r R,aR σ r R→r=au 0∧R=R0:=fun r R hr=>by
  by_cases e:r=au 0
  ·subst e; refine ⟨rfl, ?_⟩; have:=hr.1; rw [hR0.1] at this; exact (Option.some.inj this).symm
  ·have:=hr.1; rw [pQ r e] at this; simp at this
 obtain ⟨j0,pi0,n0,p1,p2,p3⟩:=H.KW _ R0 hR0 hpar
 obtain ⟨Q',q1,q2,q3,q4⟩:=@Rel.oN (gI fr iP h0 hs) _ _ _ _ _ _ H1 j0 { pi0 with bl:=pi0.bl.filter fun b=>!ay b (aS dX) } (α.loc (au 0)).1 (α.loc (au 0)).2 n0 (by simp [Dc,p2]) p3
 rw [←p1] at q1 q3
 have eQ:Q'=Q:=by have:=q1.1; rw [hQ] at this; exact (Option.some.inj this).symm
 subst eQ
 have SN:blk α R0 (au 0)=(α.loc (au 0)).1 :: α.fo (au 0):=by unfold blk eD; rw [hpar]; rfl
 have hblk1:blk dO Q' (au 0)=(α.loc (au 0)).1 :: dO.fo (au 0):=by unfold blk eD; rw [q2]; simp [q3]
 have hsize:w.heap.size≤w'.heap.size:=by have:=(@Rel.frame (gI fr iP h0 hs) _ _ _ _ _ _ H1).2.2.2.1; simpa [Dc,hw0] using this
 have vK:=K0.nd
 rw [SN] at vK
 have Ij:=List.nodup_cons.1 vK
 have wI:=List.nodup_append.1 (hperm.nodup Ij.2)
 have hbad:∀b∈aS dX,b∈α.fo (au 0):=fun b hb=>hperm.mem_iff.2 (List.mem_append_right _ hb)
 have M9:∀b∈aS dX,b∈blk α R0 (au 0):=fun b hb=>by rw [SN]; exact List.mem_cons_of_mem _ (hbad b hb)
 have hno:∀b∈aS dX,¬Ow.mine (Dc cx (aS dX)) w' b:=fun b hb hm=>by
  have hlt:=(K0.mine b (M9 b hb)).1
  rcases hm.2 with h | ⟨j,IA,h1,h2⟩
  ·have:w.heap.size≤b:=by simpa [Dc,hw0] using h
   omega
  ·obtain ⟨pi,_,rfl⟩:=pK h1
   have:=(List.mem_filter.1 h2).2
   rw [aL.2 hb] at this
   simp at this
 have hsame:∀b∈aS dX,hp w' b=hp w b:=fun b hb=>by
  have hlt:=(K0.mine b (M9 b hb)).1
  have:=(@Rel.frame (gI fr iP h0 hs) _ _ _ _ _ _ H1).2.2.2.2.1 b (by simpa [Dc,hw0] using hlt) (fun j IA h1 h2=>by
   obtain ⟨pi,_,rfl⟩:=pK h1
   have:=(List.mem_filter.1 h2).2
   rw [aL.2 hb] at this
   simp at this)
  simpa [Dc,hw0] using this
 have hrow':∀q∈dX, @Ow fr (hp w') R0.own (fun _=>False) (.sl e kk) (tb q.1) [q.2.1] q.2.2:=fun q hq=>
  bC (fun _ h=>h.elim) (fun _ h=>h) (fun b hb=>hsame b (List.mem_flatMap.2 ⟨q,hq,hb⟩)) (hrow q hq)
 obtain ⟨M4,r1,r2⟩:=aa9 (fr:=fr) (cx:=cx) (gI fr iP h0 hs) rfl Wq hRR hL (fun q hq=>⟨hrow' q (hRs q hq),hid q (hRs q hq)⟩)
 have Wz:∀b∈aS J2,b∈aS dX:=fun b hb=>by
  obtain ⟨q,hq,h⟩:=List.mem_flatMap.1 hb
  exact List.mem_flatMap.2 ⟨q,hRs q hq,h⟩
 have Ni:∀b∈aS tT,b∈aS dX:=fun b hb=>by
  obtain ⟨q,hq,h⟩:=List.mem_flatMap.1 hb
  exact List.mem_flatMap.2 ⟨q,hPs q hq,h⟩
 have hsel:(aS J2++aS tT).Nodup:=by
  have:=JZ wI.2.1 hnd (l:=J2++tT) (fun q hq=>(List.mem_append.1 hq).elim (hRs q) (hPs q)) hall
  have e:aS (J2++tT)=aS J2++aS tT:=by simp [aS]
  rwa [e] at this
 obtain ⟨hnR,hnP,hRP⟩:=List.nodup_append.1 hsel
 have hmF:∀b∈F1,Ow.mine (Dc cx (aS dX)) w' b:=@Rel.fl (gI fr iP h0 hs) _ _ _ _ _ _ H1
 have hmB:∀b∈(α.loc (au 0)).1 :: dO.fo (au 0),Ow.mine (Dc cx (aS dX)) w' b:=fun b hb=>Ur b (by rw [hblk1]; exact hb)
 have aaC:∀b,Ow.mine (Dc cx (aS dX)) w' b→Ow.mine cx w' b:=fun b hb=>⟨hb.1,hb.2.imp (fun h=>h) (fun ⟨j,IA,h1,h2⟩=>by
  obtain ⟨pi,h3,rfl⟩:=pK h1
  exact ⟨j,pi,h3,(List.mem_filter.1 h2).1⟩)⟩
 have Wu:∀b∈aS dX,Ow.mine cx w' b:=fun b hb=>by
  obtain ⟨m1,m2⟩:=K0.mine b (M9 b hb)
  exact ⟨by omega,m2⟩
 have akh:M4.flatten.Nodup:=r2.nodup_iff.2 (List.nodup_append.2 ⟨hfn,hnR,fun b hb c hc ebc=>by subst ebc; exact hno b (Wz b hc) (hmF b (Uh b hb))⟩)
 have hFm:∀b∈M4.flatten,b∈bz.flatten∨b∈aS J2:=fun b hb=>List.mem_append.1 (r2.mem_iff.1 hb)
 refine ⟨Gr (α.loc (au 0)) (dO.hdr (au 0)) (dO.fo (au 0)++aS tT),M4, ?_,r1 _ _ _,akh⟩
 have JI:∀{r R},aR (EB (pM R0.k y R0.own wt ht)) r R→r=au 0∧R=pM R0.k y R0.own wt ht:=fun h=>tO h.1
 have Pg:blk (Gr (α.loc (au 0)) (dO.hdr (au 0)) (dO.fo (au 0)++aS tT)) (pM R0.k y R0.own wt ht) (au 0)=(α.loc (au 0)).1 :: (dO.fo (au 0)++aS tT):=rfl
 have SV:=afx
 rw [hblk1] at SV
 have akg:=List.nodup_cons.1 SV
 have hf1:=@Rel.frame (gI fr iP h0 hs) _ _ _ _ _ _ H1
 have hfd1:=@Rel.jH (gI fr iP h0 hs) _ _ _ _ _ _ H1
 have Di:∀b o,eD (Gr (α.loc (au 0)) (dO.hdr (au 0)) (dO.fo (au 0)++aS tT)) (pM R0.k y R0.own wt ht) (au 0)=some (b,o)→α.loc (au 0)=(b,o):=fun b o h=>Option.some.inj h
 have adg:R0.k.size=Q'.k.size:=hP.size.symm
 have aaG:∀j p ts v,cx.ptrs j p ts v→au j=au 0:=fun j p ts v h=>by
  obtain ⟨_,R,f1,_⟩:=H.Ca j p ts v h
  refine Classical.byContradiction fun e=>?_
  rw [pQ _ e] at f1
  simp at f1
 have hdf:=@Rel.defs (gI fr iP h0 hs) _ _ _ _ _ _ H1
 have hsz0:=@Rel.sz (gI fr iP h0 hs) _ _ _ _ _ _ H1
 have hsz1:cx.nt≤a1.tmps.size:=hsz0
 have agi:=@Rel.zw (gI fr iP h0 hs) _ _ _ _ _ _ H1
 refine ⟨hdf,hsz1, ?_, ?_,fun s=>trivial,fun s=>trivial, ?_, ?_, ?_, ?_,akh, ?_, ?_, ?_, ?_, ?_, ?_⟩
 ·intro j pi b o n hj hb
  obtain ⟨R,f1,f2,f3,f4⟩:=H.oN j pi b o n hj hb
  obtain ⟨e1,rfl⟩:=Vl _ R f1
  rw [e1] at f3 ⊢
  exact ⟨_,⟨xA,rfl⟩,rfl,f3,f4⟩
 ·intro r R hr _
  obtain ⟨rfl,rfl⟩:=JI hr
  exact ⟨j0,pi0,n0,p1,p2,p3⟩
 ·intro r R hr
  obtain ⟨rfl,rfl⟩:=JI hr
  refine ⟨fun _=>?_,by show (dO.hdr (au 0)).length=R0.k.size; rw [Zq,adg],fun b o hb=>?_, ?_,fun b hb=>?_⟩
  ·have o1 : @Ow (gI fr iP h0 hs) (hp w') R0.own (fun _=>False) Q'.k Q'.x (dO.hdr (au 0)) (dO.fo (au 0)):=by
    have hk1:∀t∈Q'.k.tys,ay t Q'.own=true:=fun t ht=>hQo t (by rw [←hQk]; exact ht)
    have hk2:∀t∈Q'.k.tys,ay t R0.own=true:=fun t ht=>hown' t (by rw [←hQk]; exact ht)
    exact @gQ (gI fr iP h0 hs) _ _ _ _ _ _ _ _ (dz hk2) (@K7 (gI fr iP h0 hs) _ _ _ _ _ _ _ _ (fun t ht=>by rw [hk1 t ht,hk2 t ht]) (afy hQv))
   have o2:=Qg (fr:=fr) (gI fr iP h0 hs) hown hP o1 (fun q hq=>⟨hrow' q (hPs q hq),hid q (hPs q hq)⟩)
   exact gQ (dz hown) o2
  ·have hbo:=Di b o hb
   obtain ⟨m1,arr,e',lo,hi,m2,m3,m4,m5⟩:=aiW b o (by unfold eD; rw [q2]; simp [q3,hbo])
   exact ⟨m1,arr,e',lo,hi,m2,m3,by show o+R0.k.size≤_; rw [adg]; exact m4,fun t ht=>by simp [pM] at ht⟩
  ·rw [Pg]
   refine List.nodup_cons.2 ⟨fun h=>?_,List.nodup_append.2 ⟨akg.2,hnP,fun b hb c hc ebc=>by subst ebc; exact hno b (Ni b hc) (hmB b (List.mem_cons_of_mem _ hb))⟩⟩
   rcases List.mem_append.1 h with h | h
   ·exact akg.1 h
   ·exact hno _ (Ni _ h) (hmB _ List.mem_cons_self)
  ·rw [Pg] at hb
   rcases List.mem_cons.1 hb with h | h
   ·exact aaC b (hmB b (by rw [h]; exact List.mem_cons_self))
   ·rcases List.mem_append.1 h with h | h
    ·exact aaC b (hmB b (List.mem_cons_of_mem _ h))
    ·exact Wu b (Ni b h)
 ·intro r R hr
  obtain ⟨rfl,rfl⟩:=tO hr
  exact ⟨fun t ht=>by simp [pM] at ht,qH 0,fun n hn=>by simp [pM] at hn⟩
 ·intro r R r' R' hr hr' hne
  exact absurd ((JI hr).1.trans (JI hr').1.symm) hne
 ·intro b hb
  rcases hFm b hb with h | h
  ·exact aaC b (hmF b (Uh b h))
  ·exact Wu b (Wz b h)
 ·intro r R hr b hb KQ
  obtain ⟨rfl,rfl⟩:=JI hr
  rw [Pg] at hb
  have hc1:b∈(α.loc (au 0)).1 :: dO.fo (au 0)∨b∈aS tT:=by
   rcases List.mem_cons.1 hb with h | h
   ·exact .inl (by rw [h]; exact List.mem_cons_self)
   ·exact (List.mem_append.1 h).imp (fun h=>List.mem_cons_of_mem _ h) id
  rcases hc1 with h | h
  ·rcases hFm b KQ with g | g
   ·exact hfd1 _ Q' hlv1 b (by rw [hblk1]; exact h) (Uh b g)
   ·exact hno b (Wz b g) (hmB b h)
  ·rcases hFm b KQ with g | g
   ·exact hno b (Ni b h) (hmF b (Uh b g))
   ·exact hRP b g b h rfl
 ·obtain ⟨f1,f2,f3,f4,f5,f6⟩:=hf1
  refine ⟨f1,f2,f3,f4,fun b hb hnb=>f5 b hb (fun j IA h1 h2=>?_),fun j pi b o n hj hb=>?_⟩
  ·obtain ⟨pi,h3,rfl⟩:=pK h1
   exact hnb j pi h3 (List.mem_filter.1 h2).1
  ·exact f6 j { pi with bl:=pi.bl.filter fun b=>!ay b (aS dX) } b o n (by simp [Dc,hj]) hb
 ·intro j pi hj hkp
  obtain ⟨R,f1,_⟩:=H.zw j pi hj hkp
  have ej:au j=au 0:=Classical.byContradiction fun ne=>by rw [pQ _ ne] at f1; simp at f1
  refine ⟨pM R0.k y R0.own wt ht,by rw [ej]; exact xA,fun _ b hb hnb=>?_⟩
  have hone:∀q Q,aR (EB (pM R0.k y R0.own wt ht)) q Q→b∈blk (Gr (α.loc (au 0)) (dO.hdr (au 0)) (dO.fo (au 0)++aS tT)) Q q→q=au j:=fun q Q hq _=>by rw [(JI hq).1,ej]
  by_cases hbt:b∈aS dX
  ·by_cases hbR:b∈aS J2
   ·obtain ⟨q,hq,h⟩:=List.mem_flatMap.1 hbR
    obtain ⟨t,t1,_,t3⟩:=xy (hrow q (hRs q hq)) b h
    exact .inl ⟨t,by rw [hw0]; exact t3, .inl (hwk t t1)⟩
   ·refine .inr ⟨by rw [hw0]; exact hsame b hbt,fun hF=>?_,hone⟩
    rcases hFm b hF with g | g
    ·exact hno b hbt (hmF b (Uh b g))
    ·exact hbR g
  ·obtain ⟨R1,k1,k2⟩:=agi j { pi with bl:=pi.bl.filter fun b=>!ay b (aS dX) } (by simp [Dc,hj]) hkp
   have eR:R1=Q':=by rw [ej,hQ] at k1; exact (Option.some.inj k1).symm
   subst eR
   rcases k2 hQv.1 b (List.mem_filter.2 ⟨hb,by rw [aV.2 hbt]; rfl⟩) (fun h=>hnb (MG.1 h)) with ⟨t,t1,t2⟩ | ⟨t1,t2,_⟩
   ·exact .inl ⟨t,t1, .inl (t2.elim (jW.1 hwt.1 t) (jW.1 hwt.2 t))⟩
   ·refine .inr ⟨t1,fun hF=>?_,hone⟩
    rcases hFm b hF with g | g
    ·exact t2 (Uh b g)
    ·exact hbt (Wz b g)
 ·refine ⟨fun j pi hj b hb=>H.sw.1 j pi hj b hb,fun b hb=>H.sw.2.1 b hb,fun b hb=>H.sw.2.2 b hb⟩
 ·intro j p ts v hv
  have ej:=aaG j p ts v hv
  obtain ⟨g1,R,f1,f2⟩:=H.Ca j p ts v hv
  obtain ⟨k0,rfl⟩:=JJ j p ts v hv
  refine ⟨g1,pM R0.k y R0.own wt ht,by rw [ej]; exact xA,fun hts=>?_⟩
  cases p with
  | cons s p=>exact absurd aaw (hts tK (by simp [eB]))
  | nil=>
   refine ⟨g1,fun R' hR' _ _ _ _=>?_⟩
   rw [ej] at hR'
   obtain ⟨_,rfl⟩:=tO hR'
   obtain ⟨_,cs,b,o,hn,ev⟩:=(f2 (fun t ht=>by simp [eB] at ht)).2 R0 (by rw [ej]; exact hR0.1) hv0 (by unfold eB clean; simp [ay]) (fun t ht=>by simp [ah] at ht) rfl
   rw [ej] at hn
   simp only [bF,Option.some.injEq,Prod.mk.injEq] at hn
   refine ⟨trivial,dO.hdr (au 0),b,o, ?_,ev⟩
   have h2:=hn.2
   unfold eD at h2
   rw [hpar] at h2
   rw [ej]
   simp only [bF]
   exact congrArg (fun z=>some (dO.hdr (au 0),z)) h2
 ·intro j v hv
  obtain ⟨⟨R,f1⟩,f2⟩:=H.Cb j v hv
  have ej:au j=au 0:=Classical.byContradiction fun ne=>by rw [pQ _ ne] at f1; simp at f1
  rw [ej] at f2
  have:=(f2 R0 hR0 hg0).1
  rw [hpar] at this
  simp at this
end
end Go.Proofs.YtdknpknohipffaaGreat.Ow

/- The framework, part 71: a function over rows that it does not look into, as one over the rows. Own work of this seat. -/
namespace Go.Proofs.YtdknpknohipffaaGreat.Ow
open Go
def fB:List dn→Bool
 | []=>true
 | .val k [] :: l=>GH k && fB l
 | .fn _ ks :: l=>ks.all GH && fB l
 | _=>false
section
variable [Fr]
theorem wL:∀{ps:List dn} {i:Nat} {c:Cont (kin ps)},fB ps=true→gD ps i c=[]
 | [],_,_,_=>rfl
 | .val k [] :: ps,i,c,h=>by
  simp only [fB,Bool.and_eq_true] at h
  exact wL (ps:=ps) (i:=i+1) (c:=c.2) h.2
 | .fn f ks :: ps,i,c,h=>by
  simp only [fB,Bool.and_eq_true] at h
  exact wL (ps:=ps) (i:=i+1) (c:=Cont.snd ks (kin ps) c) h.2
 | .val _ (_ :: _) :: _,_,_,h=>by simp [fB] at h
 | .ro _ :: _,_,_,h=>by simp [fB] at h
 | .rw _ _ _ _ :: _,_,_,h=>by simp [fB] at h
 | .jL _ _ _ :: _,_,_,h=>by simp [fB] at h
 | .own _ _ :: _,_,_,h=>by simp [fB] at h
 | .into _ _ :: _,_,_,h=>by simp [fB] at h
theorem Wn (i:Nat):∀{ks:List K} {c:Cont ks},ks.all GH=true→∀q∈jU.CX i ks c,GH q.2.1.1=true∧Va q.2.2∧q.1=SENT
 | [],_,_,q,hq=>by simp [jU.CX] at hq
 | k :: ks,c,h,q,hq=>by
  simp only [List.all_cons,Bool.and_eq_true] at h
  simp only [jU.CX] at hq
  rcases List.mem_cons.1 hq with rfl | hq
  ·exact ⟨h.1,fun t ht=>by simp only [List.mem_singleton] at ht; subst ht; exact iQ i,rfl⟩
  ·exact Wn i h.2 q hq
theorem Dp:∀{ps:List dn} {i:Nat} {c:Cont (kin ps)},fB ps=true→∀s,HZ (vk (jU ps i c) s)
 | [],_,_,_,s=>trivial
 | .val k [] :: ps,i,c,h,s=>by
  simp only [fB,Bool.and_eq_true] at h
  simp only [jU,vk]
  cases Nat.beq s i with
  | true=>
   refine ⟨h.1,fun t ht=>?_⟩
   cases hf:k.flat with
   | true=>rw [hf] at ht; simp at ht
   | false=>rw [hf] at ht; simp at ht; subst ht; exact iQ i
  | false=>exact Dp (ps:=ps) (i:=i+1) (c:=c.2) h.2 s
 | .fn f ks :: ps,i,c,h,s=>by
  simp only [fB,Bool.and_eq_true] at h
  simp only [jU,vk]
  cases Nat.beq s i with
  | true=>exact Wn i h.1
  | false=>exact Dp (ps:=ps) (i:=i+1) (c:=Cont.snd ks (kin ps) c) h.2 s
 | .val _ (_ :: _) :: _,_,_,h,_=>by simp [fB] at h
 | .ro _ :: _,_,_,h,_=>by simp [fB] at h
 | .rw _ _ _ _ :: _,_,_,h,_=>by simp [fB] at h
 | .jL _ _ _ :: _,_,_,h,_=>by simp [fB] at h
 | .own _ _ :: _,_,_,h,_=>by simp [fB] at h
 | .into _ _ :: _,_,_,h,_=>by simp [fB] at h
theorem IG {σ:St}:∀{ps:List dn} {i:Nat} {c:Cont (lG ps)},fB ps=true→Jq σ ps i c
 | [],_,_,_=>trivial
 | .val k [] :: ps,i,c,h=>by
  simp only [fB,Bool.and_eq_true] at h
  exact IG (ps:=ps) (i:=i+1) (c:=c) h.2
 | .fn f ks :: ps,i,c,h=>by
  simp only [fB,Bool.and_eq_true] at h
  exact IG (ps:=ps) (i:=i+1) (c:=c) h.2
 | .val _ (_ :: _) :: _,_,_,h=>by simp [fB] at h
 | .ro _ :: _,_,_,h=>by simp [fB] at h
 | .rw _ _ _ _ :: _,_,_,h=>by simp [fB] at h
 | .jL _ _ _ :: _,_,_,h=>by simp [fB] at h
 | .own _ _ :: _,_,_,h=>by simp [fB] at h
 | .into _ _ :: _,_,_,h=>by simp [fB] at h
theorem We {e:TypeId} {kk:K} {z:Bool} {tb:Nat→List (El kk)} {k k1 k2:K} {x:El k} {y1:El k1} {y2:El k2} {ns:List Nat} (ek:k1=k2) (ey:y2=ek▸y1) (h:Rw e kk z tb k k2 x y2 ns):Rw e kk z tb k k1 x y1 ns:=by
 subst ek
 simp only at ey
 subst ey
 exact h
end
theorem WI [fr:Fr] {e:TypeId} {kk:K} {P:Program} {n:Nat} {f:FuncId} {k k':K} {ow wt ht vI ht':List TypeId} {rest:List dn} {rs rs':List jY}
  {F:Nat→Cont (kin (.rw k ow wt ht :: rest))→Option (Cont (iF rs++lG (.rw k ow wt ht :: rest)))} {F':Nat→Cont (kin (.rw k' ow vI ht' :: rest))→Option (Cont (iF rs'++lG (.rw k' ow vI ht' :: rest)))}
  (hrest:fB rest=true) (hown:∀t∈k.tys,ay t ow=true) (hown':∀t∈k'.tys,ay t ow=true) (Wq:∀t∈(K.sl e kk).tys,ay t ow=true)
  (hE:∀fr:Fr, @ak fr P n ⟨f, .rw k' ow vI ht' :: rest,rs',F'⟩) (hwt:oF vI wt=true) (hwk:∀t∈(K.sl e kk).tys,t∈wt) (aaw:tK∈ht)
  (hF:∀c out,F n c=some out→∃(x':El k') (ns ms1 ms2:List Nat) (tb:Nat→List (El kk)) (out':Cont (iF rs'++lG (.rw k' ow vI ht' :: rest))),Rw e kk false tb k k' c.1 x' ns∧ns.Nodup∧0∉ns∧F' n (x',c.2)=some out'∧
   RwR e kk tb rs rs' (Cont.fst _ _ out) (Cont.fst _ _ out') ms1∧Rw e kk true tb k k' (Cont.snd _ _ out).1 (Cont.snd _ _ out').1 ms2∧(ms1++ms2).Nodup∧∀m∈ms1++ms2,m∈ns) :
  ak P n ⟨f, .rw k ow wt ht :: rest,rs,F⟩:=by
 intro c out hout cx α args w hnt hw hsz hP H
 obtain ⟨x',ns,ms1,ms2,tb,out',hR,hnd,hn0,hF',hRR,hRP,hmm,hsub⟩:=hF c out hout
 have ha:(k.tys.all fun t=>ay t ow)=true:=List.all_eq_true.2 hown
 have ha':(k'.tys.all fun t=>ay t ow)=true:=List.all_eq_true.2 hown'
 have Gu:∀r,(bV (.rw k ow wt ht :: rest) c).roots r=bif Nat.beq r (au 0) then some (aP k c.1 ow [] .par true) else none:=fun r=>by
  show gH (gD (.rw k ow wt ht :: rest) 0 c) r=_
  simp only [gD,wL hrest,gH,ha,cond_true]
 have hR0:aR (bV (.rw k ow wt ht :: rest) c) (au 0) (aP k c.1 ow [] .par true):=⟨by rw [Gu]; simp,rfl⟩
 have pQ:∀r,r≠au 0→(bV (.rw k ow wt ht :: rest) c).roots r=none:=fun r hr=>by
  rw [Gu]
  have:Nat.beq r (au 0)=false:=by
   cases hb:Nat.beq r (au 0) with
   | true=>exact absurd (Nat.eq_of_beq_eq_true hb) hr
   | false=>rfl
  rw [this]; rfl
 have hsl:∀s,HZ ((bV (.rw k ow wt ht :: rest) c).slots s):=fun s=>by
  show HZ (vk (jU (.rw k ow wt ht :: rest) 0 c) s)
  simp only [jU,vk]
  cases Nat.beq s 0 with
  | true=>exact ⟨rfl,rfl,rfl⟩
  | false=>exact Dp hrest s
 obtain ⟨dX,dK,iP,i0,is,g1,g2,g3,g4,aai⟩:=Yl H hw hR0 pQ rfl rfl hown (Wq e (by simp [K.tys])) hsl (k':=k') (x':=x') hR hnd hn0 hown'
 have hst:az (bV (.rw k ow wt ht :: rest) c) (au 0) { aP k c.1 ow [] .par true with k:=k',x:=x' }=bV (.rw k' ow vI ht' :: rest) (x',c.2):=by
  unfold az bV
  congr 1
  funext r
  show upd (bV (.rw k ow wt ht :: rest) c).roots (au 0) _ r=gH (gD (.rw k' ow vI ht' :: rest) 0 (x',c.2)) r
  simp only [gD,wL hrest,gH,ha',cond_true]
  unfold upd
  cases hb:Nat.beq r (au 0) with
  | true=>rfl
  | false=>simp only [cond_false]; rw [Gu,hb]; rfl
 rw [hst] at aai
 have hP':Jr (Dc cx (aS dX)) (.rw k' ow vI ht' :: rest):=by
  refine ⟨fun j IA hj hkp=>?_,fun j p ts v h=>h.elim,fun j v h=>h.elim⟩
  obtain ⟨pi,hj',rfl⟩:=pK hj
  obtain ⟨k0,o1,o2,o3,h⟩:=hP.par j pi hj' hkp
  cases j with
  | zero=>exact ⟨k',ow,vI,ht', .inl rfl⟩
  | succ j=>exact ⟨k0,o1,o2,o3,by simpa using h⟩
 have h:=hE (gI fr iP i0 is) (x',c.2) out' hF' (Dc cx (aS dX)) _ args w hnt hw hsz hP' aai
 have hpost:∀v w', @Post (gI fr iP i0 is) (Dc cx (aS dX)) (.rw k' ow vI ht' :: rest) rs' out' v w'→@Post fr cx (.rw k ow wt ht :: rest) rs out v w':=by
  rintro v w' ⟨σ1,dO,F1,a1,vs,bz,H1,rfl,hL,hfn,Uh,hOut,_⟩
  obtain ⟨Q,q1,q2,⟨ek,ey⟩,q4,q5,_⟩:=hOut
  have hRQ:=We ek ey hRP
  obtain ⟨J2,t1,t2⟩:=select (dX:=dX) (ns:=ms1) (fun m hm=>by rw [g1]; exact hsub m (List.mem_append_left _ hm))
  obtain ⟨tT,t3,t4⟩:=select (dX:=dX) (ns:=ms2) (fun m hm=>by rw [g1]; exact hsub m (List.mem_append_right _ hm))
  have Bh:=q5
  unfold F8 at Bh
  simp only [Bool.and_eq_true] at Bh
  obtain ⟨⟨⟨⟨l1,l2⟩,_⟩,_⟩,_⟩:=Bh
  have htr:∀{l:List Nat},oF l vI=true→oF l wt=true:=fun hl=>jW.2 fun t ht=>jW.1 hwt t (jW.1 hl t ht)
  obtain ⟨Dt,M4,r1,r2,r3⟩:=aa8 (fr:=fr) H hw hR0 pQ rfl rfl ⟨rfl,rfl⟩ hown hown' Wq g2 (by rw [g1]; exact hnd) g3 g4 H1 q1 q2 ek (fun t ht=>by
    have:=List.all_eq_true.1 q4 t ht
    rw [hown' t ht] at this
    simpa using this) (wt:=wt) (ht:=ht) ⟨htr l1,htr l2⟩ hwk aaw (y:=(Cont.snd _ _ out).1) (tT:=tT) (by rw [t3]; exact hRQ) t4 (J2:=J2) t2 (by rw [t1]; exact hRR) hL hfn Uh
    (by rw [List.map_append,t1,t3]; exact hmm) (fun j p ts v h=>by obtain ⟨k0,_,h⟩:=hP.ptr j p ts v h; exact ⟨k0,h⟩)
  refine ⟨_,Dt,M4.flatten,a1,vs,M4,r1,rfl,r2,r3,fun b hb=>hb,⟨_,xA,⟨rfl,rfl⟩,⟨rfl,rfl⟩, ?_, ?_, .inl ha⟩,IG hrest⟩
  ·exact List.all_eq_true.2 fun t _=>by simp [pM]; rfl
  ·unfold F8 pM
   simp only [oF,List.all_nil,Bool.and_eq_true,List.all_eq_true]
   exact ⟨⟨⟨⟨fun x hx=>aL.2 hx,trivial⟩,fun x hx=>aL.2 hx⟩,fun x hx=>aL.2 hx⟩,rfl⟩
 rcases h with ⟨h1,h2⟩ | ⟨v,w',h1,h2⟩
 ·refine .inl ⟨h1,h2.mono ?_⟩
  rintro e w' ⟨v,rfl,hv⟩
  exact ⟨v,rfl,hpost v w' hv⟩
 ·exact .inr ⟨v,w',h1,hpost v w' h2⟩
end Go.Proofs.YtdknpknohipffaaGreat.Ow

/- Ow 72: rows and numbers: lists element by element, numbers by place. -/
namespace Go.Proofs.YtdknpknohipffaaGreat.Ow
open Go
theorem Mc {e:TypeId} {kk:K} {z:Bool} {tb:Nat→List (El kk)} {k k':K} {t:TypeId} {C:Type} (hsz:k'.size=k.size) (l:List C) (f:C→El k) (g:C→El k') (q:C→List Nat)
  (h:∀c∈l,Rw e kk z tb k k' (f c) (g c) (q c)):Rw e kk z tb (.sl t k) (.sl t k') (l.map f) (l.map g) (l.map q).flatten:=by
 unfold Rw
 refine ⟨rfl,hsz,by simp,l.map q,by simp,rfl,fun i h1 h2=>?_⟩
 have hi:i<l.length:=by simpa using h1
 have:=h l[i] (List.getElem_mem hi)
 simpa [List.getD_eq_getElem?_getD,hi] using this
theorem rD {C:Type} (xs:List C):((xs.zipIdx 1).map (·.2)).Nodup∧0∉(xs.zipIdx 1).map (·.2):=by
 rw [List.zipIdx_map_snd]
 exact ⟨List.nodup_range',by simp⟩
theorem Iw {C:Type} (xs:List C):(xs.zipIdx 1).map (·.1)=xs:=List.zipIdx_map_fst ..
theorem Q7 {C R:Type} {xs:List C} {m:C→R} {d:R} {x:C} {i:Nat} (h:(x,i)∈xs.zipIdx 1):((xs[i - 1]?).map m).getD d=m x∧i≠0:=by
 obtain ⟨h1,h2,h3⟩:=List.mem_zipIdx h
 have hi:i - 1<xs.length:=by omega
 exact ⟨by simp [hi,h3],by omega⟩
end Go.Proofs.YtdknpknohipffaaGreat.Ow

/- The framework, part 73: a function that moves rows about in a slice that is lent, without looking into them. Own work of this seat. -/
namespace Go.Proofs.YtdknpknohipffaaGreat.Ow
open Go
section
variable {e:TypeId} {kk:K} [fr:Fr]
variable {cx:Cx} {σ:St} {α:dN} {a:Act} {w:World}
def Oe (cx:Cx) (bad:List Nat):Cx:={ Dc cx bad with refs:=cx.refs }
theorem Sk {bad:List Nat} {σ':St} {α':dN} {F':List Nat}:∀{cs:List (TypeId×Dat×List Tag)} {vs:List Value},lD (Dc cx bad) σ' α' F' w cs vs→lD (Oe cx bad) σ' α' F' w cs vs
 | [],[],_=>trivial
 | _ :: _,_ :: _,h=>⟨h.1,Sk h.2⟩
 | [],_ :: _,h=>h.elim
 | _ :: _,[],h=>h.elim
theorem aeG {bad:List Nat} {σ':St} {α':dN} {F':List Nat} {x:AV} {v:Value} (h:bH (Dc cx bad) σ' α' F' w x v):bH (Oe cx bad) σ' α' F' w x v:=by
 cases x with
 | fn f cs=>obtain ⟨vs,h1,h2⟩:=h; exact ⟨vs,h1,Sk h2⟩
 | _=>exact h
theorem ZA {e1 e2:TypeId} {k1 k2:K} {v:Value} {cs:List Value} (h:VC (.sl e1 k1) v cs):VC (.sl e2 k2) v cs:=h
def nD (k:K) (x:El k) (ow wt ht:List TypeId):Root:={ k,x,own:=ow,tags:=[],w:=wt,h:=ht,g:=0,kind:=.anon,fixed:=true,keep:=true,ew:=[],eh:=ht }
theorem Vo (H:Rel cx σ α [] a w) (hw0:cx.w0=w) {R0:Root} {e1:TypeId} {k1:K} (hk0:R0.k=.sl e1 k1) (hR0:aR σ (au 0) R0) (pQ:∀r,r≠au 0→σ.roots r=none) (F7:R0.kind=.anon) (ve:R0.tags=[]) (hown:∀t∈R0.k.tys,ay t R0.own=true) (he:ay e R0.own=true)
  (hs0:σ.slots 0=.one (.ref (au 0) 0)) (hsl:∀s,s≠0→HZ (σ.slots s)) {e2:TypeId} {k2:K} {x':El (.sl e2 k2)} {tb:Nat→List (El kk)} {ns:List Nat} (hR:Rw e kk false tb R0.k (.sl e2 k2) R0.x x' ns) (hnd:ns.Nodup) (hn0:0∉ns) (hown':∀t∈(K.sl e2 k2).tys,ay t R0.own=true) (hg0:R0.g=0) :
  ∃(dX:List OW) (dK:List Nat) (iP:Nat→Value) (h0:iP 0=.slice none 0 0) (hs:∀i,∃a n c,iP i=.slice a n c),dX.map (·.1)=ns∧(α.fo (au 0)).Perm (dK++aS dX)∧
   (∀q∈dX, @Ow fr (hp w) R0.own (fun _=>False) (.sl e kk) (tb q.1) [q.2.1] q.2.2)∧(∀q∈dX,iP q.1=q.2.1)∧
   @Rel (gI fr iP h0 hs) (Oe cx (aS dX)) (az σ (au 0) { R0 with k:=.sl e2 k2,x:=x' }) (aJ α (au 0) (α.loc (au 0)) (α.hdr (au 0)) dK) [] a w:=by
 have KR:=H.roots _ R0 hR0
 have hv0:bq σ R0:=⟨hR0.2,by rw [ve]; rfl⟩
 have hO:Ow (hp w) R0.own (fun _=>False) R0.k R0.x (α.hdr (au 0)) (α.fo (au 0)):=gQ (dz hown) (KR.ow hv0)
 obtain ⟨dX,dK,g1,g2,g3,g4⟩:=RQ hown hR hO
 obtain ⟨iP,i1,i2,i3⟩:=Vm (dX:=dX) (by rw [g1]; exact hnd) (by rw [g1]; exact hn0) (fun q hq=>WV he (g3 q hq))
 refine ⟨dX,dK,iP,i1,i2,g1,g2,g3,i3, ?_⟩
 have hblk:blk α R0 (au 0)=α.fo (au 0):=by unfold blk eD; rw [F7]; rfl
 have hsub:∀b∈dK,b∈α.fo (au 0):=fun b hb=>g2.mem_iff.2 (List.mem_append_left _ hb)
 have hbad:∀b∈aS dX,b∈α.fo (au 0):=fun b hb=>g2.mem_iff.2 (List.mem_append_right _ hb)
 have L:F5 cx σ α R0 { R0 with k:=.sl e2 k2,x:=x' } dK (aS dX):=⟨fun r R hr=>by
  by_cases e:r=au 0
  ·subst e; refine ⟨rfl, ?_⟩; have:=hr.1; rw [hR0.1] at this; exact (Option.some.inj this).symm
  ·have:=hr.1; rw [pQ r e] at this; simp at this,hR0,rfl,ve,hsub,hbad⟩
 have vK:=KR.nd
 rw [hblk] at vK
 have wI:=List.nodup_append.1 (g2.nodup vK)
 have hlv:∀{q Q},aR (az σ (au 0) { R0 with k:=.sl e2 k2,x:=x' }) q Q→q=au 0∧Q={ R0 with k:=.sl e2 k2,x:=x' }:=fun {q Q} hq=>by
  rcases jI hq with ⟨rfl,rfl,_⟩ | ⟨e,hq'⟩
  ·exact ⟨rfl,rfl⟩
  ·exact absurd (L.only q Q hq').1 e
 have hlv1:aR (az σ (au 0) { R0 with k:=.sl e2 k2,x:=x' }) (au 0) { R0 with k:=.sl e2 k2,x:=x' }:=⟨aK ..,hR0.2⟩
 have hblk':blk (aJ α (au 0) (α.loc (au 0)) (α.hdr (au 0)) dK) { R0 with k:=.sl e2 k2,x:=x' } (au 0)=dK:=by
  rw [eO]; unfold iE; simp only [F7]; rfl
 have FV:∀v,bH cx σ α [] w (.ref (au 0) 0) v→@bH (gI fr iP i1 i2) (Oe cx (aS dX)) (az σ (au 0) { R0 with k:=.sl e2 k2,x:=x' }) (aJ α (au 0) (α.loc (au 0)) (α.hdr (au 0)) dK) [] w (.ref (au 0) 0) v:=by
  intro v hv Q hQ _
  obtain ⟨_,rfl⟩:=hlv hQ
  obtain ⟨h1,h2⟩:=hv R0 hR0 hg0
  refine ⟨F7, ?_⟩
  rw [hk0] at h2
  simp only [aJ,upd_same]
  exact ZA h2
 have hav:∀{x:Br} {v:Value},HZ x→@kJ fr cx σ α [] w x v→@kJ (gI fr iP i1 i2) (Oe cx (aS dX)) (az σ (au 0) { R0 with k:=.sl e2 k2,x:=x' }) (aJ α (au 0) (α.loc (au 0)) (α.hdr (au 0)) dK) [] w x v:=fun hx h=>by
  have h1:=F5.av (fr:=fr) (gI fr iP i1 i2) rfl L hx h
  rename_i x v
  cases x with
  | Li l=>exact hx.elim
  | one x=>exact @aeG (gI fr iP i1 i2) _ _ _ _ _ _ _ _ h1
 have jT:∀b∈dK,Ow.mine (Oe cx (aS dX)) w b:=fun b hb=>by
  obtain ⟨m1,m2⟩:=KR.mine b (by rw [hblk]; exact hsub b hb)
  refine ⟨m1, ?_⟩
  rcases m2 with m2 | ⟨j,pi,m2,m3⟩
  ·exact .inl m2
  ·refine .inr ⟨j,{ pi with bl:=pi.bl.filter fun b=>!ay b (aS dX) },by simp [Oe,Dc,m2],List.mem_filter.2 ⟨m3, ?_⟩⟩
   have:ay b (aS dX)=false:=by
    rw [aV]
    intro hm
    exact wI.2.2 b hb b hm rfl
   rw [this]; rfl
 have OG:∀{j:Nat} {IA:Xm},(Oe cx (aS dX)).par j=some IA→∃pi,cx.par j=some pi∧IA={ pi with bl:=pi.bl.filter fun b=>!ay b (aS dX) }:=fun h=>pK (cx:=cx) h
 have hpl:=H.sw
 refine @Rel.mk (gI fr iP i1 i2) _ _ _ _ _ _ H.defs H.sz ?_ ?_ ?_ ?_ ?_ ?_ ?_ (fun b hb=>by simp at hb) List.nodup_nil (fun r R hr b hb h=>by simp at h) ?_ ?_ ?_ (fun j p ts v h=>h.elim) ?_
 ·intro j IA b o n hj hb
  obtain ⟨pi,hj',rfl⟩:=OG hj
  obtain ⟨R,f1,f2,_⟩:=H.oN j pi b o n hj' hb
  obtain ⟨_,rfl⟩:=L.only _ R f1
  rw [F7] at f2
  simp at f2
 ·intro r R hr hk
  obtain ⟨rfl,rfl⟩:=hlv hr
  have hk:R0.kind=.par:=hk
  rw [F7] at hk
  simp at hk
 ·intro s
  show @kJ (gI fr iP i1 i2) _ _ _ _ _ (σ.slots s) _
  by_cases h0:s=0
  ·subst h0
   have:=H.slots 0
   rw [hs0] at this ⊢
   exact FV _ this
  ·exact hav (hsl s h0) (H.slots s)
 ·intro s
  show CV _ (σ.slots s)
  by_cases h0:s=0
  ·subst h0
   rw [hs0]
   exact ⟨_,aK .., .inr (Nat.zero_le _)⟩
  have hs:=hsl s h0
  cases hx:σ.slots s with
  | Li l=>rw [hx] at hs; exact hs.elim
  | one x=>
   rw [hx] at hs
   cases x with
   | undef=>trivial
   | ptr r p n=>obtain ⟨rfl,rfl,rfl⟩:=hs; exact ⟨_,aK .., .inr (Nat.zero_le _)⟩
   | val k x T=>exact fun t ht=>.inl (hs.2 t ht)
   | fn f cs=>exact fun c hc t ht=>.inl ((hs c hc).2.1 t ht)
   | _=>exact hs.elim
 ·intro r R hr
  obtain ⟨rfl,rfl⟩:=hlv hr
  refine @xX.mk (gI fr iP i1 i2) _ _ _ _ _ _ _ (fun _=>?_) ?_ ?_ ?_ ?_
  ·have e1:(aJ α (au 0) (α.loc (au 0)) (α.hdr (au 0)) dK).hdr (au 0)=α.hdr (au 0):=by simp [aJ,upd_same]
   have e2:(aJ α (au 0) (α.loc (au 0)) (α.hdr (au 0)) dK).fo (au 0)=dK:=by simp [aJ,upd_same]
   rw [e1,e2]
   exact @gQ (gI fr iP i1 i2) _ _ _ _ _ _ _ _ (dz hown') (g4 (gI fr iP i1 i2) rfl i3)
  ·show ((aJ α (au 0) (α.loc (au 0)) (α.hdr (au 0)) dK).hdr (au 0)).length=(K.sl e2 k2).size
   rw [hR.size]
   simpa [aJ,upd_same] using KR.len
  ·intro b o hb
   rw [L.wh] at hb
   unfold eD at hb
   rw [F7] at hb
   simp at hb
  ·rw [hblk']
   exact wI.1
  ·intro b hb
   rw [hblk'] at hb
   exact jT b hb
 ·intro r R hr
  by_cases e:r=au 0
  ·subst e
   rw [aK] at hr
   have hr:=Option.some.inj hr
   subst hr
   exact ⟨fun t ht=>by rw [show ({ R0 with k:=.sl e2 k2,x:=x' }:Root).tags=R0.tags from rfl,ve] at ht; simp at ht,qH 0,fun n hn=>by rw [show ({ R0 with k:=.sl e2 k2,x:=x' }:Root).tags=R0.tags from rfl,ve] at hn; simp at hn⟩
  ·rw [cu _ _ e,pQ r e] at hr; simp at hr
 ·intro r R r' R' hr hr' hne
  exact absurd ((hlv hr).1.trans (hlv hr').1.symm) hne
 ·obtain ⟨f1,f2,f3,f4,f5,f6⟩:=H.frame
  refine ⟨f1,f2,f3,f4,fun b _ _=>by show hp w b=hp cx.w0 b; rw [hw0],fun j IA b o n hj hb=>?_⟩
  obtain ⟨pi,hj',rfl⟩:=OG hj
  exact f6 j pi b o n hj' hb
 ·intro j IA hj hkp
  obtain ⟨pi,hj',rfl⟩:=OG hj
  obtain ⟨R,f1,f2⟩:=H.zw j pi hj' hkp
  by_cases e:au j=au 0
  ·refine ⟨_,by rw [e]; exact aK ..,fun _ b hb hnb=>.inr ⟨by show hp w b=hp cx.w0 b; rw [hw0],by simp,fun q Q hq _=>by rw [(hlv hq).1,e]⟩⟩
  ·rw [pQ _ e] at f1; simp at f1
 ·refine ⟨fun j IA hj b hb=>?_,fun b hb=>⟨?_,fun j IA hj hbl=>?_⟩,fun b hb=>hpl.2.2 b hb⟩
  ·obtain ⟨pi,hj',rfl⟩:=OG hj
   exact hpl.1 j pi hj' b (List.mem_filter.1 hb).1
  ·exact (hpl.2.1 b hb).1
  ·obtain ⟨pi,hj',rfl⟩:=OG hj
   exact (hpl.2.1 b hb).2 j pi hj' (List.mem_filter.1 hbl).1
 ·intro j v hv
  have hv:cx.refs j v:=hv
  obtain ⟨⟨R,f1⟩,f2⟩:=H.Cb j v hv
  have ej:au j=au 0:=Classical.byContradiction fun ne=>by rw [pQ _ ne] at f1; simp at f1
  rw [ej] at f2 ⊢
  exact ⟨⟨_,aK ..⟩,FV v f2⟩
theorem Yk (H:Rel cx σ α [] a w) (hw0:cx.w0=w) {R0:Root} {e1:TypeId} {k1:K} (hk0:R0.k=.sl e1 k1) (hR0:aR σ (au 0) R0) (pQ:∀r,r≠au 0→σ.roots r=none) (F7:R0.kind=.anon) (hg0:R0.g=0) (hv0:bq σ R0)
  (hown:∀t∈R0.k.tys,ay t R0.own=true) {e2:TypeId} {k2:K} (hown':∀t∈(K.sl e2 k2).tys,ay t R0.own=true) (Wq:∀t∈(K.sl e kk).tys,ay t R0.own=true)
  {tb:Nat→List (El kk)} {dX:List OW} {dK:List Nat} {iP:Nat→Value} {h0:iP 0=.slice none 0 0} {hs:∀i,∃a n c,iP i=.slice a n c}
  (hperm:(α.fo (au 0)).Perm (dK++aS dX)) (hnd:(dX.map (·.1)).Nodup) (hrow:∀q∈dX, @Ow fr (hp w) R0.own (fun _=>False) (.sl e kk) (tb q.1) [q.2.1] q.2.2) (hid:∀q∈dX,iP q.1=q.2.1)
  {σ1:St} {dO:dN} {F1:List Nat} {a1:Act} {w':World} (H1 : @Rel (gI fr iP h0 hs) (Oe cx (aS dX)) σ1 dO F1 a1 w') {Q:Root} (hQ:σ1.roots (au 0)=some Q) (hQv:bq σ1 Q) (hQk:Q.k=.sl e2 k2) (hQo:∀t∈(K.sl e2 k2).tys,ay t Q.own=true) (hQn:Q.kind=.anon) (hQg:Q.g=0)
  {wt:List TypeId} (hwt:oF Q.w wt=true∧oF Q.ew wt=true)
  {y:El R0.k} {tT:List OW} (hP:Rw e kk true tb R0.k Q.k y Q.x (tT.map (·.1))) (hPs:∀q∈tT,q∈dX) (hall:(tT.map (·.1)).Nodup)
  (JJ:∀j p ts v,cx.ptrs j p ts v→j=0→ts=eB p R0.k) :
  Rel cx (EB (nD R0.k y R0.own wt R0.k.tys)) (Gr (α.loc (au 0)) (dO.hdr (au 0)) (dO.fo (au 0)++aS tT)) [] a1 w':=by
 have K0:=H.roots _ R0 hR0
 have hlv1:aR σ1 (au 0) Q:=⟨hQ,hQv.1⟩
 have K1:=@Rel.roots (gI fr iP h0 hs) _ _ _ _ _ _ H1 _ Q hlv1
 have afy:=@xX.ow (gI fr iP h0 hs) _ _ _ _ _ _ _ K1
 have Zq:=@xX.len (gI fr iP h0 hs) _ _ _ _ _ _ _ K1
 have afx:=@xX.nd (gI fr iP h0 hs) _ _ _ _ _ _ _ K1
 have Ur:=@xX.mine (gI fr iP h0 hs) _ _ _ _ _ _ _ K1
 have Vl:∀r R,aR σ r R→r=au 0∧R=R0:=fun r R hr=>by
  by_cases e:r=au 0
  ·subst e; refine ⟨rfl, ?_⟩; have:=hr.1; rw [hR0.1] at this; exact (Option.some.inj this).symm
  ·have:=hr.1; rw [pQ r e] at this; simp at this
 have SN:blk α R0 (au 0)=α.fo (au 0):=by unfold blk eD; rw [F7]; rfl
 have hblk1:blk dO Q (au 0)=dO.fo (au 0):=by unfold blk eD; rw [hQn]; rfl
 have hsize:w.heap.size≤w'.heap.size:=by have:=(@Rel.frame (gI fr iP h0 hs) _ _ _ _ _ _ H1).2.2.2.1; simpa [Oe,Dc,hw0] using this
 have vK:=K0.nd
 rw [SN] at vK
 have wI:=List.nodup_append.1 (hperm.nodup vK)
 have hbad:∀b∈aS dX,b∈α.fo (au 0):=fun b hb=>hperm.mem_iff.2 (List.mem_append_right _ hb)
 have M9:∀b∈aS dX,b∈blk α R0 (au 0):=fun b hb=>by rw [SN]; exact hbad b hb
 have OG:∀{j:Nat} {IA:Xm},(Oe cx (aS dX)).par j=some IA→∃pi,cx.par j=some pi∧IA={ pi with bl:=pi.bl.filter fun b=>!ay b (aS dX) }:=fun h=>pK (cx:=cx) h
 have hno:∀b∈aS dX,¬Ow.mine (Oe cx (aS dX)) w' b:=fun b hb hm=>by
  have hlt:=(K0.mine b (M9 b hb)).1
  rcases hm.2 with h | ⟨j,IA,h1,h2⟩
  ·have:w.heap.size≤b:=by simpa [Oe,Dc,hw0] using h
   omega
  ·obtain ⟨pi,_,rfl⟩:=OG h1
   have:=(List.mem_filter.1 h2).2
   rw [aL.2 hb] at this
   simp at this
 have hsame:∀b∈aS dX,hp w' b=hp w b:=fun b hb=>by
  have hlt:=(K0.mine b (M9 b hb)).1
  have:=(@Rel.frame (gI fr iP h0 hs) _ _ _ _ _ _ H1).2.2.2.2.1 b (by simpa [Oe,Dc,hw0] using hlt) (fun j IA h1 h2=>by
   obtain ⟨pi,_,rfl⟩:=OG h1
   have:=(List.mem_filter.1 h2).2
   rw [aL.2 hb] at this
   simp at this)
  simpa [Oe,Dc,hw0] using this
 have hrow':∀q∈dX, @Ow fr (hp w') R0.own (fun _=>False) (.sl e kk) (tb q.1) [q.2.1] q.2.2:=fun q hq=>
  bC (fun _ h=>h.elim) (fun _ h=>h) (fun b hb=>hsame b (List.mem_flatMap.2 ⟨q,hq,hb⟩)) (hrow q hq)
 have Ni:∀b∈aS tT,b∈aS dX:=fun b hb=>by
  obtain ⟨q,hq,h⟩:=List.mem_flatMap.1 hb
  exact List.mem_flatMap.2 ⟨q,hPs q hq,h⟩
 have hnP:(aS tT).Nodup:=JZ wI.2.1 hnd (l:=tT) hPs hall
 have hmB:∀b∈dO.fo (au 0),Ow.mine (Oe cx (aS dX)) w' b:=fun b hb=>Ur b (by rw [hblk1]; exact hb)
 have aaC:∀b,Ow.mine (Oe cx (aS dX)) w' b→Ow.mine cx w' b:=fun b hb=>⟨hb.1,hb.2.imp (fun h=>h) (fun ⟨j,IA,h1,h2⟩=>by
  obtain ⟨pi,h3,rfl⟩:=OG h1
  exact ⟨j,pi,h3,(List.mem_filter.1 h2).1⟩)⟩
 have Wu:∀b∈aS dX,Ow.mine cx w' b:=fun b hb=>by
  obtain ⟨m1,m2⟩:=K0.mine b (M9 b hb)
  exact ⟨by omega,m2⟩
 have JI:∀{r R},aR (EB (nD R0.k y R0.own wt R0.k.tys)) r R→r=au 0∧R=nD R0.k y R0.own wt R0.k.tys:=fun h=>tO h.1
 have Pg:blk (Gr (α.loc (au 0)) (dO.hdr (au 0)) (dO.fo (au 0)++aS tT)) (nD R0.k y R0.own wt R0.k.tys) (au 0)=dO.fo (au 0)++aS tT:=rfl
 have SV:=afx
 rw [hblk1] at SV
 have hf1:=@Rel.frame (gI fr iP h0 hs) _ _ _ _ _ _ H1
 have adg:R0.k.size=Q.k.size:=hP.size.symm
 have aaG:∀j p ts v,cx.ptrs j p ts v→au j=au 0:=fun j p ts v h=>by
  obtain ⟨_,R,f1,_⟩:=H.Ca j p ts v h
  refine Classical.byContradiction fun e=>?_
  rw [pQ _ e] at f1
  simp at f1
 have hdf:=@Rel.defs (gI fr iP h0 hs) _ _ _ _ _ _ H1
 have hsz0:=@Rel.sz (gI fr iP h0 hs) _ _ _ _ _ _ H1
 have hsz1:cx.nt≤a1.tmps.size:=hsz0
 have agi:=@Rel.zw (gI fr iP h0 hs) _ _ _ _ _ _ H1
 have aoB:=@Rel.Cb (gI fr iP h0 hs) _ _ _ _ _ _ H1
 refine ⟨hdf,hsz1, ?_, ?_,fun s=>trivial,fun s=>trivial, ?_, ?_, ?_,fun b hb=>by simp at hb,List.nodup_nil,fun r R hr b hb h=>by simp at h, ?_, ?_, ?_, ?_, ?_⟩
 ·intro j pi b o n hj hb
  obtain ⟨R,f1,f2,_⟩:=H.oN j pi b o n hj hb
  obtain ⟨_,rfl⟩:=Vl _ R f1
  rw [F7] at f2
  simp at f2
 ·intro r R hr hk
  obtain ⟨rfl,rfl⟩:=JI hr
  simp [nD] at hk
 ·intro r R hr
  obtain ⟨rfl,rfl⟩:=JI hr
  refine ⟨fun _=>?_,by show (dO.hdr (au 0)).length=R0.k.size; rw [Zq,adg],fun b o hb=>by simp [eD,nD] at hb, ?_,fun b hb=>?_⟩
  ·have o1 : @Ow (gI fr iP h0 hs) (hp w') R0.own (fun _=>False) Q.k Q.x (dO.hdr (au 0)) (dO.fo (au 0)):=by
    have hk1:∀t∈Q.k.tys,ay t Q.own=true:=fun t ht=>hQo t (by rw [←hQk]; exact ht)
    have hk2:∀t∈Q.k.tys,ay t R0.own=true:=fun t ht=>hown' t (by rw [←hQk]; exact ht)
    exact @gQ (gI fr iP h0 hs) _ _ _ _ _ _ _ _ (dz hk2) (@K7 (gI fr iP h0 hs) _ _ _ _ _ _ _ _ (fun t ht=>by rw [hk1 t ht,hk2 t ht]) (afy hQv))
   have o2:=Qg (fr:=fr) (gI fr iP h0 hs) hown hP o1 (fun q hq=>⟨hrow' q (hPs q hq),hid q (hPs q hq)⟩)
   exact gQ (dz hown) o2
  ·rw [Pg]
   exact List.nodup_append.2 ⟨SV,hnP,fun b hb c hc ebc=>by subst ebc; exact hno b (Ni b hc) (hmB b hb)⟩
  ·rw [Pg] at hb
   rcases List.mem_append.1 hb with h | h
   ·exact aaC b (hmB b h)
   ·exact Wu b (Ni b h)
 ·intro r R hr
  obtain ⟨rfl,rfl⟩:=tO hr
  exact ⟨fun t ht=>by simp [nD] at ht,qH 0,fun n hn=>by simp [nD] at hn⟩
 ·intro r R r' R' hr hr' hne
  exact absurd ((JI hr).1.trans (JI hr').1.symm) hne
 ·obtain ⟨f1,f2,f3,f4,f5,f6⟩:=hf1
  refine ⟨f1,f2,f3,f4,fun b hb hnb=>f5 b hb (fun j IA h1 h2=>?_),fun j pi b o n hj hb=>?_⟩
  ·obtain ⟨pi,h3,rfl⟩:=OG h1
   exact hnb j pi h3 (List.mem_filter.1 h2).1
  ·exact f6 j { pi with bl:=pi.bl.filter fun b=>!ay b (aS dX) } b o n (by simp [Oe,Dc,hj]) hb
 ·intro j pi hj hkp
  obtain ⟨R,f1,_⟩:=H.zw j pi hj hkp
  have ej:au j=au 0:=Classical.byContradiction fun ne=>by rw [pQ _ ne] at f1; simp at f1
  refine ⟨nD R0.k y R0.own wt R0.k.tys,by rw [ej]; exact xA,fun _ b hb hnb=>?_⟩
  have hone:∀q Q,aR (EB (nD R0.k y R0.own wt R0.k.tys)) q Q→b∈blk (Gr (α.loc (au 0)) (dO.hdr (au 0)) (dO.fo (au 0)++aS tT)) Q q→q=au j:=fun q Q hq _=>by rw [(JI hq).1,ej]
  by_cases hbt:b∈aS dX
  ·exact .inr ⟨by rw [hw0]; exact hsame b hbt,by simp,hone⟩
  ·obtain ⟨R1,q1,q2⟩:=agi j { pi with bl:=pi.bl.filter fun b=>!ay b (aS dX) } (by simp [Oe,Dc,hj]) hkp
   have eR:R1=Q:=by rw [ej,hQ] at q1; exact (Option.some.inj q1).symm
   subst eR
   rcases q2 hQv.1 b (List.mem_filter.2 ⟨hb,by rw [aV.2 hbt]; rfl⟩) (fun h=>hnb (MG.1 h)) with ⟨t,t1,t2⟩ | ⟨t1,t2,_⟩
   ·exact .inl ⟨t,t1, .inl (t2.elim (jW.1 hwt.1 t) (jW.1 hwt.2 t))⟩
   ·exact .inr ⟨t1,by simp,hone⟩
 ·refine ⟨fun j pi hj b hb=>H.sw.1 j pi hj b hb,fun b hb=>H.sw.2.1 b hb,fun b hb=>H.sw.2.2 b hb⟩
 ·intro j p ts v hv
  have ej:=aaG j p ts v hv
  have ej0:j=0:=by unfold au at ej; omega
  obtain ⟨g1,R,f1,f2⟩:=H.Ca j p ts v hv
  have hts:=JJ j p ts v hv ej0
  refine ⟨g1,nD R0.k y R0.own wt R0.k.tys,by rw [ej]; exact xA,fun hno'=>?_⟩
  refine ⟨g1,fun R' hR' _ _ _ hsome=>?_⟩
  rw [ej] at hR'
  obtain ⟨_,rfl⟩:=tO hR'
  have hsome:(aT p R0.k y).isSome=true:=hsome
  cases p with
  | nil=>
   have hRR:R=R0:=by rw [ej,hR0.1] at f1; exact (Option.some.inj f1).symm
   obtain ⟨_,cs,b,o,hn,ev⟩:=(f2 (fun t ht=>by rw [hts] at ht; simp [eB] at ht)).2 R0 (by rw [ej]; exact hR0.1) hv0 (by unfold eB clean; simp [ay]) (fun t ht=>by simp [ah] at ht) rfl
   rw [ej] at hn
   simp only [bF,Option.some.injEq,Prod.mk.injEq] at hn
   have h2:=hn.2
   unfold eD at h2
   rw [F7] at h2
   simp at h2
  | cons s p=>
   cases s with
   | gL m=>
    rw [hk0] at hts
    have:aT (.gL m :: p) R0.k y=none:=by
     have hg:∀(k:K) (z:El k),k=.sl e1 k1→aT (.gL m :: p) k z=none:=by
      intro k z hk; subst hk; rfl
     exact hg _ y hk0
    rw [this] at hsome; simp at hsome
   | idx i=>
    exfalso
    refine hno' e1 ?_ ?_
    ·rw [hts,hk0]; simp [eB,ah]
    ·show e1∈R0.k.tys
     rw [hk0]; simp [K.tys]
 ·intro j v hv
  obtain ⟨⟨R,f1⟩,f2⟩:=H.Cb j v hv
  have ej:au j=au 0:=Classical.byContradiction fun ne=>by rw [pQ _ ne] at f1; simp at f1
  obtain ⟨_,q2⟩:=aoB j v hv
  rw [ej] at q2 ⊢
  refine ⟨⟨_,xA⟩,fun R' hR' _=>?_⟩
  obtain ⟨_,rfl⟩:=JI hR'
  obtain ⟨z1,z2⟩:=q2 Q hlv1 hQg
  refine ⟨rfl, ?_⟩
  show VC R0.k v (dO.hdr (au 0))
  rw [hk0]
  rw [hQk] at z2
  exact ZA z2
end
theorem aa7 [fr:Fr] {e e1 e2:TypeId} {kk k1 k2:K} {P:Program} {n:Nat} {f:FuncId} {ow wt vI:List TypeId} {rest:List dn}
  {F:Nat→Cont (kin (.jL (.sl e1 k1) ow wt :: rest))→Option (Cont (iF [.into 0 []]++lG (.jL (.sl e1 k1) ow wt :: rest)))} {F':Nat→Cont (kin (.jL (.sl e2 k2) ow vI :: rest))→Option (Cont (iF [.into 0 []]++lG (.jL (.sl e2 k2) ow vI :: rest)))}
  (hrest:fB rest=true) (hown:∀t∈(K.sl e1 k1).tys,ay t ow=true) (hown':∀t∈(K.sl e2 k2).tys,ay t ow=true) (Wq:∀t∈(K.sl e kk).tys,ay t ow=true)
  (hE:∀fr:Fr, @ak fr P n ⟨f, .jL (.sl e2 k2) ow vI :: rest,[.into 0 []],F'⟩) (hwt:oF vI wt=true)
  (hF:∀c out,F n c=some out→∃(x':El (.sl e2 k2)) (ns ms:List Nat) (tb:Nat→List (El kk)) (out':Cont (iF [.into 0 []]++lG (.jL (.sl e2 k2) ow vI :: rest))),Rw e kk false tb (.sl e1 k1) (.sl e2 k2) c.1 x' ns∧ns.Nodup∧0∉ns∧F' n (x',c.2)=some out'∧
   (show Int from out.1)=(show Int from out'.1)∧Rw e kk true tb (.sl e1 k1) (.sl e2 k2) out.2.1 out'.2.1 ms∧ms.Nodup∧∀m∈ms,m∈ns) :
  ak P n ⟨f, .jL (.sl e1 k1) ow wt :: rest,[.into 0 []],F⟩:=by
 intro c out hout cx α args w hnt hw hsz hP H
 obtain ⟨x',ns,ms,tb,out',hR,hnd,hn0,hF',hRI,hRP,hmm,hsub⟩:=hF c out hout
 have ha:((K.sl e1 k1).tys.all fun t=>ay t ow)=true:=List.all_eq_true.2 hown
 have ha':((K.sl e2 k2).tys.all fun t=>ay t ow)=true:=List.all_eq_true.2 hown'
 have Gu:∀r,(bV (.jL (.sl e1 k1) ow wt :: rest) c).roots r=bif Nat.beq r (au 0) then some { aP (.sl e1 k1) c.1 ow [] .anon true with fixed:=true } else none:=fun r=>by
  show gH (gD (.jL (.sl e1 k1) ow wt :: rest) 0 c) r=_
  simp only [gD,wL hrest,gH,ha,cond_true]
  rfl
 have hR0:aR (bV (.jL (.sl e1 k1) ow wt :: rest) c) (au 0) { aP (.sl e1 k1) c.1 ow [] .anon true with fixed:=true }:=⟨by rw [Gu]; simp,rfl⟩
 have pQ:∀r,r≠au 0→(bV (.jL (.sl e1 k1) ow wt :: rest) c).roots r=none:=fun r hr=>by
  rw [Gu]
  have:Nat.beq r (au 0)=false:=by
   cases hb:Nat.beq r (au 0) with
   | true=>exact absurd (Nat.eq_of_beq_eq_true hb) hr
   | false=>rfl
  rw [this]; rfl
 have hs0:(bV (.jL (.sl e1 k1) ow wt :: rest) c).slots 0=.one (.ref (au 0) 0):=rfl
 have hsl:∀s,s≠0→HZ ((bV (.jL (.sl e1 k1) ow wt :: rest) c).slots s):=fun s hs=>by
  show HZ (vk (jU (.jL (.sl e1 k1) ow wt :: rest) 0 c) s)
  simp only [jU,vk]
  cases hb:Nat.beq s 0 with
  | true=>exact absurd (Nat.eq_of_beq_eq_true hb) hs
  | false=>exact Dp hrest s
 obtain ⟨dX,dK,iP,i0,is,g1,g2,g3,g4,aai⟩:=Vo H hw (R0:={ aP (.sl e1 k1) c.1 ow [] .anon true with fixed:=true }) rfl hR0 pQ rfl rfl hown (Wq e (by simp [K.tys])) hs0 hsl (x':=x') hR hnd hn0 hown' rfl
 have hst:az (bV (.jL (.sl e1 k1) ow wt :: rest) c) (au 0) { ({ aP (.sl e1 k1) c.1 ow [] .anon true with fixed:=true }:Root) with k:=.sl e2 k2,x:=x' }=bV (.jL (.sl e2 k2) ow vI :: rest) (x',c.2):=by
  unfold az bV
  congr 1
  funext r
  show upd (bV (.jL (.sl e1 k1) ow wt :: rest) c).roots (au 0) _ r=gH (gD (.jL (.sl e2 k2) ow vI :: rest) 0 (x',c.2)) r
  simp only [gD,wL hrest,gH,ha',cond_true]
  unfold upd
  cases hb:Nat.beq r (au 0) with
  | true=>rfl
  | false=>simp only [cond_false]; rw [Gu,hb]; rfl
 rw [hst] at aai
 have Wt:∀j,(∃k,Bd (.jL (.sl e1 k1) ow wt :: rest) j k)→∃k,Bd (.jL (.sl e2 k2) ow vI :: rest) j k:=by
  rintro j ⟨k0,o1,o2,o3,h⟩
  cases j with
  | zero=>exact ⟨.sl e2 k2,ow,vI,[], .inr rfl⟩
  | succ j=>exact ⟨k0,o1,o2,o3,by simpa using h⟩
 have hP':Jr (Oe cx (aS dX)) (.jL (.sl e2 k2) ow vI :: rest):=by
  refine ⟨fun j IA hj hkp=>?_,fun j p ts v h=>h.elim,fun j v h=>Wt j (hP.ref j v h)⟩
  obtain ⟨pi,hj',rfl⟩:=pK (cx:=cx) hj
  exact Wt j (hP.par j pi hj' hkp)
 have h:=hE (gI fr iP i0 is) (x',c.2) out' hF' (Oe cx (aS dX)) _ args w hnt hw hsz hP' aai
 have hpost:∀v w', @Post (gI fr iP i0 is) (Oe cx (aS dX)) (.jL (.sl e2 k2) ow vI :: rest) [.into 0 []] out' v w'→@Post fr cx (.jL (.sl e1 k1) ow wt :: rest) [.into 0 []] out v w':=by
  rintro v w' ⟨σ1,dO,F1,a1,vs,bz,H1,rfl,hL,hfn,Uh,hOut,_⟩
  obtain ⟨Q,q1,q2,⟨ek,ey⟩,q4,q5,_⟩:=hOut
  have hRQ:=We ek ey hRP
  obtain ⟨tT,t3,t4⟩:=select (dX:=dX) (ns:=ms) (fun m hm=>by rw [g1]; exact hsub m hm)
  have Bh:=q5
  unfold F8 at Bh
  simp only [Bool.and_eq_true] at Bh
  obtain ⟨⟨⟨⟨l1,l2⟩,_⟩,_⟩,l5⟩:=Bh
  have hg0:Q.g=0:=Nat.eq_of_beq_eq_true l5
  have htr:∀{l:List Nat},oF l vI=true→oF l wt=true:=fun hl=>jW.2 fun t ht=>jW.1 hwt t (jW.1 hl t ht)
  cases vs with
  | nil=>exact hL.elim
  | cons v vs=>
   cases bz with
   | nil=>exact hL.elim
   | cons fo bz=>
    obtain ⟨⟨rfl,_,b,m,cp,e3,e4,e5⟩,hL2⟩:=hL
    cases vs with
    | cons _ _=>cases bz <;> exact hL2.elim
    | nil=>
     cases bz with
     | cons _ _=>exact hL2.elim
     | nil=>
      obtain ⟨hQn,hQV⟩:=e5 Q ⟨q1,q2.1⟩ hg0
      have r1:=Yk (fr:=fr) H hw (R0:={ aP (.sl e1 k1) c.1 ow [] .anon true with fixed:=true }) rfl hR0 pQ rfl rfl ⟨rfl,rfl⟩ hown hown' Wq g2 (by rw [g1]; exact hnd) g3 g4 H1 q1 q2 ek (fun t ht=>by
        have:=List.all_eq_true.1 q4 t ht
        rw [hown' t ht] at this
        simpa using this) hQn hg0 (wt:=wt) ⟨htr l1,htr l2⟩ (y:=out.2.1) (tT:=tT) (by rw [t3]; exact hRQ) t4 (by rw [t3]; exact hmm) (fun j p ts v h hj=>by
         obtain ⟨k0,⟨o1,o2,o3,h1⟩,h2⟩:=hP.ptr j p ts v h
         subst hj
         rcases h1 with h1 | h1
         ·simp at h1
         ·simp only [List.getElem?_cons_zero,Option.some.injEq,dn.jL.injEq] at h1
          rw [h2, ←h1.1]; rfl)
      refine ⟨_,_,[],a1,[v],[[]],r1,rfl,⟨⟨rfl,rfl,b,m,cp, ?_, ?_, ?_⟩,trivial⟩,by simp,by simp,⟨_,xA,⟨rfl,rfl⟩,⟨rfl,rfl⟩, ?_, ?_, .inl ha⟩,IG hrest⟩
      ·have hI:(show Int from (Cont.fst (iF [jY.into 0 []]) _ out).1)=(show Int from (Cont.fst (iF [jY.into 0 []]) _ out').1):=hRI
       rw [hI]; exact e3
      ·have hI:(show Int from (Cont.fst (iF [jY.into 0 []]) _ out).1)=(show Int from (Cont.fst (iF [jY.into 0 []]) _ out').1):=hRI
       rw [hI]; exact e4
      ·intro R' hR' _
       obtain ⟨_,rfl⟩:=tO hR'.1
       refine ⟨rfl, ?_⟩
       have ek:Q.k=.sl e2 k2:=ek
       rw [ek] at hQV
       exact ZA hQV
      ·exact List.all_eq_true.2 fun t _=>by simp [nD]; rfl
      ·unfold F8 nD
       simp only [oF,List.all_nil,Bool.and_eq_true,List.all_eq_true]
       exact ⟨⟨⟨⟨fun x hx=>aL.2 hx,trivial⟩,fun x hx=>aL.2 hx⟩,fun x hx=>aL.2 hx⟩,rfl⟩
 rcases h with ⟨h1,h2⟩ | ⟨v,w',h1,h2⟩
 ·refine .inl ⟨h1,h2.mono ?_⟩
  rintro e w' ⟨v,rfl,hv⟩
  exact ⟨v,rfl,hpost v w' hv⟩
 ·exact .inr ⟨v,w',h1,hpost v w' h2⟩
end Go.Proofs.YtdknpknohipffaaGreat.Ow
