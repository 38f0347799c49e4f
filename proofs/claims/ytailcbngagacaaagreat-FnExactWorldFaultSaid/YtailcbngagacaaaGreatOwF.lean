/- A verified reading of translated code: values in place of memory; part F of 6, spaces and remarks taken out. No condition. Own work of this seat. -/
import Derived.Test.YtailcbngagacaaaGreatOwE
/- The framework, part 63: types, checked by computing. Own work of this seat. -/
set_option linter.unusedSectionVars false
set_option linter.unusedVariables false
set_option linter.unusedSimpArgs false
namespace Go.Proofs.YtailcbngagacaaaGreat.Ow
open Go
structure Ul where
 ty:List (TypeId×K)
 bytes:List (TypeId×Nat)
 ptr:List TypeId
 ids:Bool:=false
def look {A:Type} (n:Nat):List (Nat×A)→Option A
 | []=>none
 | (m,a) :: l=>bif Nat.beq n m then some a else look n l
def ZI (n:Nat):List (Nat×Nat)→Nat
 | []=>0
 | (m,a) :: l=>bif Nat.beq n m then a else ZI n l
def Ul.tab (L:Ul):iX:={ ty:=fun t=>look t L.ty,bytes:=fun t=>ZI t L.bytes,ptr:=fun t=>ay t L.ptr,eq:=fun _=>false,ids:=L.ids }
def Wp:K→Value→Bool
 | .int ik, .int jk (.ofNat 0)=>zM ik jk
 | .bool, .bool false=>true
 | .str, .string s=>Nat.beq s.data.size 0
 | .sl _ _, .slice none 0 0=>true
 | .id _, .slice none 0 0=>true
 | _,_=>false
def Mi:K→List Value→Option (List Value)
 | .pair a b,l=>match Mi a l with
  | some m=>Mi b m
  | none=>none
 | .unit,l=>some l
 | .st f,l=>Mi f l
 | .gap _,_=>none
 | k,v :: l=>bif Wp k v then some l else none
 | _,[]=>none
def isZ:K→Value→Bool
 | .st f, .agg arr=>match Mi f arr.toList with
  | some []=>true
  | _=>false
 | .st _,_=>false
 | k,v=>Wp k v
def xu (P:Program) (t:TypeId) (k:K):Bool:=match P.info? t with
 | some i=>Nat.beq i.size k.size && (match i.zero with
  | some v=>isZ k v
  | none=>false)
 | none=>false
def kS (P:Program) (T:iX):K→(TypeId→Bool)×(List Field→Nat→Bool)
 | .int ik=>(fun t=>(match P.underlying t with
  | some (.int jk)=>zM ik jk
  | _=>false) && xu P t (.int ik),fun _ _=>false)
 | .bool=>(fun t=>(match P.underlying t with
  | some .bool=>true
  | _=>false) && xu P t .bool,fun _ _=>false)
 | .str=>(fun t=>(match P.underlying t with
  | some .string=>true
  | _=>false) && xu P t .str,fun _ _=>false)
 | .sl e k=>(fun t=>(match P.underlying t with
  | some (.slice e')=>Nat.beq e e'
  | _=>false) && xu P t (.sl e k) && (kS P T k).1 e && Nat.blt 0 k.size && (match P.info? e with
  | some i=>Nat.beq i.bytes (T.bytes e) && Nat.blt 0 i.bytes
  | none=>false),fun _ _=>false)
 | .unit=>(fun _=>false,fun fs _=>fs.isEmpty)
 | .pair a b=>(fun _=>false,fun fs off=>match fs with
  | []=>false
  | f :: fs=>Nat.beq f.offset off && (kS P T a).1 f.type && Nat.blt 0 a.size && (kS P T b).2 fs (off+a.size))
 | .st c=>(fun t=>(match P.underlying t with
  | some (.struct fs)=>(kS P T c).2 fs.toList 0
  | _=>false) && xu P t (.st c),fun _ _=>false)
 | .gap _=>(fun _=>false,fun _ _=>false)
 | .id e=>(fun t=>(match P.underlying t with
  | some (.slice e')=>Nat.beq e e'
  | _=>false) && xu P t (.id e) && T.ids,fun _ _=>false)
def Bl (P:Program) (L:Ul):Bool:=L.ty.all (fun q=>(kS P L.tab q.2).1 q.1) && L.ptr.all fun t=>match P.underlying t with
 | some (.pointer _)=>true
 | _=>false
section
variable [Fr] {P:Program} {T:iX}
theorem Rq {k:K} {v:Value} (h:Wp k v=true):bT k=[v]∧rX k=v:=by
 unfold Wp at h
 split at h
 ·have:=AR h; subst this; exact ⟨rfl,rfl⟩
 ·exact ⟨rfl,rfl⟩
 ·rename_i s
  have:s=ByteArray.empty:=by
   have h1:=Nat.eq_of_beq_eq_true h
   obtain ⟨d⟩:=s
   have:d=#[]:=Array.eq_empty_of_size_eq_zero h1
   subst this
   rfl
  subst this
  exact ⟨rfl,rfl⟩
 ·exact ⟨rfl,rfl⟩
 ·exact ⟨rfl,rfl⟩
 ·simp at h
theorem YJ:∀{k:K} {l m:List Value},Mi k l=some m→l=bT k++m:=by
 intro k
 have one:∀{k:K} {l m:List Value},(match l with | v :: l=>(bif Wp k v then some l else none) | []=>none)=some m→l=bT k++m:=by
  intro k l m h
  cases l with
  | nil=>simp at h
  | cons v l=>
   obtain ⟨hb,h⟩:=um h
   simp only [Option.some.injEq] at h
   subst h
   rw [(Rq hb).1]
   rfl
 induction k with
 | pair a b iha ihb=>
  intro l m h
  simp only [Mi] at h
  split at h
  ·rename_i q hq
   rw [iha hq,ihb h]
   simp [bT]
  ·simp at h
 | unit=>intro l m h; simp only [Mi,Option.some.injEq] at h; subst h; rfl
 | st f ih=>intro l m h; exact ih (show Mi f l=some m from h)
 | gap n=>intro l m h; simp [Mi] at h
 | int ik=>intro l m h; exact one (k:=.int ik) (by cases l <;> exact h)
 | bool=>intro l m h; exact one (k:=.bool) (by cases l <;> exact h)
 | id e=>intro l m h; exact one (k:=.id e) (by cases l <;> exact h)
 | str=>intro l m h; exact one (k:=.str) (by cases l <;> exact h)
 | sl e k _=>intro l m h; exact one (k:=.sl e k) (by cases l <;> exact h)
theorem ab1 {k:K} {v:Value} (h:isZ k v=true):rX k=v:=by
 unfold isZ at h
 split at h
 ·rename_i f arr
  split at h
  ·rename_i hz
   have:=YJ hz
   simp only [List.append_nil] at this
   show Value.agg (bT f).toArray=.agg arr
   rw [←this]
  ·simp at h
 ·simp at h
 ·exact (Rq h).2
theorem sQ {t:TypeId} {k:K} (h:xu P t k=true):sH P t k:=by
 unfold xu at h
 split at h
 ·rename_i i hi
  simp only [Bool.and_eq_true] at h
  obtain ⟨h1,h2⟩:=h
  split at h2
  ·rename_i v hv
   exact ⟨i,hi,Nat.eq_of_beq_eq_true h1,by rw [hv,ab1 h2]⟩
  ·simp at h2
 ·simp at h
theorem Pw {a b:Nat} (h:Nat.blt a b=true):a<b:=by
 unfold Nat.blt at h
 exact Nat.le_of_ble_eq_true h
theorem Xt:∀{k:K},(∀t,(kS P T k).1 t=true→(jA P T k).1 t)∧∀fs off,(kS P T k).2 fs off=true→(jA P T k).2 fs off:=by
 intro k
 induction k with
 | int ik=>
  refine ⟨fun t h=>?_,fun fs off h=>by simp [kS] at h⟩
  simp only [kS,Bool.and_eq_true] at h
  obtain ⟨h1,h2⟩:=h
  split at h1
  ·rename_i jk hu
   have:=AR h1; subst this
   exact ⟨hu,sQ h2⟩
  ·simp at h1
 | bool=>
  refine ⟨fun t h=>?_,fun fs off h=>by simp [kS] at h⟩
  simp only [kS,Bool.and_eq_true] at h
  obtain ⟨h1,h2⟩:=h
  split at h1
  ·rename_i hu; exact ⟨hu,sQ h2⟩
  ·simp at h1
 | str=>
  refine ⟨fun t h=>?_,fun fs off h=>by simp [kS] at h⟩
  simp only [kS,Bool.and_eq_true] at h
  obtain ⟨h1,h2⟩:=h
  split at h1
  ·rename_i hu; exact ⟨hu,sQ h2⟩
  ·simp at h1
 | sl e k ih=>
  refine ⟨fun t h=>?_,fun fs off h=>by simp [kS] at h⟩
  simp only [kS,Bool.and_eq_true] at h
  obtain ⟨⟨⟨⟨h1,h2⟩,h3⟩,h4⟩,h5⟩:=h
  split at h1
  ·rename_i e' hu
   have:=Nat.eq_of_beq_eq_true h1; subst this
   split at h5
   ·rename_i i hi
    simp only [Bool.and_eq_true] at h5
    exact ⟨hu,sQ h2,ih.1 e h3,Pw h4,i,hi,Nat.eq_of_beq_eq_true h5.1,Pw h5.2⟩
   ·simp at h5
  ·simp at h1
 | unit=>exact ⟨fun t h=>by simp [kS] at h,fun fs off h=>show fs=[] by simpa [kS] using h⟩
 | gap n=>exact ⟨fun t h=>by simp [kS] at h,fun fs off h=>by simp [kS] at h⟩
 | id e=>
  refine ⟨fun t h=>?_,fun fs off h=>by simp [kS] at h⟩
  simp only [kS,Bool.and_eq_true] at h
  obtain ⟨⟨h1,h2⟩,h3⟩:=h
  split at h1
  ·rename_i e' hu
   have:=Nat.eq_of_beq_eq_true h1; subst this
   exact ⟨hu,sQ h2,h3⟩
  ·simp at h1
 | pair a b iha ihb=>
  refine ⟨fun t h=>by simp [kS] at h,fun fs off h=>?_⟩
  cases fs with
  | nil=>simp [kS] at h
  | cons f fs=>
   simp only [kS,Bool.and_eq_true] at h
   obtain ⟨⟨⟨h1,h2⟩,h3⟩,h4⟩:=h
   exact ⟨Nat.eq_of_beq_eq_true h1,iha.1 _ h2,Pw h3,ihb.2 _ _ h4⟩
 | st c ih=>
  refine ⟨fun t h=>?_,fun fs off h=>by simp [kS] at h⟩
  simp only [kS,Bool.and_eq_true] at h
  obtain ⟨h1,h2⟩:=h
  split at h1
  ·rename_i fs hu
   exact ⟨⟨fs,hu,ih.2 _ _ h1⟩,sQ h2⟩
  ·simp at h1
theorem Ob {A:Type} {n:Nat} {a:A}:∀{l:List (Nat×A)},look n l=some a→(n,a)∈l
 | [],h=>by simp [look] at h
 | (m,b) :: l,h=>by
  simp only [look] at h
  cases hb:Nat.beq n m with
  | true=>
   rw [hb] at h
   have:=Nat.eq_of_beq_eq_true hb
   simp only [cond_true,Option.some.injEq] at h
   subst this h
   simp
  | false=>
   rw [hb] at h
   exact .tail _ (Ob h)
theorem Xp {L:Ul} (h:Bl P L=true):fB P L.tab:=by
 unfold Bl at h
 simp only [Bool.and_eq_true,List.all_eq_true] at h
 refine ⟨fun t k ht=>Xt.1 t (h.1 (t,k) (Ob ht)),fun t ht=>?_⟩
 have:=h.2 t (aJ.1 ht)
 split at this
 ·rename_i e he; exact ⟨e,he⟩
 ·simp at this
theorem acd {L:Ul}:JI P L.tab:=fun t c x y u v w hp1 hp2 ok1 ok2 _ he=>by simp [Ul.tab] at he
end
end Go.Proofs.YtailcbngagacaaaGreat.Ow

/- The framework, part 64: what a call list asks. Own work of this seat. -/
namespace Go.Proofs.YtailcbngagacaaaGreat.Ow
open Go
abbrev gV (T:iX) (hi:Hint) (fn:Func) (E:Entry):Prop:=∀n (c:Cont (kin E.ps)),mg T hi fn E.ps E.rs n c=E.F n c
variable [Fr] {P:Program} {n:Nat}
theorem aD:∀q∈([]:List (Nat×Option Nat×Entry)),aj P n q.2.2:=by simp
theorem aa {f:Nat} {d:Option Nat} {E:Entry} {l:List (Nat×Option Nat×Entry)} (h:aj P n E) (t:∀q∈l,aj P n q.2.2):∀q∈(f,d,E) :: l,aj P n q.2.2:=by
 intro q hq
 rcases List.mem_cons.1 hq with rfl | hq
 ·exact h
 ·exact t q hq
theorem ak (hm:P.follows .mixedOrders=true) {L:Ul} (hL:Bl P L=true) {E:Entry} {fn:Func} (hf:P.funcs[E.f]?=some fn) (hname:(fn.name == "runtime.NumGoroutine")=false) {hi:Hint} (hC:∀q∈hi.calls,aj P n q.2.2)
  (hD:∀n (c:Cont (kin E.ps)),mg L.tab hi fn E.ps E.rs n c=E.F n c):aj P n E:=
 PO hm (Xp hL) acd hf hname hC (fun c out h=>by rw [hD]; exact h)
end Go.Proofs.YtailcbngagacaaaGreat.Ow

/- The framework, part 65: loops, by themselves. Own work of this seat. -/
namespace Go.Proofs.YtailcbngagacaaaGreat.Ow
open Go
def CE {A:Type} (xs:List A) (i:Nat) (d:A) (f:A→A):List A:=xs.set i (f (xs.getD i d))
def bX {R:Type} (step:Nat→Option R) (fin:R):Nat→Nat→R
 | 0,_=>fin
 | m+1,i=>match step i with
  | some r=>r
  | none=>bX step fin m (i+1)
theorem Qv {V R:Type} {B:(V→Option R)→V→Option R} (S:Nat→V) (step:Nat→Option (Option R)) (fin:Option R) {m:Nat} (h1:∀L i,i<m→(∀j,j<i→step j=none)→B L (S i)=match step i with | some r=>r | none=>L (S (i+1))) (h2:∀L,(∀j,j<m→step j=none)→B L (S m)=fin) :
  ∀(d i n:Nat),i+d=m→d<n→(∀j,j<i→step j=none)→rounds B n (S i)=bX step fin d i:=by
 intro d
 induction d with
 | zero=>
  intro i n hi hn hp
  cases n with
  | zero=>omega
  | succ n=>
   have:i=m:=by omega
   subst this
   exact h2 _ hp
 | succ d ih=>
  intro i n hi hn hp
  cases n with
  | zero=>omega
  | succ n=>
   show B (rounds B n) (S i)=_
   rw [h1 _ i (by omega) hp]
   unfold bX
   cases hs:step i with
   | some r=>rfl
   | none=>exact ih (i+1) n (by omega) (by omega) (fun j hj=>by
     by_cases e:j=i
     ·rw [e,hs]
     ·exact hp j (by omega))
theorem aR {V R:Type} {B:(V→Option R)→V→Option R} {v0:V} (S:Nat→V) (step:Nat→Option (Option R)) (fin:Option R) {m n:Nat} (h0:v0=S 0) (hn:m<n) (h1:∀L i,i<m→(∀j,j<i→step j=none)→B L (S i)=match step i with | some r=>r | none=>L (S (i+1))) (h2:∀L,(∀j,j<m→step j=none)→B L (S m)=fin) :
  rounds B n v0=bX step fin m 0:=by
 rw [h0]
 exact Qv S step fin h1 h2 m 0 n (by omega) hn (fun j h=>by omega)
theorem SC {A:Type} (d:A) {xs:List A} {i:Nat} (h:i<xs.length):(xs.take i++List.replicate (xs.length - i) d).set ((i:Int).toNat) xs[i]=xs.take (i+1)++List.replicate (xs.length - (i+1)) d:=by
 rw [Int.toNat_natCast]
 apply List.ext_getElem
 ·simp; omega
 ·intro j h1 h2
  rw [List.getElem_set]
  split
  ·rename_i e
   subst e
   rw [List.getElem_append_left (by simp; omega)]
   simp
  ·rename_i e
   simp only [List.getElem_append,List.length_take,List.getElem_take,List.getElem_replicate]
   split <;> split <;> first | rfl | omega
theorem gG {A:Type} {l:List A} {i:Nat} (h:i<l.length) (d:A):l.getD ((i:Int).toNat) d=l[i]:=by
 simp [h]
theorem bU {R:Type} {step:Nat→Option R} {fin:R}:∀{m i:Nat},(∀j,i≤j→j<i+m→step j=none)→bX step fin m i=fin:=by
 intro m
 induction m with
 | zero=>intro i _; rfl
 | succ m ih=>
  intro i h
  unfold bX
  rw [h i (Nat.le_refl _) (by omega)]
  exact ih (fun j h1 h2=>h j (by omega) (by omega))
theorem Ma {R:Type} {s1 s2:Nat→Option R} {f1 f2:R} (hf:f1=f2):∀{m i:Nat},(∀j,i≤j→j<i+m→s1 j=s2 j)→bX s1 f1 m i=bX s2 f2 m i:=by
 intro m
 induction m with
 | zero=>intro i _; exact hf
 | succ m ih=>
  intro i h
  unfold bX
  rw [h i (Nat.le_refl _) (by omega)]
  cases s2 i with
  | some r=>rfl
  | none=>exact ih (fun j h1 h2=>h j (by omega) (by omega))
theorem Dq {R:Type} {step:Nat→Option R} {fin r:R} (hc:∀j,step j=none∨step j=some r):∀{m i:Nat},bX step fin m i=r∨bX step fin m i=fin:=by
 intro m
 induction m with
 | zero=>intro i; exact .inr rfl
 | succ m ih=>
  intro i
  unfold bX
  rcases hc i with h | h
  ·rw [h]; exact ih
  ·rw [h]; exact .inl rfl
theorem wrap_i64 {x:Int} (h1 : -9223372036854775808≤x) (h2:x≤9223372036854775807):IntKind.i64.wrap x=x:=by
 simp [IntKind.wrap,IntKind.bits,IntKind.signed]
 omega
theorem aU {i:Nat} {n:Nat} (h:i<n) (hn:n≤9223372036854775807):IntKind.i64.wrap ((i:Int)+1)=((i+1:Nat):Int):=by
 rw [wrap_i64 (by omega) (by omega)]
 omega
theorem aH {i n:Nat} (h:i<n):aM (i:Int) n:=⟨by omega,by omega⟩
end Go.Proofs.YtailcbngagacaaaGreat.Ow

/- The framework, part 66: functions that are known by a contract. Own work of this seat. -/
namespace Go.Proofs.YtailcbngagacaaaGreat.Ow
open Go
variable [Fr]
section
variable {P:Program} {cx:Cx} {σ:St} {α:dJ} {F:List Nat} {a:Act} {w w':World}
theorem Rel.grown (H:Rel cx σ α F a w) (hO:UR w w') (ht:w'.tape=w.tape):Rel cx σ α F a w':=H.Vy hO.1 hO.2.1 hO.2.2.1 hO.2.2.2 ht
end
end Go.Proofs.YtailcbngagacaaaGreat.Ow

/- The framework, part 67: functions that are known by a contract and give a new row. Own work of this seat. -/
namespace Go.Proofs.YtailcbngagacaaaGreat.Ow
open Go
variable [Fr]
section
variable {P:Program} {cx:Cx} {σ:St} {α:dJ} {F:List Nat} {a:Act} {w w':World}
end
end Go.Proofs.YtailcbngagacaaaGreat.Ow

/- The framework, part 68: functions that are known by a contract and read what is lent; functions that call themselves. Own work of this seat. -/
namespace Go.Proofs.YtailcbngagacaaaGreat.Ow
open Go
variable [Fr]
section
variable {P:Program} {cx:Cx} {σ:St} {α:dJ} {F:List Nat} {a:Act} {w w':World}
end
end Go.Proofs.YtailcbngagacaaaGreat.Ow

/- The framework, part 69: rows that are not looked into, and the same rows looked into. Own work of this seat. -/
namespace Go.Proofs.YtailcbngagacaaaGreat.Ow
open Go
section
variable {e:TypeId} {kk:K}
def Rw (e:TypeId) (kk:K) (z:Bool) (tb:Nat→List (El kk)):(k k':K)→El k→El k'→List Nat→Prop
 | .sl f k, .id f',xs,i,ns=>f=e∧f'=e∧∃h:k=kk,h▸(show List (El k) from xs)=tb i∧((i≠(0:Nat)∧ns=[i])∨(z=true∧i=(0:Nat)∧tb 0=[]∧ns=[]))
 | .sl f k, .sl f' k',xs,ys,ns=>f=f'∧k'.size=k.size∧(show List (El k) from xs).length=(show List (El k') from ys).length∧∃nss:List (List Nat),nss.length=(show List (El k) from xs).length∧ns=nss.flatten∧
   ∀(i:Nat) (h1:i<(show List (El k) from xs).length) (h2:i<(show List (El k') from ys).length),Rw e kk z tb k k' ((show List (El k) from xs)[i]) ((show List (El k') from ys)[i]) (nss.getD i [])
 | .pair a b, .pair a' b',x,y,ns=>∃n1 n2,ns=n1++n2∧Rw e kk z tb a a' x.1 y.1 n1∧Rw e kk z tb b b' x.2 y.2 n2
 | .st f, .st f',x,y,ns=>Rw e kk z tb f f' x y ns
 | .int ik, .int jk,x,y,ns=>ik=jk∧(show Int from x)=y∧ns=[]
 | .bool, .bool,x,y,ns=>(show Bool from x)=y∧ns=[]
 | .str, .str,x,y,ns=>(show List Int from x)=y∧ns=[]
 | .unit, .unit,_,_,ns=>ns=[]
 | _,_,_,_,_=>False
theorem Rw.size {z:Bool} {tb:Nat→List (El kk)}:∀{k k':K} {x:El k} {y:El k'} {ns:List Nat},Rw e kk z tb k k' x y ns→k'.size=k.size:=by
 intro k
 induction k with
 | sl f k ih=>intro k' x y ns h; cases k' <;> first | rfl | exact h.elim
 | pair a b iha ihb=>
  intro k' x y ns h
  cases k' with
  | pair a' b'=>unfold Rw at h; obtain ⟨n1,n2,_,h1,h2⟩:=h; simp [K.size,iha h1,ihb h2]
  | _=>exact h.elim
 | st f ih=>
  intro k' x y ns h
  cases k' with
  | st f'=>unfold Rw at h; exact ih (k':=f') (x:=x) (y:=y) (ns:=ns) h
  | _=>exact h.elim
 | int ik=>intro k' x y ns h; cases k' <;> first | rfl | exact h.elim
 | bool=>intro k' x y ns h; cases k' <;> first | rfl | exact h.elim
 | str=>intro k' x y ns h; cases k' <;> first | rfl | exact h.elim
 | unit=>intro k' x y ns h; cases k' <;> first | rfl | exact h.elim
 | gap n=>intro k' x y ns h; cases k' <;> exact h.elim
 | id f=>intro k' x y ns h; cases k' <;> exact h.elim
abbrev Kb:=Nat×Value×List Nat
def aQ (l:List Kb):List Nat:=l.flatMap (·.2.2)
theorem CJ:∀(l:List (List Kb)),aQ l.flatten=(l.map aQ).flatten
 | []=>rfl
 | a :: l=>by
  simp only [List.flatten_cons,List.map_cons]
  unfold aQ at *
  rw [List.flatMap_append]
  congr 1
  exact CJ l
theorem Cz {A:Type}:∀{bz fs gs:List (List A)},fs.length=bz.length→gs.length=bz.length→(∀i,i<bz.length→(bz.getD i []).Perm (fs.getD i []++gs.getD i []))→bz.flatten.Perm (fs.flatten++gs.flatten)
 | [],[],[],_,_,_=>.refl _
 | f :: bz,[],_,h,_,_=>by simp at h
 | f :: bz,_ :: _,[],_,h,_=>by simp at h
 | [],_ :: _,_,h,_,_=>by simp at h
 | [],[],_ :: _,_,h,_=>by simp at h
 | f :: bz,a :: fs,b :: gs,h1,h2,h=>by
  have h0:=h 0 (by simp)
  have ht:=Cz (bz:=bz) (fs:=fs) (gs:=gs) (by simpa using h1) (by simpa using h2) (fun i hi=>by have:=h (i+1) (by simpa using hi); simpa using this)
  simp only [List.flatten_cons]
  have h0':f.Perm (a++b):=by simpa using h0
  refine (h0'.append ht).trans ?_
  simp only [List.append_assoc]
  refine List.Perm.append_left a ?_
  rw [←List.append_assoc, ←List.append_assoc]
  exact List.Perm.append_right _ List.perm_append_comm
variable [fr:Fr]
abbrev gp (fr:Fr) (iB:Nat→Value) (h0:iB 0=.slice none 0 0) (hs:∀i,∃a n c,iB i=.slice a n c):Fr:=⟨fr.free,fr.obj,iB,h0,hs⟩
theorem M5 {h:Heap} {own:List TypeId} {ok:Nat→Prop} {tb:Nat→List (El kk)}:∀{k k':K} {x:El k} {y:El k'} {ns:List Nat} {cs:List Value} {fo:List Nat},(∀t∈k.tys,ay t own=true)→
  Rw e kk false tb k k' x y ns→Ow h own ok k x cs fo→
  ∃(dR:List Kb) (dG:List Nat),dR.map (·.1)=ns∧fo.Perm (dG++aQ dR)∧(∀q∈dR,Ow h own ok (.sl e kk) (tb q.1) [q.2.1] q.2.2)∧
   ∀fr':Fr,fr'.free=fr.free→(∀q∈dR,fr'.iB q.1=q.2.1)→@Ow fr' h own ok k' y cs dG:=by
 intro k
 induction k with
 | sl f k ih=>
  intro k' x y ns cs fo hown hR hO
  cases k' with
  | id f'=>
   obtain ⟨rfl,rfl,hk,hx,hi⟩:=hR
   subst hk
   rcases hi with ⟨_,rfl⟩ | ⟨hz,_⟩
   ·have IA:=hO
    unfold Ow at hO
    rw [if_pos (hown f' (by simp [K.tys]))] at hO
    obtain ⟨a,n,c,rfl,_⟩:=hO
    refine ⟨[(y, .slice a n c,fo)],[],rfl,by simp [aQ],fun q hq=>?_,fun fr' _ ajJ=>⟨rfl, ?_⟩⟩
    ·simp only [List.mem_singleton] at hq
     subst hq
     show Ow h own ok (.sl f' k) (tb y:List (El k)) _ _
     rw [←hx]
     exact IA
    ·show _=[fr'.iB y]
     rw [ajJ _ (List.mem_singleton.2 rfl)]
   ·simp at hz
  | sl f' k'=>
   obtain ⟨rfl,hsz,hl,nss,hnl,rfl,hat⟩:=hR
   have hf:ay f own=true:=hown f (by simp [K.tys])
   unfold Ow at hO
   rw [if_pos hf] at hO
   obtain ⟨a,n,c,rfl,hn,hnc,hO⟩:=hO
   rcases hO with ⟨hc,rfl⟩ | ⟨b,o,arr,lo,hi,rfl,hb,hfz,hoc,bz,hfl,hfo,hel⟩
   ·have h0:(show List (El k) from x).length=0:=by omega
    refine ⟨[],[], ?_,by simp [aQ],fun q hq=>by simp at hq,fun fr' _ _=>?_⟩
    ·have:nss=[]:=List.length_eq_zero_iff.1 (by omega)
     rw [this]; rfl
    ·unfold Ow
     rw [if_pos hf]
     exact ⟨a,n,c,rfl,by omega,hnc, .inl ⟨hc,rfl⟩⟩
   ·have hone:∀i,i<(show List (El k) from x).length→∃q:List Kb×List Nat,∀(h1:i<(show List (El k) from x).length) (h2:i<(show List (El k') from y).length),q.1.map (·.1)=nss.getD i []∧(bz.getD i []).Perm (q.2++aQ q.1)∧(∀t∈q.1,Ow h own ok (.sl e kk) (tb t.1) [t.2.1] t.2.2)∧
      ∀fr':Fr,fr'.free=fr.free→(∀t∈q.1,fr'.iB t.1=t.2.1)→∃ds, @Cells h b (o+i * k.size) ds∧@Ow fr' h own ok k' ((show List (El k') from y)[i]) ds q.2:=by
     intro i h1
     obtain ⟨ds,g1,g2⟩:=hel i h1
     obtain ⟨dR,dG,f1,f2,f3,f4⟩:=ih (fun t ht=>hown t (by simp [K.tys,ht])) (hat i h1 (by omega)) g2
     exact ⟨(dR,dG),fun _ _=>⟨f1,f2,f3,fun fr' e1 e2=>⟨ds,g1,f4 fr' e1 e2⟩⟩⟩
    obtain ⟨qs,hql,hq⟩:=E9 hone
    refine ⟨(qs.map (·.1)).flatten,b :: (qs.map (·.2)).flatten, ?_, ?_, ?_,fun fr' e1 e2=>?_⟩
    ·rw [List.map_flatten,List.map_map]
     congr 1
     apply List.ext_getElem
     ·simp; omega
     ·intro i h1 h2
      have hi:i<qs.length:=by simpa using h1
      have:=(hq i hi (by omega) (by omega)).1
      simp only [List.getElem_map,Function.comp_apply]
      rw [this,List.getD_eq_getElem?_getD,List.getElem?_eq_getElem h2]
      rfl
    ·refine hfo.trans ?_
     rw [CJ,List.cons_append]
     refine List.Perm.cons b (Cz (by simp; omega) (by simp; omega) fun i hi=>?_)
     have hi':i<qs.length:=by omega
     have:=(hq i hi' (by omega) (by omega)).2.1
     simp only [List.getD_eq_getElem?_getD,List.getElem?_map,List.getElem?_eq_getElem hi',Option.map_some,Option.getD_some,List.map_map,Function.comp_apply] at this ⊢
     exact this
    ·intro t ht
     obtain ⟨l,hl,ht⟩:=List.mem_flatten.1 ht
     obtain ⟨q,hq',rfl⟩:=List.mem_map.1 hl
     obtain ⟨i,hi,rfl⟩:=List.getElem_of_mem hq'
     exact (hq i hi (by omega) (by omega)).2.2.1 t ht
    ·unfold Ow
     rw [if_pos hf]
     refine ⟨_,n,c,rfl,by omega,hnc, .inr ⟨b,o,arr,lo,hi,rfl,hb,hfz, ?_,qs.map (·.2),by rw [List.length_map,hql]; exact hl, .refl _,fun i hi'=>?_⟩⟩
     ·rw [hsz]; exact hoc
     ·have hiq:i<qs.length:=by omega
      obtain ⟨ds,g1,g2⟩:=(hq i hiq (by omega) hi').2.2.2 fr' e1 (fun t ht=>e2 t (List.mem_flatten.2 ⟨_,List.mem_map.2 ⟨qs[i],List.getElem_mem hiq,rfl⟩,ht⟩))
      refine ⟨ds, ?_, ?_⟩
      ·rw [hsz]; exact g1
      ·have:(qs.map (·.2)).getD i []=qs[i].2:=by simp [List.getD_eq_getElem?_getD,List.getElem?_map,List.getElem?_eq_getElem hiq]
       rw [this]
       exact g2
  | _=>exact hR.elim
 | pair a b iha ihb=>
  intro k' x y ns cs fo hown hR hO
  cases k' with
  | pair a' b'=>
   obtain ⟨n1,n2,rfl,r1,r2⟩:=hR
   obtain ⟨c1,c2,f1,f2,rfl,hp,o1,o2⟩:=hO
   obtain ⟨t1,g1,p1,p2,p3,p4⟩:=iha (fun t ht=>hown t (by simp [K.tys,ht])) r1 o1
   obtain ⟨t2,g2,q1,q2,q3,q4⟩:=ihb (fun t ht=>hown t (by simp [K.tys,ht])) r2 o2
   refine ⟨t1++t2,g1++g2,by rw [List.map_append,p1,q1], ?_,fun q hq=>?_,fun fr' e1 e2=>⟨c1,c2,g1,g2,rfl, .refl _,p4 fr' e1 (fun q hq=>e2 q (List.mem_append_left _ hq)),q4 fr' e1 (fun q hq=>e2 q (List.mem_append_right _ hq))⟩⟩
   ·refine hp.trans ((p2.append q2).trans ?_)
    have:aQ (t1++t2)=aQ t1++aQ t2:=by simp [aQ]
    rw [this]
    simp only [List.append_assoc]
    refine List.Perm.append_left g1 ?_
    rw [←List.append_assoc, ←List.append_assoc]
    exact List.Perm.append_right _ List.perm_append_comm
   ·rcases List.mem_append.1 hq with hq | hq
    ·exact p3 q hq
    ·exact q3 q hq
  | _=>exact hR.elim
 | st f ih=>
  intro k' x y ns cs fo hown hR hO
  cases k' with
  | st f'=>
   obtain ⟨dR,dG,f1,f2,f3,f4⟩:=ih (k':=f') (x:=x) (y:=y) (ns:=ns) (cs:=cs) (fo:=fo) hown hR hO
   exact ⟨dR,dG,f1,f2,f3,fun fr' e1 e2=>f4 fr' e1 e2⟩
  | _=>exact hR.elim
 | int ik=>
  intro k' x y ns cs fo hown hR hO
  cases k' with
  | int jk=>
   obtain ⟨rfl,rfl,rfl⟩:=hR
   exact ⟨[],fo,rfl,by simp [aQ],fun q hq=>by simp at hq,fun _ _ _=>hO⟩
  | _=>exact hR.elim
 | bool=>
  intro k' x y ns cs fo hown hR hO
  cases k' with
  | bool=>
   obtain ⟨rfl,rfl⟩:=hR
   exact ⟨[],fo,rfl,by simp [aQ],fun q hq=>by simp at hq,fun _ _ _=>hO⟩
  | _=>exact hR.elim
 | str=>
  intro k' x y ns cs fo hown hR hO
  cases k' with
  | str=>
   obtain ⟨rfl,rfl⟩:=hR
   exact ⟨[],fo,rfl,by simp [aQ],fun q hq=>by simp at hq,fun _ _ _=>hO⟩
  | _=>exact hR.elim
 | unit=>
  intro k' x y ns cs fo hown hR hO
  cases k' with
  | unit=>
   have:ns=[]:=hR
   subst this
   exact ⟨[],fo,rfl,by simp [aQ],fun q hq=>by simp at hq,fun _ _ _=>hO⟩
  | _=>exact hR.elim
 | gap n=>intro k' x y ns cs fo _ hR; cases k' <;> exact hR.elim
 | id f=>intro k' x y ns cs fo _ hR; cases k' <;> exact hR.elim
theorem K3 {A B:Type} (f:A→B):∀{nss:List (List B)} {l:List A},l.map f=nss.flatten→∃MS:List (List A),MS.flatten=l∧MS.map (·.map f)=nss
 | [],l,h=>by
  have:l=[]:=by simpa using h
  exact ⟨[],by simp [this],rfl⟩
 | ns :: nss,l,h=>by
  rw [List.flatten_cons,List.map_eq_append_iff] at h
  obtain ⟨l1,l2,rfl,h1,h2⟩:=h
  obtain ⟨MS,g1,g2⟩:=K3 f h2
  exact ⟨l1 :: MS,by simp [g1],by simp [h1,g2]⟩
theorem Lp {h:Heap} {own:List TypeId} {ok:Nat→Prop} {tb:Nat→List (El kk)} (fr':Fr):∀{k k':K} {x:El k} {y:El k'} {dR:List Kb} {cs:List Value} {dG:List Nat},(∀t∈k.tys,ay t own=true)→
  Rw e kk true tb k k' x y (dR.map (·.1))→@Ow fr' h own ok k' y cs dG→(∀q∈dR, @Ow fr h own ok (.sl e kk) (tb q.1) [q.2.1] q.2.2∧fr'.iB q.1=q.2.1)→@Ow fr h own ok k x cs (dG++aQ dR):=by
 intro k
 induction k with
 | sl f k ih=>
  intro k' x y dR cs dG hown hR hO htr
  cases k' with
  | id f'=>
   obtain ⟨rfl,rfl,hk,hx,hi⟩:=hR
   subst hk
   obtain ⟨rfl,hcs⟩:=hO
   have hcs:cs=[fr'.iB y]:=hcs
   subst hcs
   rcases hi with ⟨_,hns⟩ | ⟨_,h0,hx0,hns⟩
   ·cases dR with
    | nil=>simp at hns
    | cons q l=>
     cases l with
     | cons _ _=>simp at hns
     | nil=>
      simp only [List.map_cons,List.map_nil,List.cons.injEq,and_true] at hns
      obtain ⟨g1,g2⟩:=htr q (by simp)
      rw [hns] at g1 g2
      have hx':(show List (El k) from x)=tb y:=hx
      show @Ow fr h own ok (.sl f' k) (show List (El k) from x) _ _
      rw [hx',g2]
      simpa [aQ] using g1
   ·have ht:dR=[]:=by simpa using hns
    subst ht
    have hy:y=(0:Nat):=h0
    subst hy
    have hx':(show List (El k) from x)=[]:=hx.trans hx0
    rw [fr'.ab0]
    unfold Ow
    rw [if_pos (hown f' (by simp [K.tys]))]
    exact ⟨none,0,0,rfl,by rw [hx']; rfl,Nat.le_refl _, .inl ⟨rfl,rfl⟩⟩
  | sl f' k'=>
   obtain ⟨rfl,hsz,hl,nss,hnl,hns,hat⟩:=hR
   have hf:ay f own=true:=hown f (by simp [K.tys])
   unfold Ow at hO ⊢
   rw [if_pos hf] at hO ⊢
   obtain ⟨a,n,c,rfl,hn,hnc,hO⟩:=hO
   obtain ⟨MS,rfl,hts⟩:=K3 (fun q:Kb=>q.1) hns
   have htl:MS.length=nss.length:=by rw [←hts,List.length_map]
   rcases hO with ⟨hc,rfl⟩ | ⟨b,o,arr,lo,hi,rfl,hb,hfz,hoc,bz,hfl,hfo,hel⟩
   ·have h0:(show List (El k) from x).length=0:=by omega
    have:MS=[]:=List.length_eq_zero_iff.1 (by omega)
    subst this
    exact ⟨a,n,c,rfl,by omega,hnc, .inl ⟨hc,rfl⟩⟩
   ·have hone:∀i (hi1:i<(show List (El k) from x).length),∃ds,Cells h b (o+i * k.size) ds∧@Ow fr h own ok k ((show List (El k) from x)[i]) ds (bz.getD i []++aQ (MS.getD i [])):=by
     intro i h1
     obtain ⟨ds,g1,g2⟩:=hel i (by omega)
     have hti:i<MS.length:=by omega
     have e1:MS.getD i []=MS[i]:=by simp [hti]
     have e2:nss.getD i []=(MS[i]).map (·.1):=by
      rw [←hts]
      simp [hti]
     have hR':=hat i h1 (by omega)
     rw [e2] at hR'
     refine ⟨ds,by rw [←hsz]; exact g1, ?_⟩
     rw [e1]
     exact ih (fun t ht=>hown t (by simp [K.tys,ht])) hR' g2 (fun q hq=>htr q (List.mem_flatten.2 ⟨_,List.getElem_mem hti,hq⟩))
    refine ⟨_,n,c,rfl,by omega,hnc, .inr ⟨b,o,arr,lo,hi,rfl,hb,hfz,by rw [←hsz]; exact hoc,(List.range (show List (El k) from x).length).map fun i=>bz.getD i []++aQ (MS.getD i []),by simp, ?_,fun i h1=>?_⟩⟩
    ·refine (hfo.append_right _).trans ?_
     rw [List.cons_append]
     refine List.Perm.cons b ?_
     rw [CJ]
     refine (Cz (bz:=(List.range (show List (El k) from x).length).map fun i=>bz.getD i []++aQ (MS.getD i [])) (fs:=bz) (gs:=MS.map aQ) (by rw [List.length_map,List.length_range]; omega) (by rw [List.length_map,List.length_map,List.length_range]; omega) fun i hi1=>?_).symm
     have hi2:i<(show List (El k) from x).length:=by simpa using hi1
     have hti:i<MS.length:=by omega
     simp [List.getD_eq_getElem?_getD,List.getElem?_map,List.getElem?_range,hi2,hti]
    ·obtain ⟨ds,g1,g2⟩:=hone i h1
     refine ⟨ds,g1, ?_⟩
     have:((List.range (show List (El k) from x).length).map fun i=>bz.getD i []++aQ (MS.getD i [])).getD i []=bz.getD i []++aQ (MS.getD i []):=by
      simp [List.getD_eq_getElem?_getD,List.getElem?_map,List.getElem?_range,h1]
     rw [this]
     exact g2
  | _=>exact hR.elim
 | pair a b iha ihb=>
  intro k' x y dR cs dG hown hR hO htr
  cases k' with
  | pair a' b'=>
   obtain ⟨n1,n2,hns,r1,r2⟩:=hR
   obtain ⟨c1,c2,f1,f2,rfl,hp,o1,o2⟩:=hO
   rw [List.map_eq_append_iff] at hns
   obtain ⟨t1,t2,rfl,rfl,rfl⟩:=hns
   refine ⟨c1,c2,f1++aQ t1,f2++aQ t2,rfl, ?_,iha (fun t ht=>hown t (by simp [K.tys,ht])) r1 o1 (fun q hq=>htr q (List.mem_append_left _ hq)),ihb (fun t ht=>hown t (by simp [K.tys,ht])) r2 o2 (fun q hq=>htr q (List.mem_append_right _ hq))⟩
   refine (hp.append_right _).trans ?_
   have:aQ (t1++t2)=aQ t1++aQ t2:=by simp [aQ]
   rw [this]
   simp only [List.append_assoc]
   refine List.Perm.append_left f1 ?_
   rw [←List.append_assoc, ←List.append_assoc]
   exact List.Perm.append_right _ List.perm_append_comm
  | _=>exact hR.elim
 | st f ih=>
  intro k' x y dR cs dG hown hR hO htr
  cases k' with
  | st f'=>exact ih (k':=f') (x:=x) (y:=y) (dR:=dR) (cs:=cs) (dG:=dG) hown hR hO htr
  | _=>exact hR.elim
 | int ik=>
  intro k' x y dR cs dG hown hR hO htr
  cases k' with
  | int jk=>
   obtain ⟨rfl,rfl,hns⟩:=hR
   have:dR=[]:=by simpa using hns
   subst this
   have e0:dG++aQ []=dG:=List.append_nil _
   rw [e0]
   exact hO
  | _=>exact hR.elim
 | bool=>
  intro k' x y dR cs dG hown hR hO htr
  cases k' with
  | bool=>
   obtain ⟨rfl,hns⟩:=hR
   have:dR=[]:=by simpa using hns
   subst this
   have e0:dG++aQ []=dG:=List.append_nil _
   rw [e0]
   exact hO
  | _=>exact hR.elim
 | str=>
  intro k' x y dR cs dG hown hR hO htr
  cases k' with
  | str=>
   obtain ⟨rfl,hns⟩:=hR
   have:dR=[]:=by simpa using hns
   subst this
   have e0:dG++aQ []=dG:=List.append_nil _
   rw [e0]
   exact hO
  | _=>exact hR.elim
 | unit=>
  intro k' x y dR cs dG hown hR hO htr
  cases k' with
  | unit=>
   have hns:dR.map (·.1)=[]:=hR
   have:dR=[]:=by simpa using hns
   subst this
   have e0:dG++aQ []=dG:=List.append_nil _
   rw [e0]
   exact hO
  | _=>exact hR.elim
 | gap n=>intro k' x y dR cs dG _ hR; cases k' <;> exact hR.elim
 | id f=>intro k' x y dR cs dG _ hR; cases k' <;> exact hR.elim
def Cy:K→Bool
 | .id _=>false
 | .sl _ k=>Cy k
 | .pair a b=>Cy a && Cy b
 | .st f=>Cy f
 | _=>true
theorem UY {h:Heap} {ok:Nat→Prop} (fr':Fr) (hf:fr'.free=fr.free):∀{k:K} {x:El k} {cs:List Value},Cy k=true→@Vw fr h ok k x cs→@Vw fr' h ok k x cs:=by
 intro k
 induction k with
 | sl f k ih=>
  intro x cs hk H
  obtain ⟨a,n,c,e1,e2,e3,H⟩:=H
  refine ⟨a,n,c,e1,e2,e3,fun hn=>?_⟩
  obtain ⟨b,o,ea,hb,ht,H⟩:=H hn
  refine ⟨b,o,ea,hb,ht.imp id (fun h=>by rw [hf]; exact h),fun i hi=>?_⟩
  obtain ⟨ds,h1,h2⟩:=H i hi
  exact ⟨ds,h1,ih hk h2⟩
 | pair a b iha ihb=>
  intro x cs hk H
  simp only [Cy,Bool.and_eq_true] at hk
  obtain ⟨c1,c2,e,h1,h2⟩:=H
  exact ⟨c1,c2,e,iha hk.1 h1,ihb hk.2 h2⟩
 | st f ih=>intro x cs hk H; exact ih (x:=x) (cs:=cs) hk H
 | id f=>intro x cs hk; simp [Cy] at hk
 | int ik=>intro x cs _ H; exact H
 | bool=>intro x cs _ H; exact H
 | str=>intro x cs _ H; exact H
 | unit=>intro x cs _ H; exact H
 | gap n=>intro x cs _ H; exact H
def zm (cx:Cx) (bad:List Nat):Cx:={ cx with
 par:=fun j=>(cx.par j).map fun pi=>{ pi with bl:=pi.bl.filter fun b=>!ay b bad }
 ptrs:=fun _ _ _ _=>False
 refs:=fun _ _=>False }
theorem mX {cx:Cx} {bad:List Nat} {j:Nat} {DJ:Sb} (h:(zm cx bad).par j=some DJ):∃pi,cx.par j=some pi∧DJ={ pi with bl:=pi.bl.filter fun b=>!ay b bad }:=by
 simp only [zm,Option.map_eq_some_iff] at h
 obtain ⟨pi,h1,h2⟩:=h
 exact ⟨pi,h1,h2.symm⟩
theorem H6 {cx:Cx} {bad:List Nat} {b:Nat}:kL (zm cx bad) b↔kL cx b:=by
 constructor
 ·rintro ⟨j,DJ,o,n,h1,h2⟩
  obtain ⟨pi,g1,rfl⟩:=mX h1
  exact ⟨j,pi,o,n,g1,h2⟩
 ·rintro ⟨j,pi,o,n,h1,h2⟩
  exact ⟨j,{ pi with bl:=pi.bl.filter fun b=>!ay b bad },o,n,by simp [zm,h1],h2⟩
def P6 (T:List Tag):Prop:=∀t∈T,fE t.1=true
def Dh:xZ→Prop
 | .one .undef=>True
 | .one (.ptr r p n)=>r=au 0∧p=[]∧n=0
 | .one (.val k _ T)=>Cy k=true∧P6 T
 | .one (.fn _ cs)=>∀c∈cs,Cy c.2.1.1=true∧P6 c.2.2∧c.1=SENT
 | _=>False
section
variable {cx:Cx} {σ:St} {α:dJ} {a:Act} {w:World}
theorem WR {R0 R1:Root} {dG bad:List Nat} (h0:∀r R,aP σ r R→r=au 0∧R=R0) (h1:aP σ (au 0) R0) (hk:R1.kind=R0.kind) (hsub:∀b∈dG,b∈α.fo (au 0)) (hbad:∀b∈bad,b∈α.fo (au 0)) {T:List Tag} (hT:P6 T) {b:Nat} (h:iF cx σ α [] w T b) :
  iF (zm cx bad) (az σ (au 0) R1) (aG α (au 0) (α.loc (au 0)) (α.hdr (au 0)) dG) [] w T b:=by
 obtain ⟨g1,g2,g3,g4,g5⟩:=h
 refine ⟨g1,g2,fun hb=>g3 (H6.1 hb),fun r R hr hb=>?_,fun hlt=>?_⟩
 ·rcases jc hr with ⟨rfl,rfl,_⟩ | ⟨e,hr'⟩
  ·rw [eD] at hb
   refine g4 _ R0 h1 ?_
   rw [bP]
   unfold gY at hb ⊢
   rw [hk] at hb
   rcases List.mem_append.1 hb with h | h
   ·exact List.mem_append_left _ h
   ·exact List.mem_append_right _ (hsub b h)
  ·exact absurd (h0 r R hr').1 e
 ·rcases g5 hlt with ⟨j,n,f1,f2⟩ | ⟨j,pi,f1,f2⟩
  ·exact .inl ⟨j,n,f1,f2⟩
  ·refine .inr ⟨j,{ pi with bl:=pi.bl.filter fun b=>!ay b bad },by simp [zm,f1], ?_⟩
   refine List.mem_filter.2 ⟨f2, ?_⟩
   cases hm:ay b bad with
   | false=>rfl
   | true=>
    have hb:=hbad b (aJ.1 hm)
    obtain ⟨n,hn⟩:=g4 _ R0 h1 (by rw [bP]; exact List.mem_append_right _ hb)
    have:=hT _ hn
    rw [nT] at this
    simp at this
theorem HV {σ:St} {tys:List TypeId} {T:List Tag} (h:P6 T):bg σ tys T=true:=nR.2 fun t ht=>.inl (h t ht)
structure BQ (cx:Cx) (σ:St) (α:dJ) (R0 R1:Root) (dG bad:List Nat):Prop where
 only:∀r R,aP σ r R→r=au 0∧R=R0
 lv:aP σ (au 0) R0
 kind:R1.kind=R0.kind
 tags:R0.tags=[]
 sub:∀b∈dG,b∈α.fo (au 0)
 bad:∀b∈bad,b∈α.fo (au 0)
theorem BQ.iF {R0 R1:Root} {dG bad:List Nat} (L:BQ cx σ α R0 R1 dG bad) {T:List Tag} (hT:P6 T) {b:Nat} (h:Ow.iF cx σ α [] w T b) :
  Ow.iF (zm cx bad) (az σ (au 0) R1) (aG α (au 0) (α.loc (au 0)) (α.hdr (au 0)) dG) [] w T b:=WR L.only L.lv L.kind L.sub L.bad hT h
theorem BQ.wh {R0 R1:Root} {dG bad:List Nat} (L:BQ cx σ α R0 R1 dG bad):dW (aG α (au 0) (α.loc (au 0)) (α.hdr (au 0)) dG) R1 (au 0)=dW α R0 (au 0):=by
 rw [jq]
 unfold wV dW
 rw [L.kind] <;> cases R0.kind <;> rfl
theorem BQ.av (fr':Fr) (hf:fr'.free=fr.free) {R0 R1:Root} {dG bad:List Nat} (L:BQ cx σ α R0 R1 dG bad) {x:xZ} {v:Value} (hx:Dh x) (h : @jD fr cx σ α [] w x v) :
  @jD fr' (zm cx bad) (az σ (au 0) R1) (aG α (au 0) (α.loc (au 0)) (α.hdr (au 0)) dG) [] w x v:=by
 have hv0:bq σ R0:=⟨L.lv.2,by rw [L.tags]; rfl⟩
 cases x with
 | Gh l=>exact hx.elim
 | one x=>
  cases x with
  | undef=>trivial
  | ptr r p n=>
   obtain ⟨rfl,rfl,rfl⟩:=hx
   refine ⟨h.1,fun R hR _ _ _ _=>?_⟩
   rw [aI] at hR
   have hR:=Option.some.inj hR
   subst hR
   obtain ⟨_,cs,b,o,hn,e⟩:=h.2 R0 L.lv.1 hv0 (by unfold dV clean; simp [ay]) (fun t ht=>by simp [ah] at ht) rfl
   simp only [bE,Option.some.injEq,Prod.mk.injEq] at hn
   refine ⟨trivial,α.hdr (au 0),b,o, ?_,e⟩
   simp only [bE]
   rw [L.wh,hn.2]
   simp [aG,upd_same]
  | val k x T=>
   intro _
   obtain ⟨cs,h1,h2⟩:=h (.inr (HV hx.2))
   exact ⟨cs,h1, @UY fr _ _ fr' hf _ _ _ hx.1 (@fG fr _ _ _ _ (fun _ _=>rfl) (fun b hb=>L.iF hx.2 hb) _ _ _ h2)⟩
  | fn f cs=>
   obtain ⟨vs,e,hc⟩:=h
   refine ⟨vs,e, ?_⟩
   clear e
   have key:∀(cs:List (TypeId×Dat×List Tag)) (vs:List Value),(∀c∈cs,Cy c.2.1.1=true∧P6 c.2.2∧c.1=SENT)→@jN fr cx σ α [] w cs vs→@jN fr' (zm cx bad) (az σ (au 0) R1) (aG α (au 0) (α.loc (au 0)) (α.hdr (au 0)) dG) [] w cs vs:=by
    intro cs
    induction cs with
    | nil=>intro vs _ h; cases vs <;> exact h
    | cons c cs ih=>
     intro vs hc h
     cases vs with
     | nil=>exact h
     | cons v vs=>
      obtain ⟨⟨h1,h2⟩,h3⟩:=h
      obtain ⟨g1,g2,g3⟩:=hc c (by simp)
      refine ⟨⟨h1,fun _=>?_⟩,ih vs (fun c hc'=>hc c (by simp [hc'])) h3⟩
      obtain ⟨b,o,ds,e,q1,q2,⟨q3,q4,q5⟩,_⟩:=h2 (HV g2)
      refine ⟨b,o,ds,e,q1, @UY fr _ _ fr' hf _ _ _ g1 (@fG fr _ _ _ _ (fun _ _=>rfl) (fun b hb=>L.iF g2 hb) _ _ _ q2),⟨q3,q4,fun r R hr hb=>?_⟩, .inl ⟨g3,g2⟩⟩
      rcases jc hr with ⟨rfl,rfl,_⟩ | ⟨e,hr'⟩
      ·rw [eD] at hb
       refine q5 _ R0 L.lv ?_
       rw [bP]
       unfold gY at hb ⊢
       rw [L.kind] at hb
       rcases List.mem_append.1 hb with h | h
       ·exact List.mem_append_left _ h
       ·exact List.mem_append_right _ (L.sub b h)
      ·exact absurd (L.only r R hr').1 e
   exact key cs vs hx hc
  | _=>exact hx.elim
theorem Qg:∀{dR:List Kb},(dR.map (·.1)).Nodup→0∉dR.map (·.1)→(∀q∈dR,∃a n c,q.2.1=Value.slice a n c)→∃iB:Nat→Value,iB 0=.slice none 0 0∧(∀i,∃a n c,iB i=.slice a n c)∧∀q∈dR,iB q.1=q.2.1
 | [],_,_,_=>⟨fun _=>.slice none 0 0,rfl,fun _=>⟨none,0,0,rfl⟩,fun q hq=>by simp at hq⟩
 | q :: l,hn,h0,hs=>by
  rw [List.map_cons,List.nodup_cons] at hn
  rw [List.map_cons,List.mem_cons,not_or] at h0
  obtain ⟨iB,g1,g2,g3⟩:=Qg hn.2 h0.2 (fun q hq=>hs q (by simp [hq]))
  refine ⟨fun i=>if i=q.1 then q.2.1 else iB i,by simp only [if_neg h0.1]; exact g1,fun i=>?_,fun t ht=>?_⟩
  ·by_cases h:i=q.1
   ·simp only [if_pos h]; exact hs q (by simp)
   ·simp only [if_neg h]; exact g2 i
  ·rcases List.mem_cons.1 ht with rfl | ht
   ·simp only [if_true]
   ·have hne:¬t.1=q.1:=fun e=>hn.1 (List.mem_map.2 ⟨t,ht,e⟩)
    simp only [if_neg hne]; exact g3 t ht
theorem RN {h:Heap} {own:List TypeId} {ok:Nat→Prop} {xs:List (El kk)} {v:Value} {fo:List Nat} (he:ay e own=true) (H:Ow h own ok (.sl e kk) xs [v] fo):∃a n c,v=.slice a n c:=by
 unfold Ow at H
 rw [if_pos he] at H
 obtain ⟨a,n,c,hv,_⟩:=H
 simp only [List.cons.injEq,and_true] at hv
 exact ⟨a,n,c,hv⟩
theorem TC (H:Rel cx σ α [] a w) (hw0:cx.w0=w) {R0:Root} (hR0:aP σ (au 0) R0) (ng:∀r,r≠au 0→σ.roots r=none) (hpar:R0.kind=.par) (rD:R0.tags=[]) (hown:∀t∈R0.k.tys,ay t R0.own=true) (he:ay e R0.own=true)
  (hsl:∀s,Dh (σ.slots s)) {k':K} {x':El k'} {tb:Nat→List (El kk)} {ns:List Nat} (hR:Rw e kk false tb R0.k k' R0.x x' ns) (hnd:ns.Nodup) (hn0:0∉ns) (hown':∀t∈k'.tys,ay t R0.own=true) :
  ∃(dR:List Kb) (dG:List Nat) (iB:Nat→Value) (h0:iB 0=.slice none 0 0) (hs:∀i,∃a n c,iB i=.slice a n c),dR.map (·.1)=ns∧(α.fo (au 0)).Perm (dG++aQ dR)∧
   (∀q∈dR, @Ow fr (hp w) R0.own (fun _=>False) (.sl e kk) (tb q.1) [q.2.1] q.2.2)∧(∀q∈dR,iB q.1=q.2.1)∧
   @Rel (gp fr iB h0 hs) (zm cx (aQ dR)) (az σ (au 0) { R0 with k:=k',x:=x' }) (aG α (au 0) (α.loc (au 0)) (α.hdr (au 0)) dG) [] a w:=by
 have K:=H.roots _ R0 hR0
 have hv0:bq σ R0:=⟨hR0.2,by rw [rD]; rfl⟩
 have hO:Ow (hp w) R0.own (fun _=>False) R0.k R0.x (α.hdr (au 0)) (α.fo (au 0)):=gK (dm hown) (K.ow hv0)
 obtain ⟨dR,dG,g1,g2,g3,g4⟩:=M5 hown hR hO
 obtain ⟨iB,i1,i2,i3⟩:=Qg (dR:=dR) (by rw [g1]; exact hnd) (by rw [g1]; exact hn0) (fun q hq=>RN he (g3 q hq))
 refine ⟨dR,dG,iB,i1,i2,g1,g2,g3,i3, ?_⟩
 have hblk:blk α R0 (au 0)=(α.loc (au 0)).1 :: α.fo (au 0):=by unfold blk dW; rw [hpar]; rfl
 have hsub:∀b∈dG,b∈α.fo (au 0):=fun b hb=>g2.mem_iff.2 (List.mem_append_left _ hb)
 have hbad:∀b∈aQ dR,b∈α.fo (au 0):=fun b hb=>g2.mem_iff.2 (List.mem_append_right _ hb)
 have L:BQ cx σ α R0 { R0 with k:=k',x:=x' } dG (aQ dR):=⟨fun r R hr=>by
  by_cases e:r=au 0
  ·subst e; refine ⟨rfl, ?_⟩; have:=hr.1; rw [hR0.1] at this; exact (Option.some.inj this).symm
  ·have:=hr.1; rw [ng r e] at this; simp at this,hR0,rfl,rD,hsub,hbad⟩
 have rW:=K.nd
 rw [hblk] at rW
 have Du:=List.nodup_cons.1 rW
 have sP:=List.nodup_append.1 (g2.nodup Du.2)
 have hlv:∀{q Q},aP (az σ (au 0) { R0 with k:=k',x:=x' }) q Q→q=au 0∧Q={ R0 with k:=k',x:=x' }:=fun {q Q} hq=>by
  rcases jc hq with ⟨rfl,rfl,_⟩ | ⟨e,hq'⟩
  ·exact ⟨rfl,rfl⟩
  ·exact absurd (L.only q Q hq').1 e
 have hlv1:aP (az σ (au 0) { R0 with k:=k',x:=x' }) (au 0) { R0 with k:=k',x:=x' }:=⟨aI ..,hR0.2⟩
 have hblk':blk (aG α (au 0) (α.loc (au 0)) (α.hdr (au 0)) dG) { R0 with k:=k',x:=x' } (au 0)=(α.loc (au 0)).1 :: dG:=by
  rw [eD]; unfold gY; simp only [hpar]; rfl
 have ji:∀b∈(α.loc (au 0)).1 :: dG,Ow.mine (zm cx (aQ dR)) w b:=fun b hb=>by
  have hb0:b∈blk α R0 (au 0):=by
   rw [hblk]
   rcases List.mem_cons.1 hb with h | h
   ·rw [h]; exact List.mem_cons_self
   ·exact List.mem_cons_of_mem _ (hsub b h)
  obtain ⟨m1,m2⟩:=K.mine b hb0
  refine ⟨m1, ?_⟩
  rcases m2 with m2 | ⟨j,pi,m2,m3⟩
  ·exact .inl m2
  ·refine .inr ⟨j,{ pi with bl:=pi.bl.filter fun b=>!ay b (aQ dR) },by simp [zm,m2],List.mem_filter.2 ⟨m3, ?_⟩⟩
   have:ay b (aQ dR)=false:=by
    rw [aW]
    intro hm
    rcases List.mem_cons.1 hb with h | h
    ·subst h; exact Du.1 (hbad _ hm)
    ·exact sP.2.2 b h b hm rfl
   rw [this]; rfl
 have hpl:=H.pq
 refine @Rel.mk (gp fr iB i1 i2) _ _ _ _ _ _ H.defs H.sz ?_ ?_ ?_ ?_ ?_ ?_ ?_ (fun b hb=>by simp at hb) List.nodup_nil (fun r R hr b hb h=>by simp at h) ?_ ?_ ?_ (fun j p ts v h=>h.elim) (fun j v h=>h.elim)
 ·intro j DJ b o n hj hb
  obtain ⟨pi,hj',rfl⟩:=mX hj
  obtain ⟨R,f1,f2,f3,f4⟩:=H.mo j pi b o n hj' hb
  obtain ⟨e1,rfl⟩:=L.only _ R f1
  rw [e1] at f3 ⊢
  exact ⟨_,hlv1,hpar,by simp [aG,upd_same,f3],by show k'.size=n; rw [hR.size]; exact f4⟩
 ·intro r R hr hk
  obtain ⟨rfl,rfl⟩:=hlv hr
  obtain ⟨j,pi,n,f1,f2,f3⟩:=H.FX _ R0 hR0 hpar
  exact ⟨j,{ pi with bl:=pi.bl.filter fun b=>!ay b (aQ dR) },n,f1,by simp [zm,f2],by simp [aG,upd_same,f3]⟩
 ·intro s
  exact BQ.av (fr:=fr) (gp fr iB i1 i2) rfl L (hsl s) (H.slots s)
 ·intro s
  have hs:=hsl s
  show y8 _ (σ.slots s)
  cases hx:σ.slots s with
  | Gh l=>rw [hx] at hs; exact hs.elim
  | one x=>
   rw [hx] at hs
   cases x with
   | undef=>trivial
   | ptr r p n=>obtain ⟨rfl,rfl,rfl⟩:=hs; exact ⟨_,aI .., .inr (Nat.zero_le _)⟩
   | val k x T=>exact fun t ht=>.inl (hs.2 t ht)
   | fn f cs=>exact fun c hc t ht=>.inl ((hs c hc).2.1 t ht)
   | _=>exact hs.elim
 ·intro r R hr
  obtain ⟨rfl,rfl⟩:=hlv hr
  refine @uJ.mk (gp fr iB i1 i2) _ _ _ _ _ _ _ (fun _=>?_) ?_ ?_ ?_ ?_
  ·have e1:(aG α (au 0) (α.loc (au 0)) (α.hdr (au 0)) dG).hdr (au 0)=α.hdr (au 0):=by simp [aG,upd_same]
   have e2:(aG α (au 0) (α.loc (au 0)) (α.hdr (au 0)) dG).fo (au 0)=dG:=by simp [aG,upd_same]
   rw [e1,e2]
   exact @gK (gp fr iB i1 i2) _ _ _ _ _ _ _ _ (dm hown') (g4 (gp fr iB i1 i2) rfl i3)
  ·show ((aG α (au 0) (α.loc (au 0)) (α.hdr (au 0)) dG).hdr (au 0)).length=k'.size
   rw [hR.size]
   simpa [aG,upd_same] using K.len
  ·intro b o hb
   rw [L.wh] at hb
   obtain ⟨m1,arr,e',lo,hi,m2,m3,m4,m5⟩:=K.mem b o hb
   refine ⟨by simpa [aG,upd_same] using m1,arr,e',lo,hi,m2,m3,by show o+k'.size≤_; rw [hR.size]; exact m4,m5⟩
  ·rw [hblk']
   exact List.nodup_cons.2 ⟨fun h=>Du.1 (hsub _ h),sP.1⟩
  ·intro b hb
   rw [hblk'] at hb
   exact ji b hb
 ·intro r R hr
  by_cases e:r=au 0
  ·subst e
   rw [aI] at hr
   have hr:=Option.some.inj hr
   subst hr
   exact ⟨fun t ht=>by rw [show ({ R0 with k:=k',x:=x' }:Root).tags=R0.tags from rfl,rD] at ht; simp at ht,nT 0,fun n hn=>by rw [show ({ R0 with k:=k',x:=x' }:Root).tags=R0.tags from rfl,rD] at hn; simp at hn⟩
  ·rw [bZ _ _ e,ng r e] at hr; simp at hr
 ·intro r R r' R' hr hr' hne
  exact absurd ((hlv hr).1.trans (hlv hr').1.symm) hne
 ·obtain ⟨f1,f2,f3,f4,f5,f6⟩:=H.frame
  refine ⟨f1,f2,f3,f4,fun b _ _=>by show hp w b=hp cx.w0 b; rw [hw0],fun j DJ b o n hj hb=>?_⟩
  obtain ⟨pi,hj',rfl⟩:=mX hj
  exact f6 j pi b o n hj' hb
 ·intro j DJ hj hkp
  obtain ⟨pi,hj',rfl⟩:=mX hj
  obtain ⟨R,f1,f2⟩:=H.wo j pi hj' hkp
  by_cases e:au j=au 0
  ·refine ⟨_,by rw [e]; exact aI ..,fun _ b hb hnb=>.inr ⟨by show hp w b=hp cx.w0 b; rw [hw0],by simp,fun q Q hq _=>by rw [(hlv hq).1,e]⟩⟩
  ·rw [ng _ e] at f1; simp at f1
 ·refine ⟨fun j DJ hj b hb=>?_,fun b hb=>⟨?_,fun j DJ hj hbl=>?_⟩,fun b hb=>hpl.2.2 b hb⟩
  ·obtain ⟨pi,hj',rfl⟩:=mX hj
   exact hpl.1 j pi hj' b (List.mem_filter.1 hb).1
  ·exact (hpl.2.1 b hb).1
  ·obtain ⟨pi,hj',rfl⟩:=mX hj
   exact (hpl.2.1 b hb).2 j pi hj' (List.mem_filter.1 hbl).1
theorem F8 {h:Heap} {own own':List TypeId} {ok:Nat→Prop}:∀{k:K} {x:El k} {cs:List Value} {fo:List Nat},(∀t∈k.tys,ay t own=ay t own')→Ow h own ok k x cs fo→Ow h own' ok k x cs fo:=by
 intro k
 induction k with
 | sl f k ih=>
  intro x cs fo ht H
  have hf:=ht f (by simp [K.tys])
  unfold Ow at H ⊢
  cases hm:ay f own with
  | true=>
   rw [if_pos hm] at H
   rw [if_pos (by rw [←hf]; exact hm)]
   obtain ⟨a,n,c,e1,e2,e3,H⟩:=H
   refine ⟨a,n,c,e1,e2,e3, ?_⟩
   rcases H with H | ⟨b,o,arr,lo,hi,ea,hb,hz,hs,bz,hl,hp,H⟩
   ·exact .inl H
   ·refine .inr ⟨b,o,arr,lo,hi,ea,hb,hz,hs,bz,hl,hp,fun i hi=>?_⟩
    obtain ⟨ds,h1,h2⟩:=H i hi
    exact ⟨ds,h1,ih (fun t h=>ht t (by simp [K.tys,h])) h2⟩
  | false=>
   rw [if_neg (by rw [hm]; simp)] at H
   rw [if_neg (by rw [←hf,hm]; simp)]
   exact H
 | pair a b iha ihb=>
  intro x cs fo ht H
  obtain ⟨c1,c2,f1,f2,e,hp,h1,h2⟩:=H
  exact ⟨c1,c2,f1,f2,e,hp,iha (fun t h=>ht t (by simp [K.tys,h])) h1,ihb (fun t h=>ht t (by simp [K.tys,h])) h2⟩
 | st f ih=>intro x cs fo ht H; exact ih (x:=x) ht H
 | int ik=>intro x cs fo _ H; exact H
 | bool=>intro x cs fo _ H; exact H
 | id e=>intro x cs fo _ H; exact H
 | str=>intro x cs fo _ H; exact H
 | unit=>intro x cs fo _ H; exact H
 | gap n=>intro x cs fo _ H; exact H
theorem aeK {z:Bool} {tb:Nat→List (El kk)} {k k':K} {x:El k} {y:El k'} {ns:List Nat} {v:Value} {cs:List Value} (hR:Rw e kk z tb k k' x y ns) (h:VC k' v cs):VC k v cs:=by
 cases k <;> cases k' <;> first | exact hR.elim | exact h
def RwR (e:TypeId) (kk:K) (tb:Nat→List (El kk)):(rs rs':List nP)→Cont (gZ rs)→Cont (gZ rs')→List Nat→Prop
 | [],[],_,_,ns=>ns=[]
 | .val k _ _ :: rs, .val k' _ _ :: rs',c,c',ns=>(∃h:k=k',k.flat=true∧Cy k=true∧h▸c.1=c'.1)∧RwR e kk tb rs rs' c.2 c'.2 ns
 | .own k ow _ _ :: rs, .own k' ow' _ _ :: rs',c,c',ns=>∃n1 n2,ns=n1++n2∧((k.tys.all fun t=>ay t ow)=true∧(k'.tys.all fun t=>ay t ow')=true∧Rw e kk true tb k k' c.1 c'.1 n1)∧RwR e kk tb rs rs' c.2 c'.2 n2
 | _,_,_,_,_=>False
theorem select {dR:List Kb}:∀{ns:List Nat},(∀n∈ns,n∈dR.map (·.1))→∃l:List Kb,l.map (·.1)=ns∧∀q∈l,q∈dR
 | [],_=>⟨[],rfl,fun q hq=>by simp at hq⟩
 | n :: ns,h=>by
  obtain ⟨l,h1,h2⟩:=select (ns:=ns) (fun n hn=>h n (by simp [hn]))
  obtain ⟨q,hq,e⟩:=List.mem_map.1 (h n (by simp))
  exact ⟨q :: l,by simp [h1,e],fun t ht=>by
   rcases List.mem_cons.1 ht with rfl | ht
   ·exact hq
   ·exact h2 t ht⟩
theorem ER:∀{dR:List Kb},(aQ dR).Nodup→(dR.map (·.1)).Nodup→∀q∈dR,q.2.2.Nodup∧∀q'∈dR,q.1≠q'.1→∀b∈q.2.2,b∉q'.2.2
 | [],_,_,q,hq=>by simp at hq
 | t :: l,hn,hm,q,hq=>by
  have e:aQ (t :: l)=t.2.2++aQ l:=rfl
  rw [e] at hn
  obtain ⟨n1,n2,n3⟩:=List.nodup_append.1 hn
  rw [List.map_cons,List.nodup_cons] at hm
  have hin:∀q∈l,∀b∈q.2.2,b∈aQ l:=fun q hq b hb=>List.mem_flatMap.2 ⟨q,hq,hb⟩
  rcases List.mem_cons.1 hq with rfl | hql
  ·refine ⟨n1,fun q' hq' hne b hb hb'=>?_⟩
   rcases List.mem_cons.1 hq' with rfl | hq'
   ·exact hne rfl
   ·exact n3 b hb b (hin q' hq' b hb') rfl
  ·obtain ⟨g1,g2⟩:=ER n2 hm.2 q hql
   refine ⟨g1,fun q' hq' hne b hb hb'=>?_⟩
   rcases List.mem_cons.1 hq' with rfl | hq'
   ·exact n3 b hb' b (hin q hql b hb) rfl
   ·exact g2 q' hq' hne b hb hb'
theorem ES {dR:List Kb} (hn:(aQ dR).Nodup) (hm:(dR.map (·.1)).Nodup):∀{l:List Kb},(∀q∈l,q∈dR)→(l.map (·.1)).Nodup→(aQ l).Nodup
 | [],_,_=>List.nodup_nil
 | t :: l,hs,hl=>by
  have e:aQ (t :: l)=t.2.2++aQ l:=rfl
  rw [e]
  rw [List.map_cons,List.nodup_cons] at hl
  refine List.nodup_append.2 ⟨(ER hn hm t (hs t (by simp))).1,ES hn hm (fun q hq=>hs q (by simp [hq])) hl.2,fun b hb c hc ebc=>?_⟩
  subst ebc
  obtain ⟨q,hq,hb'⟩:=List.mem_flatMap.1 hc
  exact (ER hn hm t (hs t (by simp))).2 q (hs q (by simp [hq])) (fun e=>hl.1 (List.mem_map.2 ⟨q,hq,e.symm⟩)) b hb hb'
theorem WA (fr':Fr) (hf:fr'.free=fr.free) {cx':Cx} {σ':St} {α':dJ} {F':List Nat} {w':World} {tb:Nat→List (El kk)} {O:List TypeId} (hO:∀t∈(K.sl e kk).tys,ay t O=true)  :
  ∀{rs rs':List nP} {c:Cont (gZ rs)} {c':Cont (gZ rs')} {vs:List Value} {bz:List (List Nat)} {dR:List Kb},RwR e kk tb rs rs' c c' (dR.map (·.1))→@GQ fr' cx' σ' α' F' w' rs' c' vs bz→
   (∀q∈dR, @Ow fr (hp w') O (fun _=>False) (.sl e kk) (tb q.1) [q.2.1] q.2.2∧fr'.iB q.1=q.2.1)→
   ∃Ta,(∀σ1 dK F1, @GQ fr cx σ1 dK F1 w' rs c vs Ta)∧Ta.flatten.Perm (bz.flatten++aQ dR):=by
 intro rs
 induction rs with
 | nil=>
  intro rs' c c' vs bz dR hR hL htr
  cases rs' with
  | cons _ _=>exact hR.elim
  | nil=>
   have ht:dR=[]:=by simpa using (show dR.map (·.1)=[] from hR)
   subst ht
   cases vs with
   | cons _ _=>exact hL.elim
   | nil=>cases bz with
    | cons _ _=>exact hL.elim
    | nil=>exact ⟨[],fun _ _ _=>trivial, .refl _⟩
 | cons r rs ih=>
  intro rs' c c' vs bz dR hR hL htr
  cases rs' with
  | nil=>cases r <;> exact hR.elim
  | cons r' rs'=>
   cases r with
   | into _ _=>exact hR.elim
   | ptr _ _ _ _=>exact hR.elim
   | val k ex pr=>
    cases r' with
    | val k' ex' pr'=>
     obtain ⟨⟨hk,h1,h2,h3⟩,hR⟩:=hR
     subst hk
     cases vs with
     | nil=>exact hL.elim
     | cons v vs=>
      cases bz with
      | nil=>exact hL.elim
      | cons fo bz=>
       obtain ⟨⟨rfl,T,cs,g1,g2,g3⟩,hL⟩:=hL
       obtain ⟨Ta,q1,q2⟩:=ih hR hL htr
       refine ⟨[] :: Ta,fun σ1 dK F1=>⟨⟨rfl,[],cs, .inl h1,g2, ?_⟩,q1 σ1 dK F1⟩,by simpa using q2⟩
       have h3:c.1=c'.1:=h3
       rw [h3]
       exact @iJ fr _ _ _ _ _ _ _ h1 (@UY fr' _ _ fr hf.symm _ _ _ h2 g3)
    | _=>exact hR.elim
   | own k ow ex pr=>
    cases r' with
    | own k' ow' ex' pr'=>
     obtain ⟨n1,n2,hns,⟨a1,a2,a3⟩,hR⟩:=hR
     rw [List.map_eq_append_iff] at hns
     obtain ⟨t1,t2,rfl,rfl,rfl⟩:=hns
     cases vs with
     | nil=>exact hL.elim
     | cons v vs=>
      cases bz with
      | nil=>exact hL.elim
      | cons fo bz=>
       obtain ⟨⟨T,cs,akg,g1,g2,g3,g4⟩,hL⟩:=hL
       obtain ⟨Ta,q1,q2⟩:=ih hR hL (fun q hq=>htr q (List.mem_append_right _ hq))
       have hk':∀t∈k'.tys,ay t akg=true:=fun t ht=>g2 t ht (List.all_eq_true.1 a2 t ht)
       let O2:List TypeId:=O++k.tys++k'.tys
       have m1:∀t∈k.tys,ay t O2=true:=fun t ht=>aJ.2 (List.mem_append_left _ (List.mem_append_right _ ht))
       have m2:∀t∈k'.tys,ay t O2=true:=fun t ht=>aJ.2 (List.mem_append_right _ ht)
       have m3:∀t∈(K.sl e kk).tys,ay t O2=true:=fun t ht=>aJ.2 (List.mem_append_left _ (List.mem_append_left _ (aJ.1 (hO t ht))))
       have g5 : @Ow fr' (hp w') O2 (fun _=>False) k' c'.1 cs fo:=@gK fr' _ _ _ _ _ _ _ _ (dm m2) (@F8 fr' _ _ _ _ _ _ _ _ (fun t ht=>by rw [hk' t ht,m2 t ht]) g4)
       have g6:=Lp (fr:=fr) fr' m1 a3 g5 (fun q hq=>by
        obtain ⟨f1,f2⟩:=htr q (List.mem_append_left _ hq)
        exact ⟨@F8 fr _ _ _ _ _ _ _ _ (fun t ht=>by rw [hO t ht,m3 t ht]) f1,f2⟩)
       refine ⟨(fo++aQ t1) :: Ta,fun σ1 dK F1=>⟨⟨[],cs,O2, .inl a1,fun t ht _=>m1 t ht,aeK a3 g3, @gK fr _ _ _ _ _ _ _ _ (dm m1) g6⟩,q1 σ1 dK F1⟩, ?_⟩
       simp only [List.flatten_cons]
       have et:aQ (t1++t2)=aQ t1++aQ t2:=by simp [aQ]
       rw [et]
       refine (q2.append_left (fo++aQ t1)).trans ?_
       simp only [List.append_assoc]
       refine List.Perm.append_left fo ?_
       rw [←List.append_assoc, ←List.append_assoc]
       exact List.Perm.append_right _ List.perm_append_comm
    | _=>exact hR.elim
end
end
end Go.Proofs.YtailcbngagacaaaGreat.Ow

/- The framework, part 70: a call's end, the rows put back. Own work of this seat. -/
namespace Go.Proofs.YtailcbngagacaaaGreat.Ow
open Go
section
variable {e:TypeId} {kk:K} [fr:Fr]
variable {cx:Cx} {σ:St} {α:dJ} {a:Act} {w:World}
def mY (k:K) (x:El k) (ow wt ht:List TypeId):Root:={ k,x,own:=ow,tags:=[],w:=wt,h:=ht,g:=0,kind:=.par,fixed:=false,keep:=true,ew:=[],eh:=ht }
def AA (R:Root):St:=⟨fun _=>.one .undef,fun r=>bif Nat.beq r (au 0) then some R else none⟩
def Ck (loc:Nat×Nat) (hdr:List Value) (fo:List Nat):dJ:=⟨fun _=>loc,fun _=>hdr,fun _=>fo⟩
theorem ql {R:Root} {r:Nat} {Q:Root} (h:(AA R).roots r=some Q):r=au 0∧Q=R:=by
 unfold AA at h
 simp only at h
 cases hb:Nat.beq r (au 0) with
 | true=>rw [hb] at h; exact ⟨Nat.eq_of_beq_eq_true hb,(Option.some.inj h).symm⟩
 | false=>rw [hb] at h; simp at h
theorem uo {R:Root}:(AA R).roots (au 0)=some R:=by simp [AA]
theorem Wz (H:Rel cx σ α [] a w) (hw0:cx.w0=w) {R0:Root} (hR0:aP σ (au 0) R0) (ng:∀r,r≠au 0→σ.roots r=none) (hpar:R0.kind=.par) (hg0:R0.g=0) (hv0:bq σ R0)
  (hown:∀t∈R0.k.tys,ay t R0.own=true) {k':K} (hown':∀t∈k'.tys,ay t R0.own=true) (Ra:∀t∈(K.sl e kk).tys,ay t R0.own=true)
  {tb:Nat→List (El kk)} {dR:List Kb} {dG:List Nat} {iB:Nat→Value} {h0:iB 0=.slice none 0 0} {hs:∀i,∃a n c,iB i=.slice a n c}
  (hperm:(α.fo (au 0)).Perm (dG++aQ dR)) (hnd:(dR.map (·.1)).Nodup) (hrow:∀q∈dR, @Ow fr (hp w) R0.own (fun _=>False) (.sl e kk) (tb q.1) [q.2.1] q.2.2) (hid:∀q∈dR,iB q.1=q.2.1)
  {σ1:St} {dK:dJ} {F1:List Nat} {a1:Act} {w':World} (H1 : @Rel (gp fr iB h0 hs) (zm cx (aQ dR)) σ1 dK F1 a1 w') {Q:Root} (hQ:σ1.roots (au 0)=some Q) (hQv:bq σ1 Q) (hQk:Q.k=k') (hQo:∀t∈k'.tys,ay t Q.own=true)
  {wt ht:List TypeId} (hwt:lN Q.w wt=true∧lN Q.ew wt=true) (hwk:∀t∈(K.sl e kk).tys,t∈wt) (VP:qh∈ht)
  {y:El R0.k} {qo:List Kb} (hP:Rw e kk true tb R0.k Q.k y Q.x (qo.map (·.1))) (Yv:∀q∈qo,q∈dR)
  {rs rs':List nP} {c:Cont (gZ rs)} {c':Cont (gZ rs')} {vs:List Value} {bz:List (List Nat)} {ET:List Kb} (hRs:∀q∈ET,q∈dR) (hRR:RwR e kk tb rs rs' c c' (ET.map (·.1)))
  (hL : @GQ (gp fr iB h0 hs) (zm cx (aQ dR)) σ1 dK F1 w' rs' c' vs bz) (hfn:bz.flatten.Nodup) (OX:∀b∈bz.flatten,b∈F1) (hall:((ET++qo).map (·.1)).Nodup)
  (EG:∀j p ts v,cx.ptrs j p ts v→∃k,ts=dV p k) :
  ∃zG Iu,Rel cx (AA (mY R0.k y R0.own wt ht)) zG Iu.flatten a1 w'∧GQ cx (AA (mY R0.k y R0.own wt ht)) zG Iu.flatten w' rs c vs Iu∧Iu.flatten.Nodup:=by
 have K0:=H.roots _ R0 hR0
 have hlv1:aP σ1 (au 0) Q:=⟨hQ,hQv.1⟩
 have K1:=@Rel.roots (gp fr iB h0 hs) _ _ _ _ _ _ H1 _ Q hlv1
 have aaZ:=@uJ.ow (gp fr iB h0 hs) _ _ _ _ _ _ _ K1
 have UM:=@uJ.len (gp fr iB h0 hs) _ _ _ _ _ _ _ K1
 have aeh:=@uJ.mem (gp fr iB h0 hs) _ _ _ _ _ _ _ K1
 have aaY:=@uJ.nd (gp fr iB h0 hs) _ _ _ _ _ _ _ K1
 have O7:=@uJ.mine (gp fr iB h0 hs) _ _ _ _ _ _ _ K1
 have Qf:∀r R,aP σ r R→r=au 0∧R=R0:=fun r R hr=>by
  by_cases e:r=au 0
  ·subst e; refine ⟨rfl, ?_⟩; have:=hr.1; rw [hR0.1] at this; exact (Option.some.inj this).symm
  ·have:=hr.1; rw [ng r e] at this; simp at this
 obtain ⟨j0,pi0,n0,p1,p2,p3⟩:=H.FX _ R0 hR0 hpar
 obtain ⟨Q',q1,q2,q3,q4⟩:=@Rel.mo (gp fr iB h0 hs) _ _ _ _ _ _ H1 j0 { pi0 with bl:=pi0.bl.filter fun b=>!ay b (aQ dR) } (α.loc (au 0)).1 (α.loc (au 0)).2 n0 (by simp [zm,p2]) p3
 rw [←p1] at q1 q3
 have eQ:Q'=Q:=by have:=q1.1; rw [hQ] at this; exact (Option.some.inj this).symm
 subst eQ
 have NM:blk α R0 (au 0)=(α.loc (au 0)).1 :: α.fo (au 0):=by unfold blk dW; rw [hpar]; rfl
 have hblk1:blk dK Q' (au 0)=(α.loc (au 0)).1 :: dK.fo (au 0):=by unfold blk dW; rw [q2]; simp [q3]
 have hsize:w.heap.size≤w'.heap.size:=by have:=(@Rel.frame (gp fr iB h0 hs) _ _ _ _ _ _ H1).2.2.2.1; simpa [zm,hw0] using this
 have rW:=K0.nd
 rw [NM] at rW
 have Du:=List.nodup_cons.1 rW
 have sP:=List.nodup_append.1 (hperm.nodup Du.2)
 have hbad:∀b∈aQ dR,b∈α.fo (au 0):=fun b hb=>hperm.mem_iff.2 (List.mem_append_right _ hb)
 have IB:∀b∈aQ dR,b∈blk α R0 (au 0):=fun b hb=>by rw [NM]; exact List.mem_cons_of_mem _ (hbad b hb)
 have hno:∀b∈aQ dR,¬Ow.mine (zm cx (aQ dR)) w' b:=fun b hb hm=>by
  have hlt:=(K0.mine b (IB b hb)).1
  rcases hm.2 with h | ⟨j,DJ,h1,h2⟩
  ·have:w.heap.size≤b:=by simpa [zm,hw0] using h
   omega
  ·obtain ⟨pi,_,rfl⟩:=mX h1
   have:=(List.mem_filter.1 h2).2
   rw [aJ.2 hb] at this
   simp at this
 have hsame:∀b∈aQ dR,hp w' b=hp w b:=fun b hb=>by
  have hlt:=(K0.mine b (IB b hb)).1
  have:=(@Rel.frame (gp fr iB h0 hs) _ _ _ _ _ _ H1).2.2.2.2.1 b (by simpa [zm,hw0] using hlt) (fun j DJ h1 h2=>by
   obtain ⟨pi,_,rfl⟩:=mX h1
   have:=(List.mem_filter.1 h2).2
   rw [aJ.2 hb] at this
   simp at this)
  simpa [zm,hw0] using this
 have hrow':∀q∈dR, @Ow fr (hp w') R0.own (fun _=>False) (.sl e kk) (tb q.1) [q.2.1] q.2.2:=fun q hq=>
  bD (fun _ h=>h.elim) (fun _ h=>h) (fun b hb=>hsame b (List.mem_flatMap.2 ⟨q,hq,hb⟩)) (hrow q hq)
 obtain ⟨Iu,r1,r2⟩:=WA (fr:=fr) (cx:=cx) (gp fr iB h0 hs) rfl Ra hRR hL (fun q hq=>⟨hrow' q (hRs q hq),hid q (hRs q hq)⟩)
 have Rn:∀b∈aQ ET,b∈aQ dR:=fun b hb=>by
  obtain ⟨q,hq,h⟩:=List.mem_flatMap.1 hb
  exact List.mem_flatMap.2 ⟨q,hRs q hq,h⟩
 have IL:∀b∈aQ qo,b∈aQ dR:=fun b hb=>by
  obtain ⟨q,hq,h⟩:=List.mem_flatMap.1 hb
  exact List.mem_flatMap.2 ⟨q,Yv q hq,h⟩
 have hsel:(aQ ET++aQ qo).Nodup:=by
  have:=ES sP.2.1 hnd (l:=ET++qo) (fun q hq=>(List.mem_append.1 hq).elim (hRs q) (Yv q)) hall
  have e:aQ (ET++qo)=aQ ET++aQ qo:=by simp [aQ]
  rwa [e] at this
 obtain ⟨hnR,hnP,hRP⟩:=List.nodup_append.1 hsel
 have hmF:∀b∈F1,Ow.mine (zm cx (aQ dR)) w' b:=@Rel.fl (gp fr iB h0 hs) _ _ _ _ _ _ H1
 have Zu:∀b∈(α.loc (au 0)).1 :: dK.fo (au 0),Ow.mine (zm cx (aQ dR)) w' b:=fun b hb=>O7 b (by rw [hblk1]; exact hb)
 have VV:∀b,Ow.mine (zm cx (aQ dR)) w' b→Ow.mine cx w' b:=fun b hb=>⟨hb.1,hb.2.imp (fun h=>h) (fun ⟨j,DJ,h1,h2⟩=>by
  obtain ⟨pi,h3,rfl⟩:=mX h1
  exact ⟨j,pi,h3,(List.mem_filter.1 h2).1⟩)⟩
 have Re:∀b∈aQ dR,Ow.mine cx w' b:=fun b hb=>by
  obtain ⟨m1,m2⟩:=K0.mine b (IB b hb)
  exact ⟨by omega,m2⟩
 have afr:Iu.flatten.Nodup:=r2.nodup_iff.2 (List.nodup_append.2 ⟨hfn,hnR,fun b hb c hc ebc=>by subst ebc; exact hno b (Rn b hc) (hmF b (OX b hb))⟩)
 have hFm:∀b∈Iu.flatten,b∈bz.flatten∨b∈aQ ET:=fun b hb=>List.mem_append.1 (r2.mem_iff.1 hb)
 refine ⟨Ck (α.loc (au 0)) (dK.hdr (au 0)) (dK.fo (au 0)++aQ qo),Iu, ?_,r1 _ _ _,afr⟩
 have EF:∀{r R},aP (AA (mY R0.k y R0.own wt ht)) r R→r=au 0∧R=mY R0.k y R0.own wt ht:=fun h=>ql h.1
 have Ky:blk (Ck (α.loc (au 0)) (dK.hdr (au 0)) (dK.fo (au 0)++aQ qo)) (mY R0.k y R0.own wt ht) (au 0)=(α.loc (au 0)).1 :: (dK.fo (au 0)++aQ qo):=rfl
 have NP:=aaY
 rw [hblk1] at NP
 have afq:=List.nodup_cons.1 NP
 have hf1:=@Rel.frame (gp fr iB h0 hs) _ _ _ _ _ _ H1
 have hfd1:=@Rel.iZ (gp fr iB h0 hs) _ _ _ _ _ _ H1
 have zu:∀b o,dW (Ck (α.loc (au 0)) (dK.hdr (au 0)) (dK.fo (au 0)++aQ qo)) (mY R0.k y R0.own wt ht) (au 0)=some (b,o)→α.loc (au 0)=(b,o):=fun b o h=>Option.some.inj h
 have YF:R0.k.size=Q'.k.size:=hP.size.symm
 have VZ:∀j p ts v,cx.ptrs j p ts v→au j=au 0:=fun j p ts v h=>by
  obtain ⟨_,R,f1,_⟩:=H.yB j p ts v h
  refine Classical.byContradiction fun e=>?_
  rw [ng _ e] at f1
  simp at f1
 have hdf:=@Rel.defs (gp fr iB h0 hs) _ _ _ _ _ _ H1
 have hsz0:=@Rel.sz (gp fr iB h0 hs) _ _ _ _ _ _ H1
 have hsz1:cx.nt≤a1.tmps.size:=hsz0
 have abG:=@Rel.wo (gp fr iB h0 hs) _ _ _ _ _ _ H1
 refine ⟨hdf,hsz1, ?_, ?_,fun s=>trivial,fun s=>trivial, ?_, ?_, ?_, ?_,afr, ?_, ?_, ?_, ?_, ?_, ?_⟩
 ·intro j pi b o n hj hb
  obtain ⟨R,f1,f2,f3,f4⟩:=H.mo j pi b o n hj hb
  obtain ⟨e1,rfl⟩:=Qf _ R f1
  rw [e1] at f3 ⊢
  exact ⟨_,⟨uo,rfl⟩,rfl,f3,f4⟩
 ·intro r R hr _
  obtain ⟨rfl,rfl⟩:=EF hr
  exact ⟨j0,pi0,n0,p1,p2,p3⟩
 ·intro r R hr
  obtain ⟨rfl,rfl⟩:=EF hr
  refine ⟨fun _=>?_,by show (dK.hdr (au 0)).length=R0.k.size; rw [UM,YF],fun b o hb=>?_, ?_,fun b hb=>?_⟩
  ·have o1 : @Ow (gp fr iB h0 hs) (hp w') R0.own (fun _=>False) Q'.k Q'.x (dK.hdr (au 0)) (dK.fo (au 0)):=by
    have hk1:∀t∈Q'.k.tys,ay t Q'.own=true:=fun t ht=>hQo t (by rw [←hQk]; exact ht)
    have hk2:∀t∈Q'.k.tys,ay t R0.own=true:=fun t ht=>hown' t (by rw [←hQk]; exact ht)
    exact @gK (gp fr iB h0 hs) _ _ _ _ _ _ _ _ (dm hk2) (@F8 (gp fr iB h0 hs) _ _ _ _ _ _ _ _ (fun t ht=>by rw [hk1 t ht,hk2 t ht]) (aaZ hQv))
   have o2:=Lp (fr:=fr) (gp fr iB h0 hs) hown hP o1 (fun q hq=>⟨hrow' q (Yv q hq),hid q (Yv q hq)⟩)
   exact gK (dm hown) o2
  ·have hbo:=zu b o hb
   obtain ⟨m1,arr,e',lo,hi,m2,m3,m4,m5⟩:=aeh b o (by unfold dW; rw [q2]; simp [q3,hbo])
   exact ⟨m1,arr,e',lo,hi,m2,m3,by show o+R0.k.size≤_; rw [YF]; exact m4,fun t ht=>by simp [mY] at ht⟩
  ·rw [Ky]
   refine List.nodup_cons.2 ⟨fun h=>?_,List.nodup_append.2 ⟨afq.2,hnP,fun b hb c hc ebc=>by subst ebc; exact hno b (IL b hc) (Zu b (List.mem_cons_of_mem _ hb))⟩⟩
   rcases List.mem_append.1 h with h | h
   ·exact afq.1 h
   ·exact hno _ (IL _ h) (Zu _ List.mem_cons_self)
  ·rw [Ky] at hb
   rcases List.mem_cons.1 hb with h | h
   ·exact VV b (Zu b (by rw [h]; exact List.mem_cons_self))
   ·rcases List.mem_append.1 h with h | h
    ·exact VV b (Zu b (List.mem_cons_of_mem _ h))
    ·exact Re b (IL b h)
 ·intro r R hr
  obtain ⟨rfl,rfl⟩:=ql hr
  exact ⟨fun t ht=>by simp [mY] at ht,nT 0,fun n hn=>by simp [mY] at hn⟩
 ·intro r R r' R' hr hr' hne
  exact absurd ((EF hr).1.trans (EF hr').1.symm) hne
 ·intro b hb
  rcases hFm b hb with h | h
  ·exact VV b (hmF b (OX b h))
  ·exact Re b (Rn b h)
 ·intro r R hr b hb FU
  obtain ⟨rfl,rfl⟩:=EF hr
  rw [Ky] at hb
  have hc1:b∈(α.loc (au 0)).1 :: dK.fo (au 0)∨b∈aQ qo:=by
   rcases List.mem_cons.1 hb with h | h
   ·exact .inl (by rw [h]; exact List.mem_cons_self)
   ·exact (List.mem_append.1 h).imp (fun h=>List.mem_cons_of_mem _ h) id
  rcases hc1 with h | h
  ·rcases hFm b FU with g | g
   ·exact hfd1 _ Q' hlv1 b (by rw [hblk1]; exact h) (OX b g)
   ·exact hno b (Rn b g) (Zu b h)
  ·rcases hFm b FU with g | g
   ·exact hno b (IL b h) (hmF b (OX b g))
   ·exact hRP b g b h rfl
 ·obtain ⟨f1,f2,f3,f4,f5,f6⟩:=hf1
  refine ⟨f1,f2,f3,f4,fun b hb hnb=>f5 b hb (fun j DJ h1 h2=>?_),fun j pi b o n hj hb=>?_⟩
  ·obtain ⟨pi,h3,rfl⟩:=mX h1
   exact hnb j pi h3 (List.mem_filter.1 h2).1
  ·exact f6 j { pi with bl:=pi.bl.filter fun b=>!ay b (aQ dR) } b o n (by simp [zm,hj]) hb
 ·intro j pi hj hkp
  obtain ⟨R,f1,_⟩:=H.wo j pi hj hkp
  have ej:au j=au 0:=Classical.byContradiction fun ne=>by rw [ng _ ne] at f1; simp at f1
  refine ⟨mY R0.k y R0.own wt ht,by rw [ej]; exact uo,fun _ b hb hnb=>?_⟩
  have hone:∀q Q,aP (AA (mY R0.k y R0.own wt ht)) q Q→b∈blk (Ck (α.loc (au 0)) (dK.hdr (au 0)) (dK.fo (au 0)++aQ qo)) Q q→q=au j:=fun q Q hq _=>by rw [(EF hq).1,ej]
  by_cases hbt:b∈aQ dR
  ·by_cases hbR:b∈aQ ET
   ·obtain ⟨q,hq,h⟩:=List.mem_flatMap.1 hbR
    obtain ⟨t,t1,_,t3⟩:=uh (hrow q (hRs q hq)) b h
    exact .inl ⟨t,by rw [hw0]; exact t3, .inl (hwk t t1)⟩
   ·refine .inr ⟨by rw [hw0]; exact hsame b hbt,fun hF=>?_,hone⟩
    rcases hFm b hF with g | g
    ·exact hno b hbt (hmF b (OX b g))
    ·exact hbR g
  ·obtain ⟨R1,k1,k2⟩:=abG j { pi with bl:=pi.bl.filter fun b=>!ay b (aQ dR) } (by simp [zm,hj]) hkp
   have eR:R1=Q':=by rw [ej,hQ] at k1; exact (Option.some.inj k1).symm
   subst eR
   rcases k2 hQv.1 b (List.mem_filter.2 ⟨hb,by rw [aW.2 hbt]; rfl⟩) (fun h=>hnb (H6.1 h)) with ⟨t,t1,t2⟩ | ⟨t1,t2,_⟩
   ·exact .inl ⟨t,t1, .inl (t2.elim (jo.1 hwt.1 t) (jo.1 hwt.2 t))⟩
   ·refine .inr ⟨t1,fun hF=>?_,hone⟩
    rcases hFm b hF with g | g
    ·exact t2 (OX b g)
    ·exact hbt (Rn b g)
 ·refine ⟨fun j pi hj b hb=>H.pq.1 j pi hj b hb,fun b hb=>H.pq.2.1 b hb,fun b hb=>H.pq.2.2 b hb⟩
 ·intro j p ts v hv
  have ej:=VZ j p ts v hv
  obtain ⟨g1,R,f1,f2⟩:=H.yB j p ts v hv
  obtain ⟨k0,rfl⟩:=EG j p ts v hv
  refine ⟨g1,mY R0.k y R0.own wt ht,by rw [ej]; exact uo,fun hts=>?_⟩
  cases p with
  | cons s p=>exact absurd VP (hts qh (by simp [dV]))
  | nil=>
   refine ⟨g1,fun R' hR' _ _ _ _=>?_⟩
   rw [ej] at hR'
   obtain ⟨_,rfl⟩:=ql hR'
   obtain ⟨_,cs,b,o,hn,ev⟩:=(f2 (fun t ht=>by simp [dV] at ht)).2 R0 (by rw [ej]; exact hR0.1) hv0 (by unfold dV clean; simp [ay]) (fun t ht=>by simp [ah] at ht) rfl
   rw [ej] at hn
   simp only [bE,Option.some.injEq,Prod.mk.injEq] at hn
   refine ⟨trivial,dK.hdr (au 0),b,o, ?_,ev⟩
   have h2:=hn.2
   unfold dW at h2
   rw [hpar] at h2
   rw [ej]
   simp only [bE]
   exact congrArg (fun z=>some (dK.hdr (au 0),z)) h2
 ·intro j v hv
  obtain ⟨⟨R,f1⟩,f2⟩:=H.yC j v hv
  have ej:au j=au 0:=Classical.byContradiction fun ne=>by rw [ng _ ne] at f1; simp at f1
  rw [ej] at f2
  have:=(f2 R0 hR0 hg0).1
  rw [hpar] at this
  simp at this
end
end Go.Proofs.YtailcbngagacaaaGreat.Ow

/- The framework, part 71: a function over rows that it does not look into, as one over the rows. Own work of this seat. -/
namespace Go.Proofs.YtailcbngagacaaaGreat.Ow
open Go
def fq:List dL→Bool
 | []=>true
 | .val k [] :: l=>Cy k && fq l
 | .fn _ ks :: l=>ks.all Cy && fq l
 | _=>false
section
variable [Fr]
theorem sU:∀{ps:List dL} {i:Nat} {c:Cont (kin ps)},fq ps=true→fU ps i c=[]
 | [],_,_,_=>rfl
 | .val k [] :: ps,i,c,h=>by
  simp only [fq,Bool.and_eq_true] at h
  exact sU (ps:=ps) (i:=i+1) (c:=c.2) h.2
 | .fn f ks :: ps,i,c,h=>by
  simp only [fq,Bool.and_eq_true] at h
  exact sU (ps:=ps) (i:=i+1) (c:=Cont.snd ks (kin ps) c) h.2
 | .val _ (_ :: _) :: _,_,_,h=>by simp [fq] at h
 | .ro _ :: _,_,_,h=>by simp [fq] at h
 | .rw _ _ _ _ :: _,_,_,h=>by simp [fq] at h
 | .jR _ _ _ :: _,_,_,h=>by simp [fq] at h
 | .own _ _ :: _,_,_,h=>by simp [fq] at h
 | .into _ _ :: _,_,_,h=>by simp [fq] at h
theorem Q9 (i:Nat):∀{ks:List K} {c:Cont ks},ks.all Cy=true→∀q∈jl.za i ks c,Cy q.2.1.1=true∧P6 q.2.2∧q.1=SENT
 | [],_,_,q,hq=>by simp [jl.za] at hq
 | k :: ks,c,h,q,hq=>by
  simp only [List.all_cons,Bool.and_eq_true] at h
  simp only [jl.za] at hq
  rcases List.mem_cons.1 hq with rfl | hq
  ·exact ⟨h.1,fun t ht=>by simp only [List.mem_singleton] at ht; subst ht; exact iC i,rfl⟩
  ·exact Q9 i h.2 q hq
theorem zC:∀{ps:List dL} {i:Nat} {c:Cont (kin ps)},fq ps=true→∀s,Dh (rF (jl ps i c) s)
 | [],_,_,_,s=>trivial
 | .val k [] :: ps,i,c,h,s=>by
  simp only [fq,Bool.and_eq_true] at h
  simp only [jl,rF]
  cases Nat.beq s i with
  | true=>
   refine ⟨h.1,fun t ht=>?_⟩
   cases hf:k.flat with
   | true=>rw [hf] at ht; simp at ht
   | false=>rw [hf] at ht; simp at ht; subst ht; exact iC i
  | false=>exact zC (ps:=ps) (i:=i+1) (c:=c.2) h.2 s
 | .fn f ks :: ps,i,c,h,s=>by
  simp only [fq,Bool.and_eq_true] at h
  simp only [jl,rF]
  cases Nat.beq s i with
  | true=>exact Q9 i h.1
  | false=>exact zC (ps:=ps) (i:=i+1) (c:=Cont.snd ks (kin ps) c) h.2 s
 | .val _ (_ :: _) :: _,_,_,h,_=>by simp [fq] at h
 | .ro _ :: _,_,_,h,_=>by simp [fq] at h
 | .rw _ _ _ _ :: _,_,_,h,_=>by simp [fq] at h
 | .jR _ _ _ :: _,_,_,h,_=>by simp [fq] at h
 | .own _ _ :: _,_,_,h,_=>by simp [fq] at h
 | .into _ _ :: _,_,_,h,_=>by simp [fq] at h
theorem DR {σ:St}:∀{ps:List dL} {i:Nat} {c:Cont (jQ ps)},fq ps=true→Em σ ps i c
 | [],_,_,_=>trivial
 | .val k [] :: ps,i,c,h=>by
  simp only [fq,Bool.and_eq_true] at h
  exact DR (ps:=ps) (i:=i+1) (c:=c) h.2
 | .fn f ks :: ps,i,c,h=>by
  simp only [fq,Bool.and_eq_true] at h
  exact DR (ps:=ps) (i:=i+1) (c:=c) h.2
 | .val _ (_ :: _) :: _,_,_,h=>by simp [fq] at h
 | .ro _ :: _,_,_,h=>by simp [fq] at h
 | .rw _ _ _ _ :: _,_,_,h=>by simp [fq] at h
 | .jR _ _ _ :: _,_,_,h=>by simp [fq] at h
 | .own _ _ :: _,_,_,h=>by simp [fq] at h
 | .into _ _ :: _,_,_,h=>by simp [fq] at h
theorem Q3 {e:TypeId} {kk:K} {z:Bool} {tb:Nat→List (El kk)} {k k1 k2:K} {x:El k} {y1:El k1} {y2:El k2} {ns:List Nat} (ek:k1=k2) (ey:y2=ek▸y1) (h:Rw e kk z tb k k2 x y2 ns):Rw e kk z tb k k1 x y1 ns:=by
 subst ek
 simp only at ey
 subst ey
 exact h
end
theorem Rv [fr:Fr] {e:TypeId} {kk:K} {P:Program} {n:Nat} {f:FuncId} {k k':K} {ow wt ht rU ht':List TypeId} {rest:List dL} {rs rs':List nP}
  {F:Nat→Cont (kin (.rw k ow wt ht :: rest))→Option (Cont (gZ rs++jQ (.rw k ow wt ht :: rest)))} {F':Nat→Cont (kin (.rw k' ow rU ht' :: rest))→Option (Cont (gZ rs'++jQ (.rw k' ow rU ht' :: rest)))}
  (hrest:fq rest=true) (hown:∀t∈k.tys,ay t ow=true) (hown':∀t∈k'.tys,ay t ow=true) (Ra:∀t∈(K.sl e kk).tys,ay t ow=true)
  (hE:∀fr:Fr, @aj fr P n ⟨f, .rw k' ow rU ht' :: rest,rs',F'⟩) (hwt:lN rU wt=true) (hwk:∀t∈(K.sl e kk).tys,t∈wt) (VP:qh∈ht)
  (hF:∀c out,F n c=some out→∃(x':El k') (ns ms1 ms2:List Nat) (tb:Nat→List (El kk)) (out':Cont (gZ rs'++jQ (.rw k' ow rU ht' :: rest))),Rw e kk false tb k k' c.1 x' ns∧ns.Nodup∧0∉ns∧F' n (x',c.2)=some out'∧
   RwR e kk tb rs rs' (Cont.fst _ _ out) (Cont.fst _ _ out') ms1∧Rw e kk true tb k k' (Cont.snd _ _ out).1 (Cont.snd _ _ out').1 ms2∧(ms1++ms2).Nodup∧∀m∈ms1++ms2,m∈ns) :
  aj P n ⟨f, .rw k ow wt ht :: rest,rs,F⟩:=by
 intro c out hout cx α args w hnt hw hsz hP H
 obtain ⟨x',ns,ms1,ms2,tb,out',hR,hnd,hn0,hF',hRR,hRP,hmm,hsub⟩:=hF c out hout
 have ha:(k.tys.all fun t=>ay t ow)=true:=List.all_eq_true.2 hown
 have ha':(k'.tys.all fun t=>ay t ow)=true:=List.all_eq_true.2 hown'
 have Co:∀r,(bS (.rw k ow wt ht :: rest) c).roots r=bif Nat.beq r (au 0) then some (aO k c.1 ow [] .par true) else none:=fun r=>by
  show fZ (fU (.rw k ow wt ht :: rest) 0 c) r=_
  simp only [fU,sU hrest,fZ,ha,cond_true]
 have hR0:aP (bS (.rw k ow wt ht :: rest) c) (au 0) (aO k c.1 ow [] .par true):=⟨by rw [Co]; simp,rfl⟩
 have ng:∀r,r≠au 0→(bS (.rw k ow wt ht :: rest) c).roots r=none:=fun r hr=>by
  rw [Co]
  have:Nat.beq r (au 0)=false:=by
   cases hb:Nat.beq r (au 0) with
   | true=>exact absurd (Nat.eq_of_beq_eq_true hb) hr
   | false=>rfl
  rw [this]; rfl
 have hsl:∀s,Dh ((bS (.rw k ow wt ht :: rest) c).slots s):=fun s=>by
  show Dh (rF (jl (.rw k ow wt ht :: rest) 0 c) s)
  simp only [jl,rF]
  cases Nat.beq s 0 with
  | true=>exact ⟨rfl,rfl,rfl⟩
  | false=>exact zC hrest s
 obtain ⟨dR,dG,iB,i0,is,g1,g2,g3,g4,VD⟩:=TC H hw hR0 ng rfl rfl hown (Ra e (by simp [K.tys])) hsl (k':=k') (x':=x') hR hnd hn0 hown'
 have hst:az (bS (.rw k ow wt ht :: rest) c) (au 0) { aO k c.1 ow [] .par true with k:=k',x:=x' }=bS (.rw k' ow rU ht' :: rest) (x',c.2):=by
  unfold az bS
  congr 1
  funext r
  show upd (bS (.rw k ow wt ht :: rest) c).roots (au 0) _ r=fZ (fU (.rw k' ow rU ht' :: rest) 0 (x',c.2)) r
  simp only [fU,sU hrest,fZ,ha',cond_true]
  unfold upd
  cases hb:Nat.beq r (au 0) with
  | true=>rfl
  | false=>simp only [cond_false]; rw [Co,hb]; rfl
 rw [hst] at VD
 have hP':En (zm cx (aQ dR)) (.rw k' ow rU ht' :: rest):=by
  refine ⟨fun j DJ hj hkp=>?_,fun j p ts v h=>h.elim,fun j v h=>h.elim⟩
  obtain ⟨pi,hj',rfl⟩:=mX hj
  obtain ⟨k0,o1,o2,o3,h⟩:=hP.par j pi hj' hkp
  cases j with
  | zero=>exact ⟨k',ow,rU,ht', .inl rfl⟩
  | succ j=>exact ⟨k0,o1,o2,o3,by simpa using h⟩
 have h:=hE (gp fr iB i0 is) (x',c.2) out' hF' (zm cx (aQ dR)) _ args w hnt hw hsz hP' VD
 have hpost:∀v w', @Post (gp fr iB i0 is) (zm cx (aQ dR)) (.rw k' ow rU ht' :: rest) rs' out' v w'→@Post fr cx (.rw k ow wt ht :: rest) rs out v w':=by
  rintro v w' ⟨σ1,dK,F1,a1,vs,bz,H1,rfl,hL,hfn,OX,hOut,_⟩
  obtain ⟨Q,q1,q2,⟨ek,ey⟩,q4,q5,_⟩:=hOut
  have hRQ:=Q3 ek ey hRP
  obtain ⟨ET,t1,t2⟩:=select (dR:=dR) (ns:=ms1) (fun m hm=>by rw [g1]; exact hsub m (List.mem_append_left _ hm))
  obtain ⟨qo,t3,t4⟩:=select (dR:=dR) (ns:=ms2) (fun m hm=>by rw [g1]; exact hsub m (List.mem_append_right _ hm))
  have xR:=q5
  unfold BV at xR
  simp only [Bool.and_eq_true] at xR
  obtain ⟨⟨⟨⟨l1,l2⟩,_⟩,_⟩,_⟩:=xR
  have htr:∀{l:List Nat},lN l rU=true→lN l wt=true:=fun hl=>jo.2 fun t ht=>jo.1 hwt t (jo.1 hl t ht)
  obtain ⟨zG,Iu,r1,r2,r3⟩:=Wz (fr:=fr) H hw hR0 ng rfl rfl ⟨rfl,rfl⟩ hown hown' Ra g2 (by rw [g1]; exact hnd) g3 g4 H1 q1 q2 ek (fun t ht=>by
    have:=List.all_eq_true.1 q4 t ht
    rw [hown' t ht] at this
    simpa using this) (wt:=wt) (ht:=ht) ⟨htr l1,htr l2⟩ hwk VP (y:=(Cont.snd _ _ out).1) (qo:=qo) (by rw [t3]; exact hRQ) t4 (ET:=ET) t2 (by rw [t1]; exact hRR) hL hfn OX
    (by rw [List.map_append,t1,t3]; exact hmm) (fun j p ts v h=>by obtain ⟨k0,_,h⟩:=hP.ptr j p ts v h; exact ⟨k0,h⟩)
  refine ⟨_,zG,Iu.flatten,a1,vs,Iu,r1,rfl,r2,r3,fun b hb=>hb,⟨_,uo,⟨rfl,rfl⟩,⟨rfl,rfl⟩, ?_, ?_, .inl ha⟩,DR hrest⟩
  ·exact List.all_eq_true.2 fun t _=>by simp [mY]; rfl
  ·unfold BV mY
   simp only [lN,List.all_nil,Bool.and_eq_true,List.all_eq_true]
   exact ⟨⟨⟨⟨fun x hx=>aJ.2 hx,trivial⟩,fun x hx=>aJ.2 hx⟩,fun x hx=>aJ.2 hx⟩,rfl⟩
 rcases h with ⟨h1,h2⟩ | ⟨v,w',h1,h2⟩
 ·refine .inl ⟨h1,h2.mono ?_⟩
  rintro e w' ⟨v,rfl,hv⟩
  exact ⟨v,rfl,hpost v w' hv⟩
 ·exact .inr ⟨v,w',h1,hpost v w' h2⟩
end Go.Proofs.YtailcbngagacaaaGreat.Ow

/- Ow 72: rows and numbers: lists element by element, numbers by place. -/
namespace Go.Proofs.YtailcbngagacaaaGreat.Ow
open Go
theorem GR {e:TypeId} {kk:K} {z:Bool} {tb:Nat→List (El kk)} {k k':K} {t:TypeId} {C:Type} (hsz:k'.size=k.size) (l:List C) (f:C→El k) (g:C→El k') (q:C→List Nat)
  (h:∀c∈l,Rw e kk z tb k k' (f c) (g c) (q c)):Rw e kk z tb (.sl t k) (.sl t k') (l.map f) (l.map g) (l.map q).flatten:=by
 unfold Rw
 refine ⟨rfl,hsz,by simp,l.map q,by simp,rfl,fun i h1 h2=>?_⟩
 have hi:i<l.length:=by simpa using h1
 have:=h l[i] (List.getElem_mem hi)
 simpa [List.getD_eq_getElem?_getD,hi] using this
theorem oK {C:Type} (xs:List C):((xs.zipIdx 1).map (·.2)).Nodup∧0∉(xs.zipIdx 1).map (·.2):=by
 rw [List.zipIdx_map_snd]
 exact ⟨List.nodup_range',by simp⟩
theorem DD {C:Type} (xs:List C):(xs.zipIdx 1).map (·.1)=xs:=List.zipIdx_map_fst ..
theorem Mt {C R:Type} {xs:List C} {m:C→R} {d:R} {x:C} {i:Nat} (h:(x,i)∈xs.zipIdx 1):((xs[i - 1]?).map m).getD d=m x∧i≠0:=by
 obtain ⟨h1,h2,h3⟩:=List.mem_zipIdx h
 have hi:i - 1<xs.length:=by omega
 exact ⟨by simp [hi,h3],by omega⟩
end Go.Proofs.YtailcbngagacaaaGreat.Ow

/- The framework, part 73: a function that moves rows about in a slice that is lent, without looking into them. Own work of this seat. -/
namespace Go.Proofs.YtailcbngagacaaaGreat.Ow
open Go
section
variable {e:TypeId} {kk:K} [fr:Fr]
variable {cx:Cx} {σ:St} {α:dJ} {a:Act} {w:World}
def Jz (cx:Cx) (bad:List Nat):Cx:={ zm cx bad with refs:=cx.refs }
theorem Nr {bad:List Nat} {σ':St} {α':dJ} {F':List Nat}:∀{cs:List (TypeId×Dat×List Tag)} {vs:List Value},jN (zm cx bad) σ' α' F' w cs vs→jN (Jz cx bad) σ' α' F' w cs vs
 | [],[],_=>trivial
 | _ :: _,_ :: _,h=>⟨h.1,Nr h.2⟩
 | [],_ :: _,h=>h.elim
 | _ :: _,[],h=>h.elim
theorem ZY {bad:List Nat} {σ':St} {α':dJ} {F':List Nat} {x:AV} {v:Value} (h:bH (zm cx bad) σ' α' F' w x v):bH (Jz cx bad) σ' α' F' w x v:=by
 cases x with
 | fn f cs=>obtain ⟨vs,h1,h2⟩:=h; exact ⟨vs,h1,Nr h2⟩
 | _=>exact h
theorem UW {e1 e2:TypeId} {k1 k2:K} {v:Value} {cs:List Value} (h:VC (.sl e1 k1) v cs):VC (.sl e2 k2) v cs:=h
def kI (k:K) (x:El k) (ow wt ht:List TypeId):Root:={ k,x,own:=ow,tags:=[],w:=wt,h:=ht,g:=0,kind:=.anon,fixed:=true,keep:=true,ew:=[],eh:=ht }
theorem Qj (H:Rel cx σ α [] a w) (hw0:cx.w0=w) {R0:Root} {e1:TypeId} {k1:K} (hk0:R0.k=.sl e1 k1) (hR0:aP σ (au 0) R0) (ng:∀r,r≠au 0→σ.roots r=none) (BS:R0.kind=.anon) (rD:R0.tags=[]) (hown:∀t∈R0.k.tys,ay t R0.own=true) (he:ay e R0.own=true)
  (hs0:σ.slots 0=.one (.ref (au 0) 0)) (hsl:∀s,s≠0→Dh (σ.slots s)) {e2:TypeId} {k2:K} {x':El (.sl e2 k2)} {tb:Nat→List (El kk)} {ns:List Nat} (hR:Rw e kk false tb R0.k (.sl e2 k2) R0.x x' ns) (hnd:ns.Nodup) (hn0:0∉ns) (hown':∀t∈(K.sl e2 k2).tys,ay t R0.own=true) (hg0:R0.g=0) :
  ∃(dR:List Kb) (dG:List Nat) (iB:Nat→Value) (h0:iB 0=.slice none 0 0) (hs:∀i,∃a n c,iB i=.slice a n c),dR.map (·.1)=ns∧(α.fo (au 0)).Perm (dG++aQ dR)∧
   (∀q∈dR, @Ow fr (hp w) R0.own (fun _=>False) (.sl e kk) (tb q.1) [q.2.1] q.2.2)∧(∀q∈dR,iB q.1=q.2.1)∧
   @Rel (gp fr iB h0 hs) (Jz cx (aQ dR)) (az σ (au 0) { R0 with k:=.sl e2 k2,x:=x' }) (aG α (au 0) (α.loc (au 0)) (α.hdr (au 0)) dG) [] a w:=by
 have KR:=H.roots _ R0 hR0
 have hv0:bq σ R0:=⟨hR0.2,by rw [rD]; rfl⟩
 have hO:Ow (hp w) R0.own (fun _=>False) R0.k R0.x (α.hdr (au 0)) (α.fo (au 0)):=gK (dm hown) (KR.ow hv0)
 obtain ⟨dR,dG,g1,g2,g3,g4⟩:=M5 hown hR hO
 obtain ⟨iB,i1,i2,i3⟩:=Qg (dR:=dR) (by rw [g1]; exact hnd) (by rw [g1]; exact hn0) (fun q hq=>RN he (g3 q hq))
 refine ⟨dR,dG,iB,i1,i2,g1,g2,g3,i3, ?_⟩
 have hblk:blk α R0 (au 0)=α.fo (au 0):=by unfold blk dW; rw [BS]; rfl
 have hsub:∀b∈dG,b∈α.fo (au 0):=fun b hb=>g2.mem_iff.2 (List.mem_append_left _ hb)
 have hbad:∀b∈aQ dR,b∈α.fo (au 0):=fun b hb=>g2.mem_iff.2 (List.mem_append_right _ hb)
 have L:BQ cx σ α R0 { R0 with k:=.sl e2 k2,x:=x' } dG (aQ dR):=⟨fun r R hr=>by
  by_cases e:r=au 0
  ·subst e; refine ⟨rfl, ?_⟩; have:=hr.1; rw [hR0.1] at this; exact (Option.some.inj this).symm
  ·have:=hr.1; rw [ng r e] at this; simp at this,hR0,rfl,rD,hsub,hbad⟩
 have rW:=KR.nd
 rw [hblk] at rW
 have sP:=List.nodup_append.1 (g2.nodup rW)
 have hlv:∀{q Q},aP (az σ (au 0) { R0 with k:=.sl e2 k2,x:=x' }) q Q→q=au 0∧Q={ R0 with k:=.sl e2 k2,x:=x' }:=fun {q Q} hq=>by
  rcases jc hq with ⟨rfl,rfl,_⟩ | ⟨e,hq'⟩
  ·exact ⟨rfl,rfl⟩
  ·exact absurd (L.only q Q hq').1 e
 have hlv1:aP (az σ (au 0) { R0 with k:=.sl e2 k2,x:=x' }) (au 0) { R0 with k:=.sl e2 k2,x:=x' }:=⟨aI ..,hR0.2⟩
 have hblk':blk (aG α (au 0) (α.loc (au 0)) (α.hdr (au 0)) dG) { R0 with k:=.sl e2 k2,x:=x' } (au 0)=dG:=by
  rw [eD]; unfold gY; simp only [BS]; rfl
 have BJ:∀v,bH cx σ α [] w (.ref (au 0) 0) v→@bH (gp fr iB i1 i2) (Jz cx (aQ dR)) (az σ (au 0) { R0 with k:=.sl e2 k2,x:=x' }) (aG α (au 0) (α.loc (au 0)) (α.hdr (au 0)) dG) [] w (.ref (au 0) 0) v:=by
  intro v hv Q hQ _
  obtain ⟨_,rfl⟩:=hlv hQ
  obtain ⟨h1,h2⟩:=hv R0 hR0 hg0
  refine ⟨BS, ?_⟩
  rw [hk0] at h2
  simp only [aG,upd_same]
  exact UW h2
 have VH:∀{x:xZ} {v:Value},Dh x→@jD fr cx σ α [] w x v→@jD (gp fr iB i1 i2) (Jz cx (aQ dR)) (az σ (au 0) { R0 with k:=.sl e2 k2,x:=x' }) (aG α (au 0) (α.loc (au 0)) (α.hdr (au 0)) dG) [] w x v:=fun hx h=>by
  have h1:=BQ.av (fr:=fr) (gp fr iB i1 i2) rfl L hx h
  rename_i x v
  cases x with
  | Gh l=>exact hx.elim
  | one x=>exact @ZY (gp fr iB i1 i2) _ _ _ _ _ _ _ _ h1
 have ji:∀b∈dG,Ow.mine (Jz cx (aQ dR)) w b:=fun b hb=>by
  obtain ⟨m1,m2⟩:=KR.mine b (by rw [hblk]; exact hsub b hb)
  refine ⟨m1, ?_⟩
  rcases m2 with m2 | ⟨j,pi,m2,m3⟩
  ·exact .inl m2
  ·refine .inr ⟨j,{ pi with bl:=pi.bl.filter fun b=>!ay b (aQ dR) },by simp [Jz,zm,m2],List.mem_filter.2 ⟨m3, ?_⟩⟩
   have:ay b (aQ dR)=false:=by
    rw [aW]
    intro hm
    exact sP.2.2 b hb b hm rfl
   rw [this]; rfl
 have JX:∀{j:Nat} {DJ:Sb},(Jz cx (aQ dR)).par j=some DJ→∃pi,cx.par j=some pi∧DJ={ pi with bl:=pi.bl.filter fun b=>!ay b (aQ dR) }:=fun h=>mX (cx:=cx) h
 have hpl:=H.pq
 refine @Rel.mk (gp fr iB i1 i2) _ _ _ _ _ _ H.defs H.sz ?_ ?_ ?_ ?_ ?_ ?_ ?_ (fun b hb=>by simp at hb) List.nodup_nil (fun r R hr b hb h=>by simp at h) ?_ ?_ ?_ (fun j p ts v h=>h.elim) ?_
 ·intro j DJ b o n hj hb
  obtain ⟨pi,hj',rfl⟩:=JX hj
  obtain ⟨R,f1,f2,_⟩:=H.mo j pi b o n hj' hb
  obtain ⟨_,rfl⟩:=L.only _ R f1
  rw [BS] at f2
  simp at f2
 ·intro r R hr hk
  obtain ⟨rfl,rfl⟩:=hlv hr
  have hk:R0.kind=.par:=hk
  rw [BS] at hk
  simp at hk
 ·intro s
  show @jD (gp fr iB i1 i2) _ _ _ _ _ (σ.slots s) _
  by_cases h0:s=0
  ·subst h0
   have:=H.slots 0
   rw [hs0] at this ⊢
   exact BJ _ this
  ·exact VH (hsl s h0) (H.slots s)
 ·intro s
  show y8 _ (σ.slots s)
  by_cases h0:s=0
  ·subst h0
   rw [hs0]
   exact ⟨_,aI .., .inr (Nat.zero_le _)⟩
  have hs:=hsl s h0
  cases hx:σ.slots s with
  | Gh l=>rw [hx] at hs; exact hs.elim
  | one x=>
   rw [hx] at hs
   cases x with
   | undef=>trivial
   | ptr r p n=>obtain ⟨rfl,rfl,rfl⟩:=hs; exact ⟨_,aI .., .inr (Nat.zero_le _)⟩
   | val k x T=>exact fun t ht=>.inl (hs.2 t ht)
   | fn f cs=>exact fun c hc t ht=>.inl ((hs c hc).2.1 t ht)
   | _=>exact hs.elim
 ·intro r R hr
  obtain ⟨rfl,rfl⟩:=hlv hr
  refine @uJ.mk (gp fr iB i1 i2) _ _ _ _ _ _ _ (fun _=>?_) ?_ ?_ ?_ ?_
  ·have e1:(aG α (au 0) (α.loc (au 0)) (α.hdr (au 0)) dG).hdr (au 0)=α.hdr (au 0):=by simp [aG,upd_same]
   have e2:(aG α (au 0) (α.loc (au 0)) (α.hdr (au 0)) dG).fo (au 0)=dG:=by simp [aG,upd_same]
   rw [e1,e2]
   exact @gK (gp fr iB i1 i2) _ _ _ _ _ _ _ _ (dm hown') (g4 (gp fr iB i1 i2) rfl i3)
  ·show ((aG α (au 0) (α.loc (au 0)) (α.hdr (au 0)) dG).hdr (au 0)).length=(K.sl e2 k2).size
   rw [hR.size]
   simpa [aG,upd_same] using KR.len
  ·intro b o hb
   rw [L.wh] at hb
   unfold dW at hb
   rw [BS] at hb
   simp at hb
  ·rw [hblk']
   exact sP.1
  ·intro b hb
   rw [hblk'] at hb
   exact ji b hb
 ·intro r R hr
  by_cases e:r=au 0
  ·subst e
   rw [aI] at hr
   have hr:=Option.some.inj hr
   subst hr
   exact ⟨fun t ht=>by rw [show ({ R0 with k:=.sl e2 k2,x:=x' }:Root).tags=R0.tags from rfl,rD] at ht; simp at ht,nT 0,fun n hn=>by rw [show ({ R0 with k:=.sl e2 k2,x:=x' }:Root).tags=R0.tags from rfl,rD] at hn; simp at hn⟩
  ·rw [bZ _ _ e,ng r e] at hr; simp at hr
 ·intro r R r' R' hr hr' hne
  exact absurd ((hlv hr).1.trans (hlv hr').1.symm) hne
 ·obtain ⟨f1,f2,f3,f4,f5,f6⟩:=H.frame
  refine ⟨f1,f2,f3,f4,fun b _ _=>by show hp w b=hp cx.w0 b; rw [hw0],fun j DJ b o n hj hb=>?_⟩
  obtain ⟨pi,hj',rfl⟩:=JX hj
  exact f6 j pi b o n hj' hb
 ·intro j DJ hj hkp
  obtain ⟨pi,hj',rfl⟩:=JX hj
  obtain ⟨R,f1,f2⟩:=H.wo j pi hj' hkp
  by_cases e:au j=au 0
  ·refine ⟨_,by rw [e]; exact aI ..,fun _ b hb hnb=>.inr ⟨by show hp w b=hp cx.w0 b; rw [hw0],by simp,fun q Q hq _=>by rw [(hlv hq).1,e]⟩⟩
  ·rw [ng _ e] at f1; simp at f1
 ·refine ⟨fun j DJ hj b hb=>?_,fun b hb=>⟨?_,fun j DJ hj hbl=>?_⟩,fun b hb=>hpl.2.2 b hb⟩
  ·obtain ⟨pi,hj',rfl⟩:=JX hj
   exact hpl.1 j pi hj' b (List.mem_filter.1 hb).1
  ·exact (hpl.2.1 b hb).1
  ·obtain ⟨pi,hj',rfl⟩:=JX hj
   exact (hpl.2.1 b hb).2 j pi hj' (List.mem_filter.1 hbl).1
 ·intro j v hv
  have hv:cx.refs j v:=hv
  obtain ⟨⟨R,f1⟩,f2⟩:=H.yC j v hv
  have ej:au j=au 0:=Classical.byContradiction fun ne=>by rw [ng _ ne] at f1; simp at f1
  rw [ej] at f2 ⊢
  exact ⟨⟨_,aI ..⟩,BJ v f2⟩
theorem TB (H:Rel cx σ α [] a w) (hw0:cx.w0=w) {R0:Root} {e1:TypeId} {k1:K} (hk0:R0.k=.sl e1 k1) (hR0:aP σ (au 0) R0) (ng:∀r,r≠au 0→σ.roots r=none) (BS:R0.kind=.anon) (hg0:R0.g=0) (hv0:bq σ R0)
  (hown:∀t∈R0.k.tys,ay t R0.own=true) {e2:TypeId} {k2:K} (hown':∀t∈(K.sl e2 k2).tys,ay t R0.own=true) (Ra:∀t∈(K.sl e kk).tys,ay t R0.own=true)
  {tb:Nat→List (El kk)} {dR:List Kb} {dG:List Nat} {iB:Nat→Value} {h0:iB 0=.slice none 0 0} {hs:∀i,∃a n c,iB i=.slice a n c}
  (hperm:(α.fo (au 0)).Perm (dG++aQ dR)) (hnd:(dR.map (·.1)).Nodup) (hrow:∀q∈dR, @Ow fr (hp w) R0.own (fun _=>False) (.sl e kk) (tb q.1) [q.2.1] q.2.2) (hid:∀q∈dR,iB q.1=q.2.1)
  {σ1:St} {dK:dJ} {F1:List Nat} {a1:Act} {w':World} (H1 : @Rel (gp fr iB h0 hs) (Jz cx (aQ dR)) σ1 dK F1 a1 w') {Q:Root} (hQ:σ1.roots (au 0)=some Q) (hQv:bq σ1 Q) (hQk:Q.k=.sl e2 k2) (hQo:∀t∈(K.sl e2 k2).tys,ay t Q.own=true) (hQn:Q.kind=.anon) (hQg:Q.g=0)
  {wt:List TypeId} (hwt:lN Q.w wt=true∧lN Q.ew wt=true)
  {y:El R0.k} {qo:List Kb} (hP:Rw e kk true tb R0.k Q.k y Q.x (qo.map (·.1))) (Yv:∀q∈qo,q∈dR) (hall:(qo.map (·.1)).Nodup)
  (EG:∀j p ts v,cx.ptrs j p ts v→j=0→ts=dV p R0.k) :
  Rel cx (AA (kI R0.k y R0.own wt R0.k.tys)) (Ck (α.loc (au 0)) (dK.hdr (au 0)) (dK.fo (au 0)++aQ qo)) [] a1 w':=by
 have K0:=H.roots _ R0 hR0
 have hlv1:aP σ1 (au 0) Q:=⟨hQ,hQv.1⟩
 have K1:=@Rel.roots (gp fr iB h0 hs) _ _ _ _ _ _ H1 _ Q hlv1
 have aaZ:=@uJ.ow (gp fr iB h0 hs) _ _ _ _ _ _ _ K1
 have UM:=@uJ.len (gp fr iB h0 hs) _ _ _ _ _ _ _ K1
 have aaY:=@uJ.nd (gp fr iB h0 hs) _ _ _ _ _ _ _ K1
 have O7:=@uJ.mine (gp fr iB h0 hs) _ _ _ _ _ _ _ K1
 have Qf:∀r R,aP σ r R→r=au 0∧R=R0:=fun r R hr=>by
  by_cases e:r=au 0
  ·subst e; refine ⟨rfl, ?_⟩; have:=hr.1; rw [hR0.1] at this; exact (Option.some.inj this).symm
  ·have:=hr.1; rw [ng r e] at this; simp at this
 have NM:blk α R0 (au 0)=α.fo (au 0):=by unfold blk dW; rw [BS]; rfl
 have hblk1:blk dK Q (au 0)=dK.fo (au 0):=by unfold blk dW; rw [hQn]; rfl
 have hsize:w.heap.size≤w'.heap.size:=by have:=(@Rel.frame (gp fr iB h0 hs) _ _ _ _ _ _ H1).2.2.2.1; simpa [Jz,zm,hw0] using this
 have rW:=K0.nd
 rw [NM] at rW
 have sP:=List.nodup_append.1 (hperm.nodup rW)
 have hbad:∀b∈aQ dR,b∈α.fo (au 0):=fun b hb=>hperm.mem_iff.2 (List.mem_append_right _ hb)
 have IB:∀b∈aQ dR,b∈blk α R0 (au 0):=fun b hb=>by rw [NM]; exact hbad b hb
 have JX:∀{j:Nat} {DJ:Sb},(Jz cx (aQ dR)).par j=some DJ→∃pi,cx.par j=some pi∧DJ={ pi with bl:=pi.bl.filter fun b=>!ay b (aQ dR) }:=fun h=>mX (cx:=cx) h
 have hno:∀b∈aQ dR,¬Ow.mine (Jz cx (aQ dR)) w' b:=fun b hb hm=>by
  have hlt:=(K0.mine b (IB b hb)).1
  rcases hm.2 with h | ⟨j,DJ,h1,h2⟩
  ·have:w.heap.size≤b:=by simpa [Jz,zm,hw0] using h
   omega
  ·obtain ⟨pi,_,rfl⟩:=JX h1
   have:=(List.mem_filter.1 h2).2
   rw [aJ.2 hb] at this
   simp at this
 have hsame:∀b∈aQ dR,hp w' b=hp w b:=fun b hb=>by
  have hlt:=(K0.mine b (IB b hb)).1
  have:=(@Rel.frame (gp fr iB h0 hs) _ _ _ _ _ _ H1).2.2.2.2.1 b (by simpa [Jz,zm,hw0] using hlt) (fun j DJ h1 h2=>by
   obtain ⟨pi,_,rfl⟩:=JX h1
   have:=(List.mem_filter.1 h2).2
   rw [aJ.2 hb] at this
   simp at this)
  simpa [Jz,zm,hw0] using this
 have hrow':∀q∈dR, @Ow fr (hp w') R0.own (fun _=>False) (.sl e kk) (tb q.1) [q.2.1] q.2.2:=fun q hq=>
  bD (fun _ h=>h.elim) (fun _ h=>h) (fun b hb=>hsame b (List.mem_flatMap.2 ⟨q,hq,hb⟩)) (hrow q hq)
 have IL:∀b∈aQ qo,b∈aQ dR:=fun b hb=>by
  obtain ⟨q,hq,h⟩:=List.mem_flatMap.1 hb
  exact List.mem_flatMap.2 ⟨q,Yv q hq,h⟩
 have hnP:(aQ qo).Nodup:=ES sP.2.1 hnd (l:=qo) Yv hall
 have Zu:∀b∈dK.fo (au 0),Ow.mine (Jz cx (aQ dR)) w' b:=fun b hb=>O7 b (by rw [hblk1]; exact hb)
 have VV:∀b,Ow.mine (Jz cx (aQ dR)) w' b→Ow.mine cx w' b:=fun b hb=>⟨hb.1,hb.2.imp (fun h=>h) (fun ⟨j,DJ,h1,h2⟩=>by
  obtain ⟨pi,h3,rfl⟩:=JX h1
  exact ⟨j,pi,h3,(List.mem_filter.1 h2).1⟩)⟩
 have Re:∀b∈aQ dR,Ow.mine cx w' b:=fun b hb=>by
  obtain ⟨m1,m2⟩:=K0.mine b (IB b hb)
  exact ⟨by omega,m2⟩
 have EF:∀{r R},aP (AA (kI R0.k y R0.own wt R0.k.tys)) r R→r=au 0∧R=kI R0.k y R0.own wt R0.k.tys:=fun h=>ql h.1
 have Ky:blk (Ck (α.loc (au 0)) (dK.hdr (au 0)) (dK.fo (au 0)++aQ qo)) (kI R0.k y R0.own wt R0.k.tys) (au 0)=dK.fo (au 0)++aQ qo:=rfl
 have NP:=aaY
 rw [hblk1] at NP
 have hf1:=@Rel.frame (gp fr iB h0 hs) _ _ _ _ _ _ H1
 have YF:R0.k.size=Q.k.size:=hP.size.symm
 have VZ:∀j p ts v,cx.ptrs j p ts v→au j=au 0:=fun j p ts v h=>by
  obtain ⟨_,R,f1,_⟩:=H.yB j p ts v h
  refine Classical.byContradiction fun e=>?_
  rw [ng _ e] at f1
  simp at f1
 have hdf:=@Rel.defs (gp fr iB h0 hs) _ _ _ _ _ _ H1
 have hsz0:=@Rel.sz (gp fr iB h0 hs) _ _ _ _ _ _ H1
 have hsz1:cx.nt≤a1.tmps.size:=hsz0
 have abG:=@Rel.wo (gp fr iB h0 hs) _ _ _ _ _ _ H1
 have ajO:=@Rel.yC (gp fr iB h0 hs) _ _ _ _ _ _ H1
 refine ⟨hdf,hsz1, ?_, ?_,fun s=>trivial,fun s=>trivial, ?_, ?_, ?_,fun b hb=>by simp at hb,List.nodup_nil,fun r R hr b hb h=>by simp at h, ?_, ?_, ?_, ?_, ?_⟩
 ·intro j pi b o n hj hb
  obtain ⟨R,f1,f2,_⟩:=H.mo j pi b o n hj hb
  obtain ⟨_,rfl⟩:=Qf _ R f1
  rw [BS] at f2
  simp at f2
 ·intro r R hr hk
  obtain ⟨rfl,rfl⟩:=EF hr
  simp [kI] at hk
 ·intro r R hr
  obtain ⟨rfl,rfl⟩:=EF hr
  refine ⟨fun _=>?_,by show (dK.hdr (au 0)).length=R0.k.size; rw [UM,YF],fun b o hb=>by simp [dW,kI] at hb, ?_,fun b hb=>?_⟩
  ·have o1 : @Ow (gp fr iB h0 hs) (hp w') R0.own (fun _=>False) Q.k Q.x (dK.hdr (au 0)) (dK.fo (au 0)):=by
    have hk1:∀t∈Q.k.tys,ay t Q.own=true:=fun t ht=>hQo t (by rw [←hQk]; exact ht)
    have hk2:∀t∈Q.k.tys,ay t R0.own=true:=fun t ht=>hown' t (by rw [←hQk]; exact ht)
    exact @gK (gp fr iB h0 hs) _ _ _ _ _ _ _ _ (dm hk2) (@F8 (gp fr iB h0 hs) _ _ _ _ _ _ _ _ (fun t ht=>by rw [hk1 t ht,hk2 t ht]) (aaZ hQv))
   have o2:=Lp (fr:=fr) (gp fr iB h0 hs) hown hP o1 (fun q hq=>⟨hrow' q (Yv q hq),hid q (Yv q hq)⟩)
   exact gK (dm hown) o2
  ·rw [Ky]
   exact List.nodup_append.2 ⟨NP,hnP,fun b hb c hc ebc=>by subst ebc; exact hno b (IL b hc) (Zu b hb)⟩
  ·rw [Ky] at hb
   rcases List.mem_append.1 hb with h | h
   ·exact VV b (Zu b h)
   ·exact Re b (IL b h)
 ·intro r R hr
  obtain ⟨rfl,rfl⟩:=ql hr
  exact ⟨fun t ht=>by simp [kI] at ht,nT 0,fun n hn=>by simp [kI] at hn⟩
 ·intro r R r' R' hr hr' hne
  exact absurd ((EF hr).1.trans (EF hr').1.symm) hne
 ·obtain ⟨f1,f2,f3,f4,f5,f6⟩:=hf1
  refine ⟨f1,f2,f3,f4,fun b hb hnb=>f5 b hb (fun j DJ h1 h2=>?_),fun j pi b o n hj hb=>?_⟩
  ·obtain ⟨pi,h3,rfl⟩:=JX h1
   exact hnb j pi h3 (List.mem_filter.1 h2).1
  ·exact f6 j { pi with bl:=pi.bl.filter fun b=>!ay b (aQ dR) } b o n (by simp [Jz,zm,hj]) hb
 ·intro j pi hj hkp
  obtain ⟨R,f1,_⟩:=H.wo j pi hj hkp
  have ej:au j=au 0:=Classical.byContradiction fun ne=>by rw [ng _ ne] at f1; simp at f1
  refine ⟨kI R0.k y R0.own wt R0.k.tys,by rw [ej]; exact uo,fun _ b hb hnb=>?_⟩
  have hone:∀q Q,aP (AA (kI R0.k y R0.own wt R0.k.tys)) q Q→b∈blk (Ck (α.loc (au 0)) (dK.hdr (au 0)) (dK.fo (au 0)++aQ qo)) Q q→q=au j:=fun q Q hq _=>by rw [(EF hq).1,ej]
  by_cases hbt:b∈aQ dR
  ·exact .inr ⟨by rw [hw0]; exact hsame b hbt,by simp,hone⟩
  ·obtain ⟨R1,q1,q2⟩:=abG j { pi with bl:=pi.bl.filter fun b=>!ay b (aQ dR) } (by simp [Jz,zm,hj]) hkp
   have eR:R1=Q:=by rw [ej,hQ] at q1; exact (Option.some.inj q1).symm
   subst eR
   rcases q2 hQv.1 b (List.mem_filter.2 ⟨hb,by rw [aW.2 hbt]; rfl⟩) (fun h=>hnb (H6.1 h)) with ⟨t,t1,t2⟩ | ⟨t1,t2,_⟩
   ·exact .inl ⟨t,t1, .inl (t2.elim (jo.1 hwt.1 t) (jo.1 hwt.2 t))⟩
   ·exact .inr ⟨t1,by simp,hone⟩
 ·refine ⟨fun j pi hj b hb=>H.pq.1 j pi hj b hb,fun b hb=>H.pq.2.1 b hb,fun b hb=>H.pq.2.2 b hb⟩
 ·intro j p ts v hv
  have ej:=VZ j p ts v hv
  have ej0:j=0:=by unfold au at ej; omega
  obtain ⟨g1,R,f1,f2⟩:=H.yB j p ts v hv
  have hts:=EG j p ts v hv ej0
  refine ⟨g1,kI R0.k y R0.own wt R0.k.tys,by rw [ej]; exact uo,fun hno'=>?_⟩
  refine ⟨g1,fun R' hR' _ _ _ hsome=>?_⟩
  rw [ej] at hR'
  obtain ⟨_,rfl⟩:=ql hR'
  have hsome:(aS p R0.k y).isSome=true:=hsome
  cases p with
  | nil=>
   have hRR:R=R0:=by rw [ej,hR0.1] at f1; exact (Option.some.inj f1).symm
   obtain ⟨_,cs,b,o,hn,ev⟩:=(f2 (fun t ht=>by rw [hts] at ht; simp [dV] at ht)).2 R0 (by rw [ej]; exact hR0.1) hv0 (by unfold dV clean; simp [ay]) (fun t ht=>by simp [ah] at ht) rfl
   rw [ej] at hn
   simp only [bE,Option.some.injEq,Prod.mk.injEq] at hn
   have h2:=hn.2
   unfold dW at h2
   rw [BS] at h2
   simp at h2
  | cons s p=>
   cases s with
   | gu m=>
    rw [hk0] at hts
    have:aS (.gu m :: p) R0.k y=none:=by
     have hg:∀(k:K) (z:El k),k=.sl e1 k1→aS (.gu m :: p) k z=none:=by
      intro k z hk; subst hk; rfl
     exact hg _ y hk0
    rw [this] at hsome; simp at hsome
   | idx i=>
    exfalso
    refine hno' e1 ?_ ?_
    ·rw [hts,hk0]; simp [dV,ah]
    ·show e1∈R0.k.tys
     rw [hk0]; simp [K.tys]
 ·intro j v hv
  obtain ⟨⟨R,f1⟩,f2⟩:=H.yC j v hv
  have ej:au j=au 0:=Classical.byContradiction fun ne=>by rw [ng _ ne] at f1; simp at f1
  obtain ⟨_,q2⟩:=ajO j v hv
  rw [ej] at q2 ⊢
  refine ⟨⟨_,uo⟩,fun R' hR' _=>?_⟩
  obtain ⟨_,rfl⟩:=EF hR'
  obtain ⟨z1,z2⟩:=q2 Q hlv1 hQg
  refine ⟨rfl, ?_⟩
  show VC R0.k v (dK.hdr (au 0))
  rw [hk0]
  rw [hQk] at z2
  exact UW z2
end
theorem Wy [fr:Fr] {e e1 e2:TypeId} {kk k1 k2:K} {P:Program} {n:Nat} {f:FuncId} {ow wt rU:List TypeId} {rest:List dL}
  {F:Nat→Cont (kin (.jR (.sl e1 k1) ow wt :: rest))→Option (Cont (gZ [.into 0 []]++jQ (.jR (.sl e1 k1) ow wt :: rest)))} {F':Nat→Cont (kin (.jR (.sl e2 k2) ow rU :: rest))→Option (Cont (gZ [.into 0 []]++jQ (.jR (.sl e2 k2) ow rU :: rest)))}
  (hrest:fq rest=true) (hown:∀t∈(K.sl e1 k1).tys,ay t ow=true) (hown':∀t∈(K.sl e2 k2).tys,ay t ow=true) (Ra:∀t∈(K.sl e kk).tys,ay t ow=true)
  (hE:∀fr:Fr, @aj fr P n ⟨f, .jR (.sl e2 k2) ow rU :: rest,[.into 0 []],F'⟩) (hwt:lN rU wt=true)
  (hF:∀c out,F n c=some out→∃(x':El (.sl e2 k2)) (ns ms:List Nat) (tb:Nat→List (El kk)) (out':Cont (gZ [.into 0 []]++jQ (.jR (.sl e2 k2) ow rU :: rest))),Rw e kk false tb (.sl e1 k1) (.sl e2 k2) c.1 x' ns∧ns.Nodup∧0∉ns∧F' n (x',c.2)=some out'∧
   (show Int from out.1)=(show Int from out'.1)∧Rw e kk true tb (.sl e1 k1) (.sl e2 k2) out.2.1 out'.2.1 ms∧ms.Nodup∧∀m∈ms,m∈ns) :
  aj P n ⟨f, .jR (.sl e1 k1) ow wt :: rest,[.into 0 []],F⟩:=by
 intro c out hout cx α args w hnt hw hsz hP H
 obtain ⟨x',ns,ms,tb,out',hR,hnd,hn0,hF',hRI,hRP,hmm,hsub⟩:=hF c out hout
 have ha:((K.sl e1 k1).tys.all fun t=>ay t ow)=true:=List.all_eq_true.2 hown
 have ha':((K.sl e2 k2).tys.all fun t=>ay t ow)=true:=List.all_eq_true.2 hown'
 have Co:∀r,(bS (.jR (.sl e1 k1) ow wt :: rest) c).roots r=bif Nat.beq r (au 0) then some { aO (.sl e1 k1) c.1 ow [] .anon true with fixed:=true } else none:=fun r=>by
  show fZ (fU (.jR (.sl e1 k1) ow wt :: rest) 0 c) r=_
  simp only [fU,sU hrest,fZ,ha,cond_true]
  rfl
 have hR0:aP (bS (.jR (.sl e1 k1) ow wt :: rest) c) (au 0) { aO (.sl e1 k1) c.1 ow [] .anon true with fixed:=true }:=⟨by rw [Co]; simp,rfl⟩
 have ng:∀r,r≠au 0→(bS (.jR (.sl e1 k1) ow wt :: rest) c).roots r=none:=fun r hr=>by
  rw [Co]
  have:Nat.beq r (au 0)=false:=by
   cases hb:Nat.beq r (au 0) with
   | true=>exact absurd (Nat.eq_of_beq_eq_true hb) hr
   | false=>rfl
  rw [this]; rfl
 have hs0:(bS (.jR (.sl e1 k1) ow wt :: rest) c).slots 0=.one (.ref (au 0) 0):=rfl
 have hsl:∀s,s≠0→Dh ((bS (.jR (.sl e1 k1) ow wt :: rest) c).slots s):=fun s hs=>by
  show Dh (rF (jl (.jR (.sl e1 k1) ow wt :: rest) 0 c) s)
  simp only [jl,rF]
  cases hb:Nat.beq s 0 with
  | true=>exact absurd (Nat.eq_of_beq_eq_true hb) hs
  | false=>exact zC hrest s
 obtain ⟨dR,dG,iB,i0,is,g1,g2,g3,g4,VD⟩:=Qj H hw (R0:={ aO (.sl e1 k1) c.1 ow [] .anon true with fixed:=true }) rfl hR0 ng rfl rfl hown (Ra e (by simp [K.tys])) hs0 hsl (x':=x') hR hnd hn0 hown' rfl
 have hst:az (bS (.jR (.sl e1 k1) ow wt :: rest) c) (au 0) { ({ aO (.sl e1 k1) c.1 ow [] .anon true with fixed:=true }:Root) with k:=.sl e2 k2,x:=x' }=bS (.jR (.sl e2 k2) ow rU :: rest) (x',c.2):=by
  unfold az bS
  congr 1
  funext r
  show upd (bS (.jR (.sl e1 k1) ow wt :: rest) c).roots (au 0) _ r=fZ (fU (.jR (.sl e2 k2) ow rU :: rest) 0 (x',c.2)) r
  simp only [fU,sU hrest,fZ,ha',cond_true]
  unfold upd
  cases hb:Nat.beq r (au 0) with
  | true=>rfl
  | false=>simp only [cond_false]; rw [Co,hb]; rfl
 rw [hst] at VD
 have Rc:∀j,(∃k,xO (.jR (.sl e1 k1) ow wt :: rest) j k)→∃k,xO (.jR (.sl e2 k2) ow rU :: rest) j k:=by
  rintro j ⟨k0,o1,o2,o3,h⟩
  cases j with
  | zero=>exact ⟨.sl e2 k2,ow,rU,[], .inr rfl⟩
  | succ j=>exact ⟨k0,o1,o2,o3,by simpa using h⟩
 have hP':En (Jz cx (aQ dR)) (.jR (.sl e2 k2) ow rU :: rest):=by
  refine ⟨fun j DJ hj hkp=>?_,fun j p ts v h=>h.elim,fun j v h=>Rc j (hP.ref j v h)⟩
  obtain ⟨pi,hj',rfl⟩:=mX (cx:=cx) hj
  exact Rc j (hP.par j pi hj' hkp)
 have h:=hE (gp fr iB i0 is) (x',c.2) out' hF' (Jz cx (aQ dR)) _ args w hnt hw hsz hP' VD
 have hpost:∀v w', @Post (gp fr iB i0 is) (Jz cx (aQ dR)) (.jR (.sl e2 k2) ow rU :: rest) [.into 0 []] out' v w'→@Post fr cx (.jR (.sl e1 k1) ow wt :: rest) [.into 0 []] out v w':=by
  rintro v w' ⟨σ1,dK,F1,a1,vs,bz,H1,rfl,hL,hfn,OX,hOut,_⟩
  obtain ⟨Q,q1,q2,⟨ek,ey⟩,q4,q5,_⟩:=hOut
  have hRQ:=Q3 ek ey hRP
  obtain ⟨qo,t3,t4⟩:=select (dR:=dR) (ns:=ms) (fun m hm=>by rw [g1]; exact hsub m hm)
  have xR:=q5
  unfold BV at xR
  simp only [Bool.and_eq_true] at xR
  obtain ⟨⟨⟨⟨l1,l2⟩,_⟩,_⟩,l5⟩:=xR
  have hg0:Q.g=0:=Nat.eq_of_beq_eq_true l5
  have htr:∀{l:List Nat},lN l rU=true→lN l wt=true:=fun hl=>jo.2 fun t ht=>jo.1 hwt t (jo.1 hl t ht)
  cases vs with
  | nil=>exact hL.elim
  | cons v vs=>
   cases bz with
   | nil=>exact hL.elim
   | cons fo bz=>
    obtain ⟨⟨rfl,_,b,m,cp,e3,e4,e5⟩,hL2⟩:=hL
    cases vs with
    | cons _ _=>cases bz <;> exact hL2.elim
    | nil=>
     cases bz with
     | cons _ _=>exact hL2.elim
     | nil=>
      obtain ⟨hQn,hQV⟩:=e5 Q ⟨q1,q2.1⟩ hg0
      have r1:=TB (fr:=fr) H hw (R0:={ aO (.sl e1 k1) c.1 ow [] .anon true with fixed:=true }) rfl hR0 ng rfl rfl ⟨rfl,rfl⟩ hown hown' Ra g2 (by rw [g1]; exact hnd) g3 g4 H1 q1 q2 ek (fun t ht=>by
        have:=List.all_eq_true.1 q4 t ht
        rw [hown' t ht] at this
        simpa using this) hQn hg0 (wt:=wt) ⟨htr l1,htr l2⟩ (y:=out.2.1) (qo:=qo) (by rw [t3]; exact hRQ) t4 (by rw [t3]; exact hmm) (fun j p ts v h hj=>by
         obtain ⟨k0,⟨o1,o2,o3,h1⟩,h2⟩:=hP.ptr j p ts v h
         subst hj
         rcases h1 with h1 | h1
         ·simp at h1
         ·simp only [List.getElem?_cons_zero,Option.some.injEq,dL.jR.injEq] at h1
          rw [h2, ←h1.1]; rfl)
      refine ⟨_,_,[],a1,[v],[[]],r1,rfl,⟨⟨rfl,rfl,b,m,cp, ?_, ?_, ?_⟩,trivial⟩,by simp,by simp,⟨_,uo,⟨rfl,rfl⟩,⟨rfl,rfl⟩, ?_, ?_, .inl ha⟩,DR hrest⟩
      ·have hI:(show Int from (Cont.fst (gZ [nP.into 0 []]) _ out).1)=(show Int from (Cont.fst (gZ [nP.into 0 []]) _ out').1):=hRI
       rw [hI]; exact e3
      ·have hI:(show Int from (Cont.fst (gZ [nP.into 0 []]) _ out).1)=(show Int from (Cont.fst (gZ [nP.into 0 []]) _ out').1):=hRI
       rw [hI]; exact e4
      ·intro R' hR' _
       obtain ⟨_,rfl⟩:=ql hR'.1
       refine ⟨rfl, ?_⟩
       have ek:Q.k=.sl e2 k2:=ek
       rw [ek] at hQV
       exact UW hQV
      ·exact List.all_eq_true.2 fun t _=>by simp [kI]; rfl
      ·unfold BV kI
       simp only [lN,List.all_nil,Bool.and_eq_true,List.all_eq_true]
       exact ⟨⟨⟨⟨fun x hx=>aJ.2 hx,trivial⟩,fun x hx=>aJ.2 hx⟩,fun x hx=>aJ.2 hx⟩,rfl⟩
 rcases h with ⟨h1,h2⟩ | ⟨v,w',h1,h2⟩
 ·refine .inl ⟨h1,h2.mono ?_⟩
  rintro e w' ⟨v,rfl,hv⟩
  exact ⟨v,rfl,hpost v w' hv⟩
 ·exact .inr ⟨v,w',h1,hpost v w' h2⟩
end Go.Proofs.YtailcbngagacaaaGreat.Ow
