/- A verified reading of translated code: values in place of memory; part F of 6, spaces and remarks taken out. No condition. Own work of this seat. -/
import Derived.Test.YtdknpknohipffaaGreatOwE
set_option linter.unusedSectionVars false
set_option linter.unusedVariables false
set_option linter.unusedSimpArgs false
namespace Go.Proofs.YtdknpknohipffaaGreat.Ow
section
open Go
structure XY where
 ty:List (TypeId×K)
 bytes:List (TypeId×Nat)
 ptr:List TypeId
 ids:Bool:=false
def look {A:Type} (n:Nat):List (Nat×A)→Option A
 | []=>none
 | (m,a) :: l=>bif Nat.beq n m then some a else look n l
def ac2 (n:Nat):List (Nat×Nat)→Nat
 | []=>0
 | (m,a) :: l=>bif Nat.beq n m then a else ac2 n l
def XY.tab (L:XY):ji:={ ty:=fun t=>look t L.ty,bytes:=fun t=>ac2 t L.bytes,ptr:=fun t=>ay t L.ptr,eq:=fun _=>false,ids:=L.ids }
def ZH:K→Value→Bool
 | .int ik, .int jk (.ofNat 0)=>Bc ik jk
 | .bool, .bool false=>true
 | .str, .string s=>Nat.beq s.data.size 0
 | .sl _ _, .slice none 0 0=>true
 | .id _, .slice none 0 0=>true
 | _,_=>false
def PS:K→List Value→Option (List Value)
 | .pair a b,l=>match PS a l with
  | some m=>PS b m
  | none=>none
 | .unit,l=>some l
 | .st f,l=>PS f l
 | .gap _,_=>none
 | k,v :: l=>bif ZH k v then some l else none
 | _,[]=>none
def isZ:K→Value→Bool
 | .st f, .agg arr=>match PS f arr.toList with
  | some []=>true
  | _=>false
 | .st _,_=>false
 | k,v=>ZH k v
def xV (P:Program) (t:TypeId) (k:K):Bool:=match P.info? t with
 | some i=>Nat.beq i.size k.size && (match i.zero with
  | some v=>isZ k v
  | none=>false)
 | none=>false
def mR (P:Program) (T:ji):K→(TypeId→Bool)×(List Field→Nat→Bool)
 | .int ik=>(fun t=>(match P.underlying t with
  | some (.int jk)=>Bc ik jk
  | _=>false) && xV P t (.int ik),fun _ _=>false)
 | .bool=>(fun t=>(match P.underlying t with
  | some .bool=>true
  | _=>false) && xV P t .bool,fun _ _=>false)
 | .str=>(fun t=>(match P.underlying t with
  | some .string=>true
  | _=>false) && xV P t .str,fun _ _=>false)
 | .sl e k=>(fun t=>(match P.underlying t with
  | some (.slice e')=>Nat.beq e e'
  | _=>false) && xV P t (.sl e k) && (mR P T k).1 e && Nat.blt 0 k.size && (match P.info? e with
  | some i=>Nat.beq i.bytes (T.bytes e) && Nat.blt 0 i.bytes
  | none=>false),fun _ _=>false)
 | .unit=>(fun _=>false,fun fs _=>fs.isEmpty)
 | .pair a b=>(fun _=>false,fun fs off=>match fs with
  | []=>false
  | f :: fs=>Nat.beq f.offset off && (mR P T a).1 f.type && Nat.blt 0 a.size && (mR P T b).2 fs (off+a.size))
 | .st c=>(fun t=>(match P.underlying t with
  | some (.struct fs)=>(mR P T c).2 fs.toList 0
  | _=>false) && xV P t (.st c),fun _ _=>false)
 | .gap _=>(fun _=>false,fun _ _=>false)
 | .id e=>(fun t=>(match P.underlying t with
  | some (.slice e')=>Nat.beq e e'
  | _=>false) && xV P t (.id e) && T.ids,fun _ _=>false)
def CO (P:Program) (L:XY):Bool:=L.ty.all (fun q=>(mR P L.tab q.2).1 q.1) && L.ptr.all fun t=>match P.underlying t with
 | some (.pointer _)=>true
 | _=>false
section
variable [Fr] {P:Program} {T:ji}
theorem Vy {k:K} {v:Value} (h:ZH k v=true):bV k=[v]∧sP k=v:=by
 unfold ZH at h
 split at h
 ·have:=Cg h; subst this; exact ⟨rfl,rfl⟩
 ·exact ⟨rfl,rfl⟩
 ·rename_i s
  have:s=ByteArray.empty:=by
   have h1:=aph h
   obtain ⟨d⟩:=s
   have:d=#[]:=Array.eq_empty_of_size_eq_zero h1
   subst this
   rfl
  subst this
  exact ⟨rfl,rfl⟩
 ·exact ⟨rfl,rfl⟩
 ·exact ⟨rfl,rfl⟩
 ·simp at h
theorem abQ:∀{k:K} {l m:List Value},PS k l=some m→l=bV k++m:=by
 intro k
 have one:∀{k:K} {l m:List Value},(match l with | v :: l=>(bif ZH k v then some l else none) | []=>none)=some m→l=bV k++m:=by
  intro k l m h
  cases l with
  | nil=>simp at h
  | cons v l=>
   obtain ⟨hb,h⟩:=uI h
   simp only [apd] at h
   subst h
   rw [(Vy hb).1]
   rfl
 induction k with
 | pair a b iha ihb=>
  intro l m h
  simp only [PS] at h
  split at h
  ·rename_i q hq
   rw [iha hq,ihb h]
   simp [bV]
  ·simp at h
 | unit=>intro l m h; simp only [PS,apd] at h; subst h; rfl
 | st f ih=>intro l m h; exact ih (show PS f l=some m from h)
 | gap n=>intro l m h; simp [PS] at h
 | int ik=>intro l m h; exact one (k:=.int ik) (by cases l <;> exact h)
 | bool=>intro l m h; exact one (k:=.bool) (by cases l <;> exact h)
 | id e=>intro l m h; exact one (k:=.id e) (by cases l <;> exact h)
 | str=>intro l m h; exact one (k:=.str) (by cases l <;> exact h)
 | sl e k _=>intro l m h; exact one (k:=.sl e k) (by cases l <;> exact h)
theorem aeQ {k:K} {v:Value} (h:isZ k v=true):sP k=v:=by
 unfold isZ at h
 split at h
 ·rename_i f arr
  split at h
  ·rename_i hz
   have:=abQ hz
   simp only [apH] at this
   show Value.agg (bV f).toArray=.agg arr
   rw [←this]
  ·simp at h
 ·simp at h
 ·exact (Vy h).2
theorem tO {t:TypeId} {k:K} (h:xV P t k=true):sV P t k:=by
 unfold xV at h
 split at h
 ·rename_i i hi
  simp only [apj] at h
  obtain ⟨h1,h2⟩:=h
  split at h2
  ·rename_i v hv
   exact ⟨i,hi,aph h1,by rw [hv,aeQ h2]⟩
  ·simp at h2
 ·simp at h
theorem TC {a b:Nat} (h:Nat.blt a b=true):a<b:=by
 unfold Nat.blt at h
 exact Nat.le_of_ble_eq_true h
theorem aaG:∀{k:K},(∀t,(mR P T k).1 t=true→(jU P T k).1 t)∧∀fs off,(mR P T k).2 fs off=true→(jU P T k).2 fs off:=by
 intro k
 induction k with
 | int ik=>
  refine ⟨fun t h=>?_,fun fs off h=>by simp [mR] at h⟩
  simp only [mR,apj] at h
  obtain ⟨h1,h2⟩:=h
  split at h1
  ·rename_i jk hu
   have:=Cg h1; subst this
   exact ⟨hu,tO h2⟩
  ·simp at h1
 | bool=>
  refine ⟨fun t h=>?_,fun fs off h=>by simp [mR] at h⟩
  simp only [mR,apj] at h
  obtain ⟨h1,h2⟩:=h
  split at h1
  ·rename_i hu; exact ⟨hu,tO h2⟩
  ·simp at h1
 | str=>
  refine ⟨fun t h=>?_,fun fs off h=>by simp [mR] at h⟩
  simp only [mR,apj] at h
  obtain ⟨h1,h2⟩:=h
  split at h1
  ·rename_i hu; exact ⟨hu,tO h2⟩
  ·simp at h1
 | sl e k ih=>
  refine ⟨fun t h=>?_,fun fs off h=>by simp [mR] at h⟩
  simp only [mR,apj] at h
  obtain ⟨⟨⟨⟨h1,h2⟩,h3⟩,h4⟩,h5⟩:=h
  split at h1
  ·rename_i e' hu
   have:=aph h1; subst this
   split at h5
   ·rename_i i hi
    simp only [apj] at h5
    exact ⟨hu,tO h2,ih.1 e h3,TC h4,i,hi,aph h5.1,TC h5.2⟩
   ·simp at h5
  ·simp at h1
 | unit=>exact ⟨fun t h=>by simp [mR] at h,fun fs off h=>show fs=[] by simpa [mR] using h⟩
 | gap n=>exact ⟨fun t h=>by simp [mR] at h,fun fs off h=>by simp [mR] at h⟩
 | id e=>
  refine ⟨fun t h=>?_,fun fs off h=>by simp [mR] at h⟩
  simp only [mR,apj] at h
  obtain ⟨⟨h1,h2⟩,h3⟩:=h
  split at h1
  ·rename_i e' hu
   have:=aph h1; subst this
   exact ⟨hu,tO h2,h3⟩
  ·simp at h1
 | pair a b iha ihb=>
  refine ⟨fun t h=>by simp [mR] at h,fun fs off h=>?_⟩
  cases fs with
  | nil=>simp [mR] at h
  | cons f fs=>
   simp only [mR,apj] at h
   obtain ⟨⟨⟨h1,h2⟩,h3⟩,h4⟩:=h
   exact ⟨aph h1,iha.1 _ h2,TC h3,ihb.2 _ _ h4⟩
 | st c ih=>
  refine ⟨fun t h=>?_,fun fs off h=>by simp [mR] at h⟩
  simp only [mR,apj] at h
  obtain ⟨h1,h2⟩:=h
  split at h1
  ·rename_i fs hu
   exact ⟨⟨fs,hu,ih.2 _ _ h1⟩,tO h2⟩
  ·simp at h1
theorem RV {A:Type} {n:Nat} {a:A}:∀{l:List (Nat×A)},look n l=some a→(n,a)∈l
 | [],h=>by simp [look] at h
 | (m,b) :: l,h=>by
  simp only [look] at h
  cases hb:Nat.beq n m with
  | true=>
   rw [hb] at h
   have:=aph hb
   simp only [cond_true,apd] at h
   subst this h
   simp
  | false=>
   rw [hb] at h
   exact .tail _ (RV h)
theorem UR {L:XY} (h:CO P L=true):fu P L.tab:=by
 unfold CO at h
 simp only [apj,apt] at h
 refine ⟨fun t k ht=>aaG.1 t (h.1 (t,k) (RV ht)),fun t ht=>?_⟩
 have:=h.2 t (aL.1 ht)
 split at this
 ·rename_i e he; exact ⟨e,he⟩
 ·simp at this
theorem aeZ {L:XY}:M8 P L.tab:=fun t c x y u v w hp1 hp2 ok1 ok2 _ he=>by simp [XY.tab] at he
end
end
section
open Go
abbrev DOk (T:ji) (hi:Hint) (fn:Func) (E:Entry):Prop:=∀n (c:Cont (kin E.ps)),abp T hi fn E.ps E.rs n c=E.F n c
variable [Fr] {P:Program} {n:Nat}
theorem aA:∀q∈([]:List (Nat×Option Nat×Entry)),ak P n q.2.2:=by simp
theorem aa {f:Nat} {d:Option Nat} {E:Entry} {l:List (Nat×Option Nat×Entry)} (h:ak P n E) (t:∀q∈l,ak P n q.2.2):∀q∈(f,d,E) :: l,ak P n q.2.2:=by
 intro q hq
 rcases apq.1 hq with rfl | hq
 ·exact h
 ·exact t q hq
theorem aj (hm:P.follows .mixedOrders=true) {L:XY} (hL:CO P L=true) {E:Entry} {fn:Func} (hf:P.funcs[E.f]?=some fn) (hname:(fn.name == "runtime.NumGoroutine")=false) {hi:Hint} (hC:∀q∈hi.calls,ak P n q.2.2)
  (hD:∀n (c:Cont (kin E.ps)),abp L.tab hi fn E.ps E.rs n c=E.F n c):ak P n E:=
 TR hm (UR hL) aeZ hf hname hC (fun c out h=>by rw [hD]; exact h)
end
section
open Go
def fH {A:Type} (xs:List A) (i:Nat) (d:A) (f:A→A):List A:=xs.set i (f (xs.getD i d))
def bX {R:Type} (step:Nat→Option R) (fin:R):Nat→Nat→R
 | 0,_=>fin
 | m+1,i=>match step i with
  | some r=>r
  | none=>bX step fin m (i+1)
theorem UH {V R:Type} {B:(V→Option R)→V→Option R} (S:Nat→V) (step:Nat→Option (Option R)) (fin:Option R) {m:Nat} (h1:∀L i,i<m→(∀j,j<i→step j=none)→B L (S i)=match step i with | some r=>r | none=>L (S (i+1))) (h2:∀L,(∀j,j<m→step j=none)→B L (S m)=fin) :
  ∀(d i n:Nat),i+d=m→d<n→(∀j,j<i→step j=none)→rounds B n (S i)=bX step fin d i:=by
 intro d
 induction d with
 | zero=>
  intro i n hi hn hp
  cases n with
  | zero=>omega
  | succ n=>
   have:i=m:=by omega
   subst this
   exact h2 _ hp
 | succ d ih=>
  intro i n hi hn hp
  cases n with
  | zero=>omega
  | succ n=>
   show B (rounds B n) (S i)=_
   rw [h1 _ i (by omega) hp]
   unfold bX
   cases hs:step i with
   | some r=>rfl
   | none=>exact ih (i+1) n (by omega) (by omega) (fun j hj=>by
     by_cases e:j=i
     ·rw [e,hs]
     ·exact hp j (by omega))
theorem aM {V R:Type} {B:(V→Option R)→V→Option R} {v0:V} (S:Nat→V) (step:Nat→Option (Option R)) (fin:Option R) {m n:Nat} (h0:v0=S 0) (hn:m<n) (h1:∀L i,i<m→(∀j,j<i→step j=none)→B L (S i)=match step i with | some r=>r | none=>L (S (i+1))) (h2:∀L,(∀j,j<m→step j=none)→B L (S m)=fin) :
  rounds B n v0=bX step fin m 0:=by
 rw [h0]
 exact UH S step fin h1 h2 m 0 n (by omega) hn (fun j h=>by omega)
theorem Ww {A:Type} (d:A) {xs:List A} {i:Nat} (h:i<xs.length):(xs.take i++List.replicate (xs.length - i) d).set ((i:Int).toNat) xs[i]=xs.take (i+1)++List.replicate (xs.length - (i+1)) d:=by
 rw [apn]
 apply List.ext_getElem
 ·simp; omega
 ·intro j h1 h2
  rw [List.getElem_set]
  split
  ·rename_i e
   subst e
   rw [List.getElem_append_left (by simp; omega)]
   simp
  ·rename_i e
   simp only [List.getElem_append,List.length_take,List.getElem_take,List.getElem_replicate]
   split <;> split <;> first | rfl | omega
theorem dR {A:Type} {l:List A} {i:Nat} (h:i<l.length) (d:A):l.getD ((i:Int).toNat) d=l[i]:=by
 simp [h]
theorem bG {R:Type} {step:Nat→Option R} {fin:R}:∀{m i:Nat},(∀j,i≤j→j<i+m→step j=none)→bX step fin m i=fin:=by
 intro m
 induction m with
 | zero=>intro i _; rfl
 | succ m ih=>
  intro i h
  unfold bX
  rw [h i (apu _) (by omega)]
  exact ih (fun j h1 h2=>h j (by omega) (by omega))
theorem PE {R:Type} {s1 s2:Nat→Option R} {f1 f2:R} (hf:f1=f2):∀{m i:Nat},(∀j,i≤j→j<i+m→s1 j=s2 j)→bX s1 f1 m i=bX s2 f2 m i:=by
 intro m
 induction m with
 | zero=>intro i _; exact hf
 | succ m ih=>
  intro i h
  unfold bX
  rw [h i (apu _) (by omega)]
  cases s2 i with
  | some r=>rfl
  | none=>exact ih (fun j h1 h2=>h j (by omega) (by omega))
theorem FB {R:Type} {step:Nat→Option R} {fin r:R} (hc:∀j,step j=none∨step j=some r):∀{m i:Nat},bX step fin m i=r∨bX step fin m i=fin:=by
 intro m
 induction m with
 | zero=>intro i; exact .inr rfl
 | succ m ih=>
  intro i
  unfold bX
  rcases hc i with h | h
  ·rw [h]; exact ih
  ·rw [h]; exact .inl rfl
theorem wrap_i64 {x:Int} (h1 : -9223372036854775808≤x) (h2:x≤9223372036854775807):IntKind.i64.wrap x=x:=by
 simp [IntKind.wrap,IntKind.bits,IntKind.signed]
 omega
theorem aN {i:Nat} {n:Nat} (h:i<n) (hn:n≤9223372036854775807):IntKind.i64.wrap ((i:Int)+1)=((i+1:Nat):Int):=by
 rw [wrap_i64 (by omega) (by omega)]
 omega
theorem aG {i n:Nat} (h:i<n):aH (i:Int) n:=⟨by omega,by omega⟩
end
section
open Go
variable [Fr]
section
variable {P:Program} {cx:Cx} {σ:St} {α:dK} {F:List Nat} {a:Act} {w w':World}
theorem Rel.grown (H:Rel cx σ α F a w) (hO:QD w w') (ht:w'.tape=w.tape):Rel cx σ α F a w':=H.YW hO.1 hO.2.1 hO.2.2.1 hO.2.2.2 ht
end
end
section
open Go
variable [Fr]
section
variable {P:Program} {cx:Cx} {σ:St} {α:dK} {F:List Nat} {a:Act} {w w':World}
theorem Rel.aeb (H:Rel cx σ α F a w) (hO:QD w w') (ht:w'.tape=w.tape) (G:List Nat) (hG:∀b∈G,w.heap.size≤b∧b<w'.heap.size) (hnd:G.Nodup):Rel cx σ α (G++F) a w':=by
 have hs:∀r,Same σ α σ α r:=fun r=>⟨rfl,rfl,rfl,rfl⟩
 have hch:∀b,b<w.heap.size→hp w' b=hp w b:=hO.2.2.2
 have T:nE cx σ α F w σ α (G++F) w' (fun _=>[]) (fun _=>[]):=by
  refine ⟨rfl,⟨hO.1,ht,hO.2.1⟩,hO.2.2.1,fun r R hr=>⟨R,hr, ?_⟩,fun r R' _ h=>absurd (hs r) h,fun r R' h1 h2=>by rw [h1] at h2; simp at h2,fun b hb hne=>absurd (hch b hb) hne, ?_, ?_,
   fun r R' _ h=>absurd (hs r) h,fun r R r' R' _ _ _ h=>absurd (hs r) h, ?_,fun r R R' h1 h2 _=>by rw [h1] at h2; simp only [apd] at h2; subst h2; exact ⟨rfl,rfl⟩⟩
  ·cases hd:R.aX with
   | true=>exact .inl ⟨rfl,fun hk=>by unfold Root.aX at hd; rw [hk] at hd; simp at hd⟩
   | false=>exact .inr ⟨rfl,rfl,rfl,apu _,rfl,rfl,fun _=>rfl, .inr ⟨rfl,rfl,hs r⟩⟩
  ·rintro b (⟨r,R,h1,h2,h3⟩ | h)
   ·exact absurd ⟨R,h1,h2⟩ h3
   ·rcases apm.1 h with h | h
    ·exact .inr (.inl (hG b h))
    ·exact .inl h
  ·refine apk.2 ⟨hnd,H.Ca,fun b h1 c h2 e=>?_⟩
   have:=(hG b h1).1
   have:=(H.fl c h2).1
   omega
  ·intro j pi b o n h1 h2 hne
   obtain ⟨R,hR,hk,hl,_⟩:=H.mQ j pi b o n h1 h2
   exact absurd (hch b ((H.roots _ R hR).mine b (by simp [blk,eB,hk,hl])).1) hne
 exact H.turn T (fun r R _ h=>absurd (hs r) h) (fun r R _ h=>absurd (hs r) h) (fun r R _ h=>absurd (hs r) h)
def QA:(ps:List cZ)→Cont (kin ps)→List Value→Prop
 | [],_,[]=>True
 | .val k _ :: ps,c,v :: vs=>(∃cs,VC k v cs∧Vw (fun _=>none) (fun _=>False) k c.1 cs)∧QA ps c.2 vs
 | .fn f [] :: ps,c,v :: vs=>v=.func (.func f) #[] #[]∧QA ps c vs
 | .into _ [] :: ps,c,v :: vs=>(∃b,v=.slice b 0 0)∧QA ps c vs
 | _,_,_=>False
def jX:List cZ→Bool
 | []=>true
 | .val k _ :: ps=>k.flat && jX ps
 | .fn _ [] :: ps=>jX ps
 | .into _ [] :: ps=>jX ps
 | _=>false
theorem Aw:∀{ps:List cZ} {i:Nat} {c:Cont (kin ps)} {vs:List Value},jX ps=true→vs.length=ps.length→(∀j v,vs[j]?=some v→jT cx σ α F w (iG (eT ps i c) (i+j)) v)→QA ps c vs
 | [],_,_,[],_,_,_=>trivial
 | [],_,_,_ :: _,_,h,_=>by simp at h
 | .val k l :: ps,i,c,[],_,h,_=>by simp at h
 | .val k l :: ps,i,c,v :: vs,hf,hl,h=>by
  simp only [jX,apj] at hf
  have h0:=h 0 v rfl
  have e0:iG (eT (.val k l :: ps) i c) (i+0)=.one (.val k c.1 (bif k.flat then [] else (qp i,0) :: l.map fun j=>(au j,0))):=by
   simp only [eT,iG,Nat.add_zero]
   rw [show Nat.beq i i=true from Nat.beq_refl i]
   rfl
  rw [e0] at h0
  obtain ⟨cs,h1,h2⟩:=h0 (.inl hf.1)
  refine ⟨⟨cs,h1,iA hf.1 h2⟩,Aw (i:=i+1) hf.2 (by simpa using hl) fun j u hu=>?_⟩
  have hj:=h (j+1) u (by simpa using hu)
  have e1:iG (eT (.val k l :: ps) i c) (i+(j+1))=iG (eT ps (i+1) c.2) (i+1+j):=by
   simp only [eT,iG]
   have hb:Nat.beq (i+(j+1)) i=false:=by
    cases hb:Nat.beq (i+(j+1)) i with
    | true=>have:=aph hb; omega
    | false=>rfl
   rw [hb,show i+(j+1)=i+1+j by omega]
   rfl
  rw [e1] at hj
  exact hj
 | .fn f [] :: ps,i,c,[],_,h,_=>by simp at h
 | .fn f [] :: ps,i,c,v :: vs,hf,hl,h=>by
  have hf':jX ps=true:=hf
  have h0:=h 0 v rfl
  have e0:iG (eT (.fn f [] :: ps) i c) (i+0)=.one (.fn f []):=by
   simp only [eT,iG,Nat.add_zero]
   rw [show Nat.beq i i=true from Nat.beq_refl i]
   rfl
  rw [e0] at h0
  obtain ⟨us,h1,h2⟩:=h0
  refine ⟨?_,Aw (i:=i+1) hf' (by simpa using hl) fun j u hu=>?_⟩
  ·cases us with
   | nil=>exact h1
   | cons u us=>exact h2.elim
  ·have hj:=h (j+1) u (by simpa using hu)
   have e1:iG (eT (.fn f [] :: ps) i c) (i+(j+1))=iG (eT ps (i+1) c) (i+1+j):=by
    simp only [eT,iG]
    have hb:Nat.beq (i+(j+1)) i=false:=by
     cases hb:Nat.beq (i+(j+1)) i with
     | true=>have:=aph hb; omega
     | false=>rfl
    rw [hb,show i+(j+1)=i+1+j by omega]
    rfl
   rw [e1] at hj
   exact hj
 | .fn f (_ :: _) :: _,_,_,_,hf,_,_=>by simp [jX] at hf
 | .ro _ :: _,_,_,_,hf,_,_=>by simp [jX] at hf
 | .rw _ _ _ _ :: _,_,_,_,hf,_,_=>by simp [jX] at hf
 | .jl _ _ _ :: _,_,_,_,hf,_,_=>by simp [jX] at hf
 | .own _ _ :: _,_,_,_,hf,_,_=>by simp [jX] at hf
 | .into _ [] :: ps,i,c,[],_,h,_=>by simp at h
 | .into m [] :: ps,i,c,v :: vs,hf,hl,h=>by
  have hf':jX ps=true:=hf
  have h0:=h 0 v rfl
  have e0:iG (eT (.into m [] :: ps) i c) (i+0)=.one .iQ:=by
   simp only [eT,iG,Nat.add_zero]
   rw [show Nat.beq i i=true from Nat.beq_refl i]
   rfl
  rw [e0] at h0
  refine ⟨h0,Aw (i:=i+1) hf' (by simpa using hl) fun j u hu=>?_⟩
  have hj:=h (j+1) u (by simpa using hu)
  have e1:iG (eT (.into m [] :: ps) i c) (i+(j+1))=iG (eT ps (i+1) c) (i+1+j):=by
   simp only [eT,iG]
   have hb:Nat.beq (i+(j+1)) i=false:=by
    cases hb:Nat.beq (i+(j+1)) i with
    | true=>have:=aph hb; omega
    | false=>rfl
   rw [hb,show i+(j+1)=i+1+j by omega]
   rfl
  rw [e1] at hj
  exact hj
 | .into _ (_ :: _) :: _,_,_,_,hf,_,_=>by simp [jX] at hf
theorem zn {σ:St}:∀{ps:List cZ} {i:Nat} {c:Cont (jL ps)},jX ps=true→Fh σ ps i c
 | [],_,_,_=>trivial
 | .val k l :: ps,i,c,hf=>by
  simp only [jX,apj] at hf
  exact zn (ps:=ps) (i:=i+1) (c:=c) hf.2
 | .fn f [] :: ps,i,c,hf=>zn (ps:=ps) (i:=i+1) (c:=c) hf
 | .fn f (_ :: _) :: _,_,_,hf=>by simp [jX] at hf
 | .ro _ :: _,_,_,hf=>by simp [jX] at hf
 | .rw _ _ _ _ :: _,_,_,hf=>by simp [jX] at hf
 | .jl _ _ _ :: _,_,_,hf=>by simp [jX] at hf
 | .own _ _ :: _,_,_,hf=>by simp [jX] at hf
 | .into _ [] :: ps,i,c,hf=>zn (ps:=ps) (i:=i+1) (c:=c) hf
 | .into _ (_ :: _) :: _,_,_,hf=>by simp [jX] at hf
def Yh (w w':World) (t:TypeId) (k:K) (xs:List (El k)) (v:Value):Prop:=
 (∃p,v=.slice p 0 0∧xs=[])∨∃g cap cur,v=.slice (some ⟨g,0,none⟩) xs.length cap∧w.heap.size≤g∧hp w' g=some (.cells cur t (0,0))∧xs.length≤cap∧cap * k.size≤cur.size∧
  ∀(i:Nat) (hi:i<xs.length),∃ds,Cells (hp w') g (i * k.size) ds∧Vw (fun _=>none) (fun _=>False) k xs[i] ds
theorem Po {n:Nat} {f:FuncId} {ps:List cZ} {t:TypeId} {k:K} {E:Nat→Cont (kin ps)→Option (Cont (ig [.own (.sl t k) [t] [] []]++jL ps))} (hps:jX ps=true) (hk:k.flat=true)
  (h:∀c out,E n c=some out→∀(args:Array Value) (w:World),(∀b,Fr.free b→hp w b=Fr.obj b)→QA ps c args.toList→Gq P f args w fun v w'=>QD w w'∧w'.tape=w.tape∧Yh w w' t k out.1 v) :
  ak P n ⟨f,ps,[.own (.sl t k) [t] [] []],E⟩:=by
 intro c out hout cx α args w _ _ hsz _ H
 have hA:=Aw (cx:=cx) (σ:=bS ps c) (α:=α) (F:=[]) (w:=w) (i:=0) (c:=c) (vs:=args.toList) hps (by simpa using hsz) (fun j v hv=>by
  have:=H.slots j
  rw [Array.getElem?_toList] at hv
  rw [Array.getD_eq_getD_getElem?,hv] at this
  rw [Nat.zero_add]
  exact this)
 have hkt:k.tys=[]:=wL hk
 have hpost:∀v w',(QD w w'∧w'.tape=w.tape∧Yh w w' t k out.1 v)→Post cx ps [.own (.sl t k) [t] [] []] out v w':=by
  rintro v w' ⟨h1,h2,h3⟩
  have hall:((K.sl t k).tys.all fun u=>ay u [t])=true:=by simp [K.tys,hkt,ay]
  rcases h3 with ⟨p,rfl,hx⟩ | ⟨g,cap,cur,rfl,g1,g2,g3,g4,g5⟩
  ·refine ⟨_,α,[],_,[_],[[]],H.grown h1 h2,rfl,⟨⟨[],[.slice p 0 0],[t], .inl hall,fun _ _ h=>h,CL, ?_⟩,trivial⟩,by simp,fun b hb=>by simp at hb,zn hps⟩
   have e:(Cont.fst (ig [jy.own (.sl t k) [t] [] []]) (jL ps) out).1=([]:List (El k)):=hx
   rw [e]
   exact zC
  ·have hlt:g<w'.heap.size:=ahX g2
   refine ⟨_,α,[g],_,[_],[[g]],H.aeb h1 h2 [g] (fun b hb=>by simp only [apx] at hb; subst hb; exact ⟨g1,hlt⟩) (by simp),rfl,⟨⟨[],[.slice (some ⟨g,0,none⟩) _ cap],[t], .inl hall,fun _ _ h=>h,⟨rfl,by simp⟩, ?_⟩,trivial⟩,by simp,fun b hb=>by simpa using hb,zn hps⟩
   have e:(Cont.fst (ig [jy.own (.sl t k) [t] [] []]) (jL ps) out).1=out.1:=rfl
   rw [e]
   unfold Ow
   rw [if_pos (by simp [ay])]
   refine ⟨some ⟨g,0,none⟩,_,cap,rfl,rfl,g3, .inr ⟨g,0,cur,0,0,rfl,g2,fun i _=>by omega,by omega,List.replicate (@List.length (El k) out.1) [],by simp,by simp,fun i hi=>?_⟩⟩
   obtain ⟨ds,d1,d2⟩:=g5 i hi
   refine ⟨ds,by rw [Nat.zero_add]; exact d1, ?_⟩
   have:(List.replicate (@List.length (El k) out.1) ([]:List Nat)).getD i []=[]:=by
    rw [apr,List.getElem?_replicate]
    split <;> rfl
   rw [this]
   exact oZ (fun u hu=>by rw [hkt] at hu; simp at hu) (iA hk d2)
 rcases h c out hout args w (fun b hb=>H.fixed hb) hA with ⟨h1,h2⟩ | ⟨v,w',h1,h2⟩
 ·refine .inl ⟨h1,h2.mono ?_⟩
  rintro e w' ⟨v,rfl,hv⟩
  exact ⟨v,rfl,hpost v w' hv⟩
 ·exact .inr ⟨v,w',h1,hpost v w' h2⟩
end
end
section
open Go
variable [Fr]
section
variable {P:Program} {cx:Cx} {σ:St} {α:dK} {F:List Nat} {a:Act} {w w':World}
end
end
section
open Go
section
variable {e:TypeId} {kk:K}
def Rw (e:TypeId) (kk:K) (z:Bool) (tb:Nat→List (El kk)):(k k':K)→El k→El k'→List Nat→Prop
 | .sl f k, .id f',xs,i,ns=>f=e∧f'=e∧∃h:k=kk,h▸(show List (El k) from xs)=tb i∧((i≠(0:Nat)∧ns=[i])∨(z=true∧i=(0:Nat)∧tb 0=[]∧ns=[]))
 | .sl f k, .sl f' k',xs,ys,ns=>f=f'∧k'.size=k.size∧(show List (El k) from xs).length=(show List (El k') from ys).length∧∃nss:List (List Nat),nss.length=(show List (El k) from xs).length∧ns=nss.flatten∧
   ∀(i:Nat) (h1:i<(show List (El k) from xs).length) (h2:i<(show List (El k') from ys).length),Rw e kk z tb k k' ((show List (El k) from xs)[i]) ((show List (El k') from ys)[i]) (nss.getD i [])
 | .pair a b, .pair a' b',x,y,ns=>∃n1 n2,ns=n1++n2∧Rw e kk z tb a a' x.1 y.1 n1∧Rw e kk z tb b b' x.2 y.2 n2
 | .st f, .st f',x,y,ns=>Rw e kk z tb f f' x y ns
 | .int ik, .int jk,x,y,ns=>ik=jk∧(show Int from x)=y∧ns=[]
 | .bool, .bool,x,y,ns=>(show Bool from x)=y∧ns=[]
 | .str, .str,x,y,ns=>(show List Int from x)=y∧ns=[]
 | .unit, .unit,_,_,ns=>ns=[]
 | _,_,_,_,_=>False
theorem Rw.size {z:Bool} {tb:Nat→List (El kk)}:∀{k k':K} {x:El k} {y:El k'} {ns:List Nat},Rw e kk z tb k k' x y ns→k'.size=k.size:=by
 intro k
 induction k with
 | sl f k ih=>intro k' x y ns h; cases k' <;> first | rfl | exact h.elim
 | pair a b iha ihb=>
  intro k' x y ns h
  cases k' with
  | pair a' b'=>unfold Rw at h; obtain ⟨n1,n2,_,h1,h2⟩:=h; simp [K.size,iha h1,ihb h2]
  | _=>exact h.elim
 | st f ih=>
  intro k' x y ns h
  cases k' with
  | st f'=>unfold Rw at h; exact ih (k':=f') (x:=x) (y:=y) (ns:=ns) h
  | _=>exact h.elim
 | int ik=>intro k' x y ns h; cases k' <;> first | rfl | exact h.elim
 | bool=>intro k' x y ns h; cases k' <;> first | rfl | exact h.elim
 | str=>intro k' x y ns h; cases k' <;> first | rfl | exact h.elim
 | unit=>intro k' x y ns h; cases k' <;> first | rfl | exact h.elim
 | gap n=>intro k' x y ns h; cases k' <;> exact h.elim
 | id f=>intro k' x y ns h; cases k' <;> exact h.elim
abbrev NF:=Nat×Value×List Nat
def aS (l:List NF):List Nat:=l.flatMap (·.2.2)
theorem EE:∀(l:List (List NF)),aS l.flatten=(l.map aS).flatten
 | []=>rfl
 | a :: l=>by
  simp only [List.flatten_cons,List.map_cons]
  unfold aS at *
  rw [List.flatMap_append]
  congr 1
  exact EE l
theorem En {A:Type}:∀{bz fs gs:List (List A)},fs.length=bz.length→gs.length=bz.length→(∀i,i<bz.length→(bz.getD i []).Perm (fs.getD i []++gs.getD i []))→bz.flatten.Perm (fs.flatten++gs.flatten)
 | [],[],[],_,_,_=>.refl _
 | f :: bz,[],_,h,_,_=>by simp at h
 | f :: bz,_ :: _,[],_,h,_=>by simp at h
 | [],_ :: _,_,h,_,_=>by simp at h
 | [],[],_ :: _,_,h,_=>by simp at h
 | f :: bz,a :: fs,b :: gs,h1,h2,h=>by
  have h0:=h 0 (by simp)
  have ht:=En (bz:=bz) (fs:=fs) (gs:=gs) (by simpa using h1) (by simpa using h2) (fun i hi=>by have:=h (i+1) (by simpa using hi); simpa using this)
  simp only [List.flatten_cons]
  have h0':f.Perm (a++b):=by simpa using h0
  refine (h0'.append ht).trans ?_
  simp only [apz]
  refine List.Perm.append_left a ?_
  rw [←apz, ←apz]
  exact List.Perm.append_right _ List.perm_append_comm
variable [fr:Fr]
abbrev gI (fr:Fr) (iN:Nat→Value) (h0:iN 0=.slice none 0 0) (hs:∀i,∃a n c,iN i=.slice a n c):Fr:=⟨fr.free,fr.obj,iN,h0,hs⟩
theorem QE {h:Heap} {own:List TypeId} {ok:Nat→Prop} {tb:Nat→List (El kk)}:∀{k k':K} {x:El k} {y:El k'} {ns:List Nat} {cs:List Value} {fo:List Nat},(∀t∈k.tys,ay t own=true)→
  Rw e kk false tb k k' x y ns→Ow h own ok k x cs fo→
  ∃(dX:List NF) (dJ:List Nat),dX.map (·.1)=ns∧fo.Perm (dJ++aS dX)∧(∀q∈dX,Ow h own ok (.sl e kk) (tb q.1) [q.2.1] q.2.2)∧
   ∀fr':Fr,fr'.free=fr.free→(∀q∈dX,fr'.iN q.1=q.2.1)→@Ow fr' h own ok k' y cs dJ:=by
 intro k
 induction k with
 | sl f k ih=>
  intro k' x y ns cs fo hown hR hO
  cases k' with
  | id f'=>
   obtain ⟨rfl,rfl,hk,hx,hi⟩:=hR
   subst hk
   rcases hi with ⟨_,rfl⟩ | ⟨hz,_⟩
   ·have LB:=hO
    unfold Ow at hO
    rw [if_pos (hown f' (by simp [K.tys]))] at hO
    obtain ⟨a,n,c,rfl,_⟩:=hO
    refine ⟨[(y, .slice a n c,fo)],[],rfl,by simp [aS],fun q hq=>?_,fun fr' _ amb=>⟨rfl, ?_⟩⟩
    ·simp only [apx] at hq
     subst hq
     show Ow h own ok (.sl f' k) (tb y:List (El k)) _ _
     rw [←hx]
     exact LB
    ·show _=[fr'.iN y]
     rw [amb _ (apx.2 rfl)]
   ·simp at hz
  | sl f' k'=>
   obtain ⟨rfl,hsz,hl,nss,hnl,rfl,hat⟩:=hR
   have hf:ay f own=true:=hown f (by simp [K.tys])
   unfold Ow at hO
   rw [if_pos hf] at hO
   obtain ⟨a,n,c,rfl,hn,hnc,hO⟩:=hO
   rcases hO with ⟨hc,rfl⟩ | ⟨b,o,arr,lo,hi,rfl,hb,hfz,hoc,bz,hfl,hfo,hel⟩
   ·have h0:(show List (El k) from x).length=0:=by omega
    refine ⟨[],[], ?_,by simp [aS],fun q hq=>by simp at hq,fun fr' _ _=>?_⟩
    ·have:nss=[]:=List.length_eq_zero_iff.1 (by omega)
     rw [this]; rfl
    ·unfold Ow
     rw [if_pos hf]
     exact ⟨a,n,c,rfl,by omega,hnc, .inl ⟨hc,rfl⟩⟩
   ·have hone:∀i,i<(show List (El k) from x).length→∃q:List NF×List Nat,∀(h1:i<(show List (El k) from x).length) (h2:i<(show List (El k') from y).length),q.1.map (·.1)=nss.getD i []∧(bz.getD i []).Perm (q.2++aS q.1)∧(∀t∈q.1,Ow h own ok (.sl e kk) (tb t.1) [t.2.1] t.2.2)∧
      ∀fr':Fr,fr'.free=fr.free→(∀t∈q.1,fr'.iN t.1=t.2.1)→∃ds, @Cells h b (o+i * k.size) ds∧@Ow fr' h own ok k' ((show List (El k') from y)[i]) ds q.2:=by
     intro i h1
     obtain ⟨ds,g1,g2⟩:=hel i h1
     obtain ⟨dX,dJ,f1,f2,f3,f4⟩:=ih (fun t ht=>hown t (by simp [K.tys,ht])) (hat i h1 (by omega)) g2
     exact ⟨(dX,dJ),fun _ _=>⟨f1,f2,f3,fun fr' e1 e2=>⟨ds,g1,f4 fr' e1 e2⟩⟩⟩
    obtain ⟨qs,hql,hq⟩:=IM hone
    refine ⟨(qs.map (·.1)).flatten,b :: (qs.map (·.2)).flatten, ?_, ?_, ?_,fun fr' e1 e2=>?_⟩
    ·rw [List.map_flatten,List.map_map]
     congr 1
     apply List.ext_getElem
     ·simp; omega
     ·intro i h1 h2
      have hi:i<qs.length:=by simpa using h1
      have:=(hq i hi (by omega) (by omega)).1
      simp only [List.getElem_map,Function.comp_apply]
      rw [this,apr,aps h2]
      rfl
    ·refine hfo.trans ?_
     rw [EE,List.cons_append]
     refine List.Perm.cons b (En (by simp; omega) (by simp; omega) fun i hi=>?_)
     have hi':i<qs.length:=by omega
     have:=(hq i hi' (by omega) (by omega)).2.1
     simp only [apr,List.getElem?_map,aps hi',Option.map_some,Option.getD_some,List.map_map,Function.comp_apply] at this ⊢
     exact this
    ·intro t ht
     obtain ⟨l,hl,ht⟩:=List.mem_flatten.1 ht
     obtain ⟨q,hq',rfl⟩:=apO.1 hl
     obtain ⟨i,hi,rfl⟩:=List.getElem_of_mem hq'
     exact (hq i hi (by omega) (by omega)).2.2.1 t ht
    ·unfold Ow
     rw [if_pos hf]
     refine ⟨_,n,c,rfl,by omega,hnc, .inr ⟨b,o,arr,lo,hi,rfl,hb,hfz, ?_,qs.map (·.2),by rw [List.length_map,hql]; exact hl, .refl _,fun i hi'=>?_⟩⟩
     ·rw [hsz]; exact hoc
     ·have hiq:i<qs.length:=by omega
      obtain ⟨ds,g1,g2⟩:=(hq i hiq (by omega) hi').2.2.2 fr' e1 (fun t ht=>e2 t (List.mem_flatten.2 ⟨_,apO.2 ⟨qs[i],apG hiq,rfl⟩,ht⟩))
      refine ⟨ds, ?_, ?_⟩
      ·rw [hsz]; exact g1
      ·have:(qs.map (·.2)).getD i []=qs[i].2:=by simp [apr,List.getElem?_map,aps hiq]
       rw [this]
       exact g2
  | _=>exact hR.elim
 | pair a b iha ihb=>
  intro k' x y ns cs fo hown hR hO
  cases k' with
  | pair a' b'=>
   obtain ⟨n1,n2,rfl,r1,r2⟩:=hR
   obtain ⟨c1,c2,f1,f2,rfl,hp,o1,o2⟩:=hO
   obtain ⟨t1,g1,p1,p2,p3,p4⟩:=iha (fun t ht=>hown t (by simp [K.tys,ht])) r1 o1
   obtain ⟨t2,g2,q1,q2,q3,q4⟩:=ihb (fun t ht=>hown t (by simp [K.tys,ht])) r2 o2
   refine ⟨t1++t2,g1++g2,by rw [List.map_append,p1,q1], ?_,fun q hq=>?_,fun fr' e1 e2=>⟨c1,c2,g1,g2,rfl, .refl _,p4 fr' e1 (fun q hq=>e2 q (api _ hq)),q4 fr' e1 (fun q hq=>e2 q (apf _ hq))⟩⟩
   ·refine hp.trans ((p2.append q2).trans ?_)
    have:aS (t1++t2)=aS t1++aS t2:=by simp [aS]
    rw [this]
    simp only [apz]
    refine List.Perm.append_left g1 ?_
    rw [←apz, ←apz]
    exact List.Perm.append_right _ List.perm_append_comm
   ·rcases apm.1 hq with hq | hq
    ·exact p3 q hq
    ·exact q3 q hq
  | _=>exact hR.elim
 | st f ih=>
  intro k' x y ns cs fo hown hR hO
  cases k' with
  | st f'=>
   obtain ⟨dX,dJ,f1,f2,f3,f4⟩:=ih (k':=f') (x:=x) (y:=y) (ns:=ns) (cs:=cs) (fo:=fo) hown hR hO
   exact ⟨dX,dJ,f1,f2,f3,fun fr' e1 e2=>f4 fr' e1 e2⟩
  | _=>exact hR.elim
 | int ik=>
  intro k' x y ns cs fo hown hR hO
  cases k' with
  | int jk=>
   obtain ⟨rfl,rfl,rfl⟩:=hR
   exact ⟨[],fo,rfl,by simp [aS],fun q hq=>by simp at hq,fun _ _ _=>hO⟩
  | _=>exact hR.elim
 | bool=>
  intro k' x y ns cs fo hown hR hO
  cases k' with
  | bool=>
   obtain ⟨rfl,rfl⟩:=hR
   exact ⟨[],fo,rfl,by simp [aS],fun q hq=>by simp at hq,fun _ _ _=>hO⟩
  | _=>exact hR.elim
 | str=>
  intro k' x y ns cs fo hown hR hO
  cases k' with
  | str=>
   obtain ⟨rfl,rfl⟩:=hR
   exact ⟨[],fo,rfl,by simp [aS],fun q hq=>by simp at hq,fun _ _ _=>hO⟩
  | _=>exact hR.elim
 | unit=>
  intro k' x y ns cs fo hown hR hO
  cases k' with
  | unit=>
   have:ns=[]:=hR
   subst this
   exact ⟨[],fo,rfl,by simp [aS],fun q hq=>by simp at hq,fun _ _ _=>hO⟩
  | _=>exact hR.elim
 | gap n=>intro k' x y ns cs fo _ hR; cases k' <;> exact hR.elim
 | id f=>intro k' x y ns cs fo _ hR; cases k' <;> exact hR.elim
theorem OD {A B:Type} (f:A→B):∀{nss:List (List B)} {l:List A},l.map f=nss.flatten→∃Qu:List (List A),Qu.flatten=l∧Qu.map (·.map f)=nss
 | [],l,h=>by
  have:l=[]:=by simpa using h
  exact ⟨[],by simp [this],rfl⟩
 | ns :: nss,l,h=>by
  rw [List.flatten_cons,List.map_eq_append_iff] at h
  obtain ⟨l1,l2,rfl,h1,h2⟩:=h
  obtain ⟨Qu,g1,g2⟩:=OD f h2
  exact ⟨l1 :: Qu,by simp [g1],by simp [h1,g2]⟩
theorem O3 {h:Heap} {own:List TypeId} {ok:Nat→Prop} {tb:Nat→List (El kk)} (fr':Fr):∀{k k':K} {x:El k} {y:El k'} {dX:List NF} {cs:List Value} {dJ:List Nat},(∀t∈k.tys,ay t own=true)→
  Rw e kk true tb k k' x y (dX.map (·.1))→@Ow fr' h own ok k' y cs dJ→(∀q∈dX, @Ow fr h own ok (.sl e kk) (tb q.1) [q.2.1] q.2.2∧fr'.iN q.1=q.2.1)→@Ow fr h own ok k x cs (dJ++aS dX):=by
 intro k
 induction k with
 | sl f k ih=>
  intro k' x y dX cs dJ hown hR hO htr
  cases k' with
  | id f'=>
   obtain ⟨rfl,rfl,hk,hx,hi⟩:=hR
   subst hk
   obtain ⟨rfl,hcs⟩:=hO
   have hcs:cs=[fr'.iN y]:=hcs
   subst hcs
   rcases hi with ⟨_,hns⟩ | ⟨_,h0,hx0,hns⟩
   ·cases dX with
    | nil=>simp at hns
    | cons q l=>
     cases l with
     | cons _ _=>simp at hns
     | nil=>
      simp only [List.map_cons,List.map_nil,List.cons.injEq,and_true] at hns
      obtain ⟨g1,g2⟩:=htr q (by simp)
      rw [hns] at g1 g2
      have hx':(show List (El k) from x)=tb y:=hx
      show @Ow fr h own ok (.sl f' k) (show List (El k) from x) _ _
      rw [hx',g2]
      simpa [aS] using g1
   ·have ht:dX=[]:=by simpa using hns
    subst ht
    have hy:y=(0:Nat):=h0
    subst hy
    have hx':(show List (El k) from x)=[]:=hx.trans hx0
    rw [fr'.aeP]
    unfold Ow
    rw [if_pos (hown f' (by simp [K.tys]))]
    exact ⟨none,0,0,rfl,by rw [hx']; rfl,apu _, .inl ⟨rfl,rfl⟩⟩
  | sl f' k'=>
   obtain ⟨rfl,hsz,hl,nss,hnl,hns,hat⟩:=hR
   have hf:ay f own=true:=hown f (by simp [K.tys])
   unfold Ow at hO ⊢
   rw [if_pos hf] at hO ⊢
   obtain ⟨a,n,c,rfl,hn,hnc,hO⟩:=hO
   obtain ⟨Qu,rfl,hts⟩:=OD (fun q:NF=>q.1) hns
   have htl:Qu.length=nss.length:=by rw [←hts,List.length_map]
   rcases hO with ⟨hc,rfl⟩ | ⟨b,o,arr,lo,hi,rfl,hb,hfz,hoc,bz,hfl,hfo,hel⟩
   ·have h0:(show List (El k) from x).length=0:=by omega
    have:Qu=[]:=List.length_eq_zero_iff.1 (by omega)
    subst this
    exact ⟨a,n,c,rfl,by omega,hnc, .inl ⟨hc,rfl⟩⟩
   ·have hone:∀i (hi1:i<(show List (El k) from x).length),∃ds,Cells h b (o+i * k.size) ds∧@Ow fr h own ok k ((show List (El k) from x)[i]) ds (bz.getD i []++aS (Qu.getD i [])):=by
     intro i h1
     obtain ⟨ds,g1,g2⟩:=hel i (by omega)
     have hti:i<Qu.length:=by omega
     have e1:Qu.getD i []=Qu[i]:=by simp [hti]
     have e2:nss.getD i []=(Qu[i]).map (·.1):=by
      rw [←hts]
      simp [hti]
     have hR':=hat i h1 (by omega)
     rw [e2] at hR'
     refine ⟨ds,by rw [←hsz]; exact g1, ?_⟩
     rw [e1]
     exact ih (fun t ht=>hown t (by simp [K.tys,ht])) hR' g2 (fun q hq=>htr q (List.mem_flatten.2 ⟨_,apG hti,hq⟩))
    refine ⟨_,n,c,rfl,by omega,hnc, .inr ⟨b,o,arr,lo,hi,rfl,hb,hfz,by rw [←hsz]; exact hoc,(List.range (show List (El k) from x).length).map fun i=>bz.getD i []++aS (Qu.getD i []),by simp, ?_,fun i h1=>?_⟩⟩
    ·refine (hfo.append_right _).trans ?_
     rw [List.cons_append]
     refine List.Perm.cons b ?_
     rw [EE]
     refine (En (bz:=(List.range (show List (El k) from x).length).map fun i=>bz.getD i []++aS (Qu.getD i [])) (fs:=bz) (gs:=Qu.map aS) (by rw [List.length_map,List.length_range]; omega) (by rw [List.length_map,List.length_map,List.length_range]; omega) fun i hi1=>?_).symm
     have hi2:i<(show List (El k) from x).length:=by simpa using hi1
     have hti:i<Qu.length:=by omega
     simp [apr,List.getElem?_map,List.getElem?_range,hi2,hti]
    ·obtain ⟨ds,g1,g2⟩:=hone i h1
     refine ⟨ds,g1, ?_⟩
     have:((List.range (show List (El k) from x).length).map fun i=>bz.getD i []++aS (Qu.getD i [])).getD i []=bz.getD i []++aS (Qu.getD i []):=by
      simp [apr,List.getElem?_map,List.getElem?_range,h1]
     rw [this]
     exact g2
  | _=>exact hR.elim
 | pair a b iha ihb=>
  intro k' x y dX cs dJ hown hR hO htr
  cases k' with
  | pair a' b'=>
   obtain ⟨n1,n2,hns,r1,r2⟩:=hR
   obtain ⟨c1,c2,f1,f2,rfl,hp,o1,o2⟩:=hO
   rw [List.map_eq_append_iff] at hns
   obtain ⟨t1,t2,rfl,rfl,rfl⟩:=hns
   refine ⟨c1,c2,f1++aS t1,f2++aS t2,rfl, ?_,iha (fun t ht=>hown t (by simp [K.tys,ht])) r1 o1 (fun q hq=>htr q (api _ hq)),ihb (fun t ht=>hown t (by simp [K.tys,ht])) r2 o2 (fun q hq=>htr q (apf _ hq))⟩
   refine (hp.append_right _).trans ?_
   have:aS (t1++t2)=aS t1++aS t2:=by simp [aS]
   rw [this]
   simp only [apz]
   refine List.Perm.append_left f1 ?_
   rw [←apz, ←apz]
   exact List.Perm.append_right _ List.perm_append_comm
  | _=>exact hR.elim
 | st f ih=>
  intro k' x y dX cs dJ hown hR hO htr
  cases k' with
  | st f'=>exact ih (k':=f') (x:=x) (y:=y) (dX:=dX) (cs:=cs) (dJ:=dJ) hown hR hO htr
  | _=>exact hR.elim
 | int ik=>
  intro k' x y dX cs dJ hown hR hO htr
  cases k' with
  | int jk=>
   obtain ⟨rfl,rfl,hns⟩:=hR
   have:dX=[]:=by simpa using hns
   subst this
   have e0:dJ++aS []=dJ:=apH _
   rw [e0]
   exact hO
  | _=>exact hR.elim
 | bool=>
  intro k' x y dX cs dJ hown hR hO htr
  cases k' with
  | bool=>
   obtain ⟨rfl,hns⟩:=hR
   have:dX=[]:=by simpa using hns
   subst this
   have e0:dJ++aS []=dJ:=apH _
   rw [e0]
   exact hO
  | _=>exact hR.elim
 | str=>
  intro k' x y dX cs dJ hown hR hO htr
  cases k' with
  | str=>
   obtain ⟨rfl,hns⟩:=hR
   have:dX=[]:=by simpa using hns
   subst this
   have e0:dJ++aS []=dJ:=apH _
   rw [e0]
   exact hO
  | _=>exact hR.elim
 | unit=>
  intro k' x y dX cs dJ hown hR hO htr
  cases k' with
  | unit=>
   have hns:dX.map (·.1)=[]:=hR
   have:dX=[]:=by simpa using hns
   subst this
   have e0:dJ++aS []=dJ:=apH _
   rw [e0]
   exact hO
  | _=>exact hR.elim
 | gap n=>intro k' x y dX cs dJ _ hR; cases k' <;> exact hR.elim
 | id f=>intro k' x y dX cs dJ _ hR; cases k' <;> exact hR.elim
def Em:K→Bool
 | .id _=>false
 | .sl _ k=>Em k
 | .pair a b=>Em a && Em b
 | .st f=>Em f
 | _=>true
theorem Yo {h:Heap} {ok:Nat→Prop} (fr':Fr) (hf:fr'.free=fr.free):∀{k:K} {x:El k} {cs:List Value},Em k=true→@Vw fr h ok k x cs→@Vw fr' h ok k x cs:=by
 intro k
 induction k with
 | sl f k ih=>
  intro x cs hk H
  obtain ⟨a,n,c,e1,e2,e3,H⟩:=H
  refine ⟨a,n,c,e1,e2,e3,fun hn=>?_⟩
  obtain ⟨b,o,ea,hb,ht,H⟩:=H hn
  refine ⟨b,o,ea,hb,ht.imp id (fun h=>by rw [hf]; exact h),fun i hi=>?_⟩
  obtain ⟨ds,h1,h2⟩:=H i hi
  exact ⟨ds,h1,ih hk h2⟩
 | pair a b iha ihb=>
  intro x cs hk H
  simp only [Em,apj] at hk
  obtain ⟨c1,c2,e,h1,h2⟩:=H
  exact ⟨c1,c2,e,iha hk.1 h1,ihb hk.2 h2⟩
 | st f ih=>intro x cs hk H; exact ih (x:=x) (cs:=cs) hk H
 | id f=>intro x cs hk; simp [Em] at hk
 | int ik=>intro x cs _ H; exact H
 | bool=>intro x cs _ H; exact H
 | str=>intro x cs _ H; exact H
 | unit=>intro x cs _ H; exact H
 | gap n=>intro x cs _ H; exact H
def Ar (cx:Cx) (bad:List Nat):Cx:={ cx with
 par:=fun j=>(cx.par j).map fun pi=>{ pi with bl:=pi.bl.filter fun b=>!ay b bad }
 ptrs:=fun _ _ _ _=>False
 refs:=fun _ _=>False }
theorem oI {cx:Cx} {bad:List Nat} {j:Nat} {FV:V7} (h:(Ar cx bad).par j=some FV):∃pi,cx.par j=some pi∧FV={ pi with bl:=pi.bl.filter fun b=>!ay b bad }:=by
 simp only [Ar,Option.map_eq_some_iff] at h
 obtain ⟨pi,h1,h2⟩:=h
 exact ⟨pi,h1,h2.symm⟩
theorem K6 {cx:Cx} {bad:List Nat} {b:Nat}:mG (Ar cx bad) b↔mG cx b:=by
 constructor
 ·rintro ⟨j,FV,o,n,h1,h2⟩
  obtain ⟨pi,g1,rfl⟩:=oI h1
  exact ⟨j,pi,o,n,g1,h2⟩
 ·rintro ⟨j,pi,o,n,h1,h2⟩
  exact ⟨j,{ pi with bl:=pi.bl.filter fun b=>!ay b bad },o,n,by simp [Ar,h1],h2⟩
def Ud (T:List Tag):Prop:=∀t∈T,fP t.1=true
def Fp:yQ→Prop
 | .one .undef=>True
 | .one (.ptr r p n)=>r=au 0∧p=[]∧n=0
 | .one (.val k _ T)=>Em k=true∧Ud T
 | .one (.fn _ cs)=>∀c∈cs,Em c.2.1.1=true∧Ud c.2.2∧c.1=SENT
 | _=>False
section
variable {cx:Cx} {σ:St} {α:dK} {a:Act} {w:World}
theorem aad {R0 R1:Root} {dJ bad:List Nat} (h0:∀r R,aR σ r R→r=au 0∧R=R0) (h1:aR σ (au 0) R0) (hk:R1.kind=R0.kind) (hsub:∀b∈dJ,b∈α.fo (au 0)) (hbad:∀b∈bad,b∈α.fo (au 0)) {T:List Tag} (hT:Ud T) {b:Nat} (h:iT cx σ α [] w T b) :
  iT (Ar cx bad) (az σ (au 0) R1) (aJ α (au 0) (α.loc (au 0)) (α.hdr (au 0)) dJ) [] w T b:=by
 obtain ⟨g1,g2,g3,g4,g5⟩:=h
 refine ⟨g1,g2,fun hb=>g3 (K6.1 hb),fun r R hr hb=>?_,fun hlt=>?_⟩
 ·rcases jC hr with ⟨rfl,rfl,_⟩ | ⟨e,hr'⟩
  ·rw [eO] at hb
   refine g4 _ R0 h1 ?_
   rw [bT]
   unfold iF at hb ⊢
   rw [hk] at hb
   rcases apm.1 hb with h | h
   ·exact api _ h
   ·exact apf _ (hsub b h)
  ·exact absurd (h0 r R hr').1 e
 ·rcases g5 hlt with ⟨j,n,f1,f2⟩ | ⟨j,pi,f1,f2⟩
  ·exact .inl ⟨j,n,f1,f2⟩
  ·refine .inr ⟨j,{ pi with bl:=pi.bl.filter fun b=>!ay b bad },by simp [Ar,f1], ?_⟩
   refine apv.2 ⟨f2, ?_⟩
   cases hm:ay b bad with
   | false=>rfl
   | true=>
    have hb:=hbad b (aL.1 hm)
    obtain ⟨n,hn⟩:=g4 _ R0 h1 (by rw [bT]; exact apf _ hb)
    have:=hT _ hn
    rw [pg] at this
    simp at this
theorem K3 {σ:St} {tys:List TypeId} {T:List Tag} (h:Ud T):bg σ tys T=true:=o8.2 fun t ht=>.inl (h t ht)
structure DD (cx:Cx) (σ:St) (α:dK) (R0 R1:Root) (dJ bad:List Nat):Prop where
 only:∀r R,aR σ r R→r=au 0∧R=R0
 lv:aR σ (au 0) R0
 kind:R1.kind=R0.kind
 tags:R0.tags=[]
 sub:∀b∈dJ,b∈α.fo (au 0)
 bad:∀b∈bad,b∈α.fo (au 0)
theorem DD.iT {R0 R1:Root} {dJ bad:List Nat} (L:DD cx σ α R0 R1 dJ bad) {T:List Tag} (hT:Ud T) {b:Nat} (h:Ow.iT cx σ α [] w T b) :
  Ow.iT (Ar cx bad) (az σ (au 0) R1) (aJ α (au 0) (α.loc (au 0)) (α.hdr (au 0)) dJ) [] w T b:=aad L.only L.lv L.kind L.sub L.bad hT h
theorem DD.wh {R0 R1:Root} {dJ bad:List Nat} (L:DD cx σ α R0 R1 dJ bad):eB (aJ α (au 0) (α.loc (au 0)) (α.hdr (au 0)) dJ) R1 (au 0)=eB α R0 (au 0):=by
 rw [jN]
 unfold xG eB
 rw [L.kind] <;> cases R0.kind <;> rfl
theorem DD.av (fr':Fr) (hf:fr'.free=fr.free) {R0 R1:Root} {dJ bad:List Nat} (L:DD cx σ α R0 R1 dJ bad) {x:yQ} {v:Value} (hx:Fp x) (h : @jT fr cx σ α [] w x v) :
  @jT fr' (Ar cx bad) (az σ (au 0) R1) (aJ α (au 0) (α.loc (au 0)) (α.hdr (au 0)) dJ) [] w x v:=by
 have hv0:bq σ R0:=⟨L.lv.2,by rw [L.tags]; rfl⟩
 cases x with
 | J7 l=>exact hx.elim
 | one x=>
  cases x with
  | undef=>trivial
  | ptr r p n=>
   obtain ⟨rfl,rfl,rfl⟩:=hx
   refine ⟨h.1,fun R hR _ _ _ _=>?_⟩
   rw [aK] at hR
   have hR:=apN hR
   subst hR
   obtain ⟨_,cs,b,o,hn,e⟩:=h.2 R0 L.lv.1 hv0 (by unfold eD clean; simp [ay]) (fun t ht=>by simp [ah] at ht) rfl
   simp only [bF,apd,apo] at hn
   refine ⟨trivial,α.hdr (au 0),b,o, ?_,e⟩
   simp only [bF]
   rw [L.wh,hn.2]
   simp [aJ,upd_same]
  | val k x T=>
   intro _
   obtain ⟨cs,h1,h2⟩:=h (.inr (K3 hx.2))
   exact ⟨cs,h1, @Yo fr _ _ fr' hf _ _ _ hx.1 (@fT fr _ _ _ _ (fun _ _=>rfl) (fun b hb=>L.iT hx.2 hb) _ _ _ h2)⟩
  | fn f cs=>
   obtain ⟨vs,e,hc⟩:=h
   refine ⟨vs,e, ?_⟩
   clear e
   have key:∀(cs:List (TypeId×Dat×List Tag)) (vs:List Value),(∀c∈cs,Em c.2.1.1=true∧Ud c.2.2∧c.1=SENT)→@kK fr cx σ α [] w cs vs→@kK fr' (Ar cx bad) (az σ (au 0) R1) (aJ α (au 0) (α.loc (au 0)) (α.hdr (au 0)) dJ) [] w cs vs:=by
    intro cs
    induction cs with
    | nil=>intro vs _ h; cases vs <;> exact h
    | cons c cs ih=>
     intro vs hc h
     cases vs with
     | nil=>exact h
     | cons v vs=>
      obtain ⟨⟨h1,h2⟩,h3⟩:=h
      obtain ⟨g1,g2,g3⟩:=hc c (by simp)
      refine ⟨⟨h1,fun _=>?_⟩,ih vs (fun c hc'=>hc c (by simp [hc'])) h3⟩
      obtain ⟨b,o,ds,e,q1,q2,⟨q3,q4,q5⟩,_⟩:=h2 (K3 g2)
      refine ⟨b,o,ds,e,q1, @Yo fr _ _ fr' hf _ _ _ g1 (@fT fr _ _ _ _ (fun _ _=>rfl) (fun b hb=>L.iT g2 hb) _ _ _ q2),⟨q3,q4,fun r R hr hb=>?_⟩, .inl ⟨g3,g2⟩⟩
      rcases jC hr with ⟨rfl,rfl,_⟩ | ⟨e,hr'⟩
      ·rw [eO] at hb
       refine q5 _ R0 L.lv ?_
       rw [bT]
       unfold iF at hb ⊢
       rw [L.kind] at hb
       rcases apm.1 hb with h | h
       ·exact api _ h
       ·exact apf _ (L.sub b h)
      ·exact absurd (L.only r R hr').1 e
   exact key cs vs hx hc
  | _=>exact hx.elim
theorem Uq:∀{dX:List NF},(dX.map (·.1)).Nodup→0∉dX.map (·.1)→(∀q∈dX,∃a n c,q.2.1=Value.slice a n c)→∃iN:Nat→Value,iN 0=.slice none 0 0∧(∀i,∃a n c,iN i=.slice a n c)∧∀q∈dX,iN q.1=q.2.1
 | [],_,_,_=>⟨fun _=>.slice none 0 0,rfl,fun _=>⟨none,0,0,rfl⟩,fun q hq=>by simp at hq⟩
 | q :: l,hn,h0,hs=>by
  rw [List.map_cons,apL] at hn
  rw [List.map_cons,apq,not_or] at h0
  obtain ⟨iN,g1,g2,g3⟩:=Uq hn.2 h0.2 (fun q hq=>hs q (by simp [hq]))
  refine ⟨fun i=>if i=q.1 then q.2.1 else iN i,by simp only [if_neg h0.1]; exact g1,fun i=>?_,fun t ht=>?_⟩
  ·by_cases h:i=q.1
   ·simp only [if_pos h]; exact hs q (by simp)
   ·simp only [if_neg h]; exact g2 i
  ·rcases apq.1 ht with rfl | ht
   ·simp only [if_true]
   ·have hne:¬t.1=q.1:=fun e=>hn.1 (apO.2 ⟨t,ht,e⟩)
    simp only [if_neg hne]; exact g3 t ht
theorem VO {h:Heap} {own:List TypeId} {ok:Nat→Prop} {xs:List (El kk)} {v:Value} {fo:List Nat} (he:ay e own=true) (H:Ow h own ok (.sl e kk) xs [v] fo):∃a n c,v=.slice a n c:=by
 unfold Ow at H
 rw [if_pos he] at H
 obtain ⟨a,n,c,hv,_⟩:=H
 simp only [List.cons.injEq,and_true] at hv
 exact ⟨a,n,c,hv⟩
theorem Xo (H:Rel cx σ α [] a w) (hw0:cx.w0=w) {R0:Root} (hR0:aR σ (au 0) R0) (oL:∀r,r≠au 0→σ.roots r=none) (hpar:R0.kind=.par) (su:R0.tags=[]) (hown:∀t∈R0.k.tys,ay t R0.own=true) (he:ay e R0.own=true)
  (hsl:∀s,Fp (σ.slots s)) {k':K} {x':El k'} {tb:Nat→List (El kk)} {ns:List Nat} (hR:Rw e kk false tb R0.k k' R0.x x' ns) (hnd:ns.Nodup) (hn0:0∉ns) (hown':∀t∈k'.tys,ay t R0.own=true) :
  ∃(dX:List NF) (dJ:List Nat) (iN:Nat→Value) (h0:iN 0=.slice none 0 0) (hs:∀i,∃a n c,iN i=.slice a n c),dX.map (·.1)=ns∧(α.fo (au 0)).Perm (dJ++aS dX)∧
   (∀q∈dX, @Ow fr (hp w) R0.own (fun _=>False) (.sl e kk) (tb q.1) [q.2.1] q.2.2)∧(∀q∈dX,iN q.1=q.2.1)∧
   @Rel (gI fr iN h0 hs) (Ar cx (aS dX)) (az σ (au 0) { R0 with k:=k',x:=x' }) (aJ α (au 0) (α.loc (au 0)) (α.hdr (au 0)) dJ) [] a w:=by
 have K:=H.roots _ R0 hR0
 have hv0:bq σ R0:=⟨hR0.2,by rw [su]; rfl⟩
 have hO:Ow (hp w) R0.own (fun _=>False) R0.k R0.x (α.hdr (au 0)) (α.fo (au 0)):=gP (dm hown) (K.ow hv0)
 obtain ⟨dX,dJ,g1,g2,g3,g4⟩:=QE hown hR hO
 obtain ⟨iN,i1,i2,i3⟩:=Uq (dX:=dX) (by rw [g1]; exact hnd) (by rw [g1]; exact hn0) (fun q hq=>VO he (g3 q hq))
 refine ⟨dX,dJ,iN,i1,i2,g1,g2,g3,i3, ?_⟩
 have hblk:blk α R0 (au 0)=(α.loc (au 0)).1 :: α.fo (au 0):=by unfold blk eB; rw [hpar]; rfl
 have hsub:∀b∈dJ,b∈α.fo (au 0):=fun b hb=>g2.mem_iff.2 (api _ hb)
 have hbad:∀b∈aS dX,b∈α.fo (au 0):=fun b hb=>g2.mem_iff.2 (apf _ hb)
 have L:DD cx σ α R0 { R0 with k:=k',x:=x' } dJ (aS dX):=⟨fun r R hr=>by
  by_cases e:r=au 0
  ·subst e; refine ⟨rfl, ?_⟩; have:=hr.1; rw [hR0.1] at this; exact (apN this).symm
  ·have:=hr.1; rw [oL r e] at this; simp at this,hR0,rfl,su,hsub,hbad⟩
 have sO:=K.nd
 rw [hblk] at sO
 have FE:=apL.1 sO
 have tN:=apk.1 (g2.nodup FE.2)
 have hlv:∀{q Q},aR (az σ (au 0) { R0 with k:=k',x:=x' }) q Q→q=au 0∧Q={ R0 with k:=k',x:=x' }:=fun {q Q} hq=>by
  rcases jC hq with ⟨rfl,rfl,_⟩ | ⟨e,hq'⟩
  ·exact ⟨rfl,rfl⟩
  ·exact absurd (L.only q Q hq').1 e
 have hlv1:aR (az σ (au 0) { R0 with k:=k',x:=x' }) (au 0) { R0 with k:=k',x:=x' }:=⟨aK ..,hR0.2⟩
 have hblk':blk (aJ α (au 0) (α.loc (au 0)) (α.hdr (au 0)) dJ) { R0 with k:=k',x:=x' } (au 0)=(α.loc (au 0)).1 :: dJ:=by
  rw [eO]; unfold iF; simp only [hpar]; rfl
 have jJ:∀b∈(α.loc (au 0)).1 :: dJ,Ow.mine (Ar cx (aS dX)) w b:=fun b hb=>by
  have hb0:b∈blk α R0 (au 0):=by
   rw [hblk]
   rcases apq.1 hb with h | h
   ·rw [h]; exact apK
   ·exact apC _ (hsub b h)
  obtain ⟨m1,m2⟩:=K.mine b hb0
  refine ⟨m1, ?_⟩
  rcases m2 with m2 | ⟨j,pi,m2,m3⟩
  ·exact .inl m2
  ·refine .inr ⟨j,{ pi with bl:=pi.bl.filter fun b=>!ay b (aS dX) },by simp [Ar,m2],apv.2 ⟨m3, ?_⟩⟩
   have:ay b (aS dX)=false:=by
    rw [aV]
    intro hm
    rcases apq.1 hb with h | h
    ·subst h; exact FE.1 (hbad _ hm)
    ·exact tN.2.2 b h b hm rfl
   rw [this]; rfl
 have hpl:=H.qA
 refine @Rel.mk (gI fr iN i1 i2) _ _ _ _ _ _ H.defs H.sz ?_ ?_ ?_ ?_ ?_ ?_ ?_ (fun b hb=>by simp at hb) List.nodup_nil (fun r R hr b hb h=>by simp at h) ?_ ?_ ?_ (fun j p ts v h=>h.elim) (fun j v h=>h.elim)
 ·intro j FV b o n hj hb
  obtain ⟨pi,hj',rfl⟩:=oI hj
  obtain ⟨R,f1,f2,f3,f4⟩:=H.mQ j pi b o n hj' hb
  obtain ⟨e1,rfl⟩:=L.only _ R f1
  rw [e1] at f3 ⊢
  exact ⟨_,hlv1,hpar,by simp [aJ,upd_same,f3],by show k'.size=n; rw [hR.size]; exact f4⟩
 ·intro r R hr hk
  obtain ⟨rfl,rfl⟩:=hlv hr
  obtain ⟨j,pi,n,f1,f2,f3⟩:=H.JA _ R0 hR0 hpar
  exact ⟨j,{ pi with bl:=pi.bl.filter fun b=>!ay b (aS dX) },n,f1,by simp [Ar,f2],by simp [aJ,upd_same,f3]⟩
 ·intro s
  exact DD.av (fr:=fr) (gI fr iN i1 i2) rfl L (hsl s) (H.slots s)
 ·intro s
  have hs:=hsl s
  show Ah _ (σ.slots s)
  cases hx:σ.slots s with
  | J7 l=>rw [hx] at hs; exact hs.elim
  | one x=>
   rw [hx] at hs
   cases x with
   | undef=>trivial
   | ptr r p n=>obtain ⟨rfl,rfl,rfl⟩:=hs; exact ⟨_,aK .., .inr (apM _)⟩
   | val k x T=>exact fun t ht=>.inl (hs.2 t ht)
   | fn f cs=>exact fun c hc t ht=>.inl ((hs c hc).2.1 t ht)
   | _=>exact hs.elim
 ·intro r R hr
  obtain ⟨rfl,rfl⟩:=hlv hr
  refine @uZ.mk (gI fr iN i1 i2) _ _ _ _ _ _ _ (fun _=>?_) ?_ ?_ ?_ ?_
  ·have e1:(aJ α (au 0) (α.loc (au 0)) (α.hdr (au 0)) dJ).hdr (au 0)=α.hdr (au 0):=by simp [aJ,upd_same]
   have e2:(aJ α (au 0) (α.loc (au 0)) (α.hdr (au 0)) dJ).fo (au 0)=dJ:=by simp [aJ,upd_same]
   rw [e1,e2]
   exact @gP (gI fr iN i1 i2) _ _ _ _ _ _ _ _ (dm hown') (g4 (gI fr iN i1 i2) rfl i3)
  ·show ((aJ α (au 0) (α.loc (au 0)) (α.hdr (au 0)) dJ).hdr (au 0)).length=k'.size
   rw [hR.size]
   simpa [aJ,upd_same] using K.len
  ·intro b o hb
   rw [L.wh] at hb
   obtain ⟨m1,arr,e',lo,hi,m2,m3,m4,m5⟩:=K.mem b o hb
   refine ⟨by simpa [aJ,upd_same] using m1,arr,e',lo,hi,m2,m3,by show o+k'.size≤_; rw [hR.size]; exact m4,m5⟩
  ·rw [hblk']
   exact apL.2 ⟨fun h=>FE.1 (hsub _ h),tN.1⟩
  ·intro b hb
   rw [hblk'] at hb
   exact jJ b hb
 ·intro r R hr
  by_cases e:r=au 0
  ·subst e
   rw [aK] at hr
   have hr:=apN hr
   subst hr
   exact ⟨fun t ht=>by rw [show ({ R0 with k:=k',x:=x' }:Root).tags=R0.tags from rfl,su] at ht; simp at ht,pg 0,fun n hn=>by rw [show ({ R0 with k:=k',x:=x' }:Root).tags=R0.tags from rfl,su] at hn; simp at hn⟩
  ·rw [bZ _ _ e,oL r e] at hr; simp at hr
 ·intro r R r' R' hr hr' hne
  exact absurd ((hlv hr).1.trans (hlv hr').1.symm) hne
 ·obtain ⟨f1,f2,f3,f4,f5,f6⟩:=H.frame
  refine ⟨f1,f2,f3,f4,fun b _ _=>by show hp w b=hp cx.w0 b; rw [hw0],fun j FV b o n hj hb=>?_⟩
  obtain ⟨pi,hj',rfl⟩:=oI hj
  exact f6 j pi b o n hj' hb
 ·intro j FV hj hkp
  obtain ⟨pi,hj',rfl⟩:=oI hj
  obtain ⟨R,f1,f2⟩:=H.wP j pi hj' hkp
  by_cases e:au j=au 0
  ·refine ⟨_,by rw [e]; exact aK ..,fun _ b hb hnb=>.inr ⟨by show hp w b=hp cx.w0 b; rw [hw0],by simp,fun q Q hq _=>by rw [(hlv hq).1,e]⟩⟩
  ·rw [oL _ e] at f1; simp at f1
 ·refine ⟨fun j FV hj b hb=>?_,fun b hb=>⟨?_,fun j FV hj hbl=>?_⟩,fun b hb=>hpl.2.2 b hb⟩
  ·obtain ⟨pi,hj',rfl⟩:=oI hj
   exact hpl.1 j pi hj' b (apv.1 hb).1
  ·exact (hpl.2.1 b hb).1
  ·obtain ⟨pi,hj',rfl⟩:=oI hj
   exact (hpl.2.1 b hb).2 j pi hj' (apv.1 hbl).1
theorem JV {h:Heap} {own own':List TypeId} {ok:Nat→Prop}:∀{k:K} {x:El k} {cs:List Value} {fo:List Nat},(∀t∈k.tys,ay t own=ay t own')→Ow h own ok k x cs fo→Ow h own' ok k x cs fo:=by
 intro k
 induction k with
 | sl f k ih=>
  intro x cs fo ht H
  have hf:=ht f (by simp [K.tys])
  unfold Ow at H ⊢
  cases hm:ay f own with
  | true=>
   rw [if_pos hm] at H
   rw [if_pos (by rw [←hf]; exact hm)]
   obtain ⟨a,n,c,e1,e2,e3,H⟩:=H
   refine ⟨a,n,c,e1,e2,e3, ?_⟩
   rcases H with H | ⟨b,o,arr,lo,hi,ea,hb,hz,hs,bz,hl,hp,H⟩
   ·exact .inl H
   ·refine .inr ⟨b,o,arr,lo,hi,ea,hb,hz,hs,bz,hl,hp,fun i hi=>?_⟩
    obtain ⟨ds,h1,h2⟩:=H i hi
    exact ⟨ds,h1,ih (fun t h=>ht t (by simp [K.tys,h])) h2⟩
  | false=>
   rw [if_neg (by rw [hm]; simp)] at H
   rw [if_neg (by rw [←hf,hm]; simp)]
   exact H
 | pair a b iha ihb=>
  intro x cs fo ht H
  obtain ⟨c1,c2,f1,f2,e,hp,h1,h2⟩:=H
  exact ⟨c1,c2,f1,f2,e,hp,iha (fun t h=>ht t (by simp [K.tys,h])) h1,ihb (fun t h=>ht t (by simp [K.tys,h])) h2⟩
 | st f ih=>intro x cs fo ht H; exact ih (x:=x) ht H
 | int ik=>intro x cs fo _ H; exact H
 | bool=>intro x cs fo _ H; exact H
 | id e=>intro x cs fo _ H; exact H
 | str=>intro x cs fo _ H; exact H
 | unit=>intro x cs fo _ H; exact H
 | gap n=>intro x cs fo _ H; exact H
theorem aha {z:Bool} {tb:Nat→List (El kk)} {k k':K} {x:El k} {y:El k'} {ns:List Nat} {v:Value} {cs:List Value} (hR:Rw e kk z tb k k' x y ns) (h:VC k' v cs):VC k v cs:=by
 cases k <;> cases k' <;> first | exact hR.elim | exact h
def RwR (e:TypeId) (kk:K) (tb:Nat→List (El kk)):(rs rs':List jy)→Cont (ig rs)→Cont (ig rs')→List Nat→Prop
 | [],[],_,_,ns=>ns=[]
 | .val k _ _ :: rs, .val k' _ _ :: rs',c,c',ns=>(∃h:k=k',k.flat=true∧Em k=true∧h▸c.1=c'.1)∧RwR e kk tb rs rs' c.2 c'.2 ns
 | .own k ow _ _ :: rs, .own k' ow' _ _ :: rs',c,c',ns=>∃n1 n2,ns=n1++n2∧((k.tys.all fun t=>ay t ow)=true∧(k'.tys.all fun t=>ay t ow')=true∧Rw e kk true tb k k' c.1 c'.1 n1)∧RwR e kk tb rs rs' c.2 c'.2 n2
 | _,_,_,_,_=>False
theorem select {dX:List NF}:∀{ns:List Nat},(∀n∈ns,n∈dX.map (·.1))→∃l:List NF,l.map (·.1)=ns∧∀q∈l,q∈dX
 | [],_=>⟨[],rfl,fun q hq=>by simp at hq⟩
 | n :: ns,h=>by
  obtain ⟨l,h1,h2⟩:=select (ns:=ns) (fun n hn=>h n (by simp [hn]))
  obtain ⟨q,hq,e⟩:=apO.1 (h n (by simp))
  exact ⟨q :: l,by simp [h1,e],fun t ht=>by
   rcases apq.1 ht with rfl | ht
   ·exact hq
   ·exact h2 t ht⟩
theorem Iz:∀{dX:List NF},(aS dX).Nodup→(dX.map (·.1)).Nodup→∀q∈dX,q.2.2.Nodup∧∀q'∈dX,q.1≠q'.1→∀b∈q.2.2,b∉q'.2.2
 | [],_,_,q,hq=>by simp at hq
 | t :: l,hn,hm,q,hq=>by
  have e:aS (t :: l)=t.2.2++aS l:=rfl
  rw [e] at hn
  obtain ⟨n1,n2,n3⟩:=apk.1 hn
  rw [List.map_cons,apL] at hm
  have hin:∀q∈l,∀b∈q.2.2,b∈aS l:=fun q hq b hb=>apP.2 ⟨q,hq,hb⟩
  rcases apq.1 hq with rfl | hql
  ·refine ⟨n1,fun q' hq' hne b hb hb'=>?_⟩
   rcases apq.1 hq' with rfl | hq'
   ·exact hne rfl
   ·exact n3 b hb b (hin q' hq' b hb') rfl
  ·obtain ⟨g1,g2⟩:=Iz n2 hm.2 q hql
   refine ⟨g1,fun q' hq' hne b hb hb'=>?_⟩
   rcases apq.1 hq' with rfl | hq'
   ·exact n3 b hb' b (hin q hql b hb) rfl
   ·exact g2 q' hq' hne b hb hb'
theorem IA {dX:List NF} (hn:(aS dX).Nodup) (hm:(dX.map (·.1)).Nodup):∀{l:List NF},(∀q∈l,q∈dX)→(l.map (·.1)).Nodup→(aS l).Nodup
 | [],_,_=>List.nodup_nil
 | t :: l,hs,hl=>by
  have e:aS (t :: l)=t.2.2++aS l:=rfl
  rw [e]
  rw [List.map_cons,apL] at hl
  refine apk.2 ⟨(Iz hn hm t (hs t (by simp))).1,IA hn hm (fun q hq=>hs q (by simp [hq])) hl.2,fun b hb c hc ebc=>?_⟩
  subst ebc
  obtain ⟨q,hq,hb'⟩:=apP.1 hc
  exact (Iz hn hm t (hs t (by simp))).2 q (hs q (by simp [hq])) (fun e=>hl.1 (apO.2 ⟨q,hq,e.symm⟩)) b hb hb'
theorem ZT (fr':Fr) (hf:fr'.free=fr.free) {cx':Cx} {σ':St} {α':dK} {F':List Nat} {w':World} {tb:Nat→List (El kk)} {O:List TypeId} (hO:∀t∈(K.sl e kk).tys,ay t O=true)  :
  ∀{rs rs':List jy} {c:Cont (ig rs)} {c':Cont (ig rs')} {vs:List Value} {bz:List (List Nat)} {dX:List NF},RwR e kk tb rs rs' c c' (dX.map (·.1))→@KD fr' cx' σ' α' F' w' rs' c' vs bz→
   (∀q∈dX, @Ow fr (hp w') O (fun _=>False) (.sl e kk) (tb q.1) [q.2.1] q.2.2∧fr'.iN q.1=q.2.1)→
   ∃WQ,(∀σ1 dL F1, @KD fr cx σ1 dL F1 w' rs c vs WQ)∧WQ.flatten.Perm (bz.flatten++aS dX):=by
 intro rs
 induction rs with
 | nil=>
  intro rs' c c' vs bz dX hR hL htr
  cases rs' with
  | cons _ _=>exact hR.elim
  | nil=>
   have ht:dX=[]:=by simpa using (show dX.map (·.1)=[] from hR)
   subst ht
   cases vs with
   | cons _ _=>exact hL.elim
   | nil=>cases bz with
    | cons _ _=>exact hL.elim
    | nil=>exact ⟨[],fun _ _ _=>trivial, .refl _⟩
 | cons r rs ih=>
  intro rs' c c' vs bz dX hR hL htr
  cases rs' with
  | nil=>cases r <;> exact hR.elim
  | cons r' rs'=>
   cases r with
   | into _ _=>exact hR.elim
   | ptr _ _ _ _=>exact hR.elim
   | val k ex pr=>
    cases r' with
    | val k' ex' pr'=>
     obtain ⟨⟨hk,h1,h2,h3⟩,hR⟩:=hR
     subst hk
     cases vs with
     | nil=>exact hL.elim
     | cons v vs=>
      cases bz with
      | nil=>exact hL.elim
      | cons fo bz=>
       obtain ⟨⟨rfl,T,cs,g1,g2,g3⟩,hL⟩:=hL
       obtain ⟨WQ,q1,q2⟩:=ih hR hL htr
       refine ⟨[] :: WQ,fun σ1 dL F1=>⟨⟨rfl,[],cs, .inl h1,g2, ?_⟩,q1 σ1 dL F1⟩,by simpa using q2⟩
       have h3:c.1=c'.1:=h3
       rw [h3]
       exact @iA fr _ _ _ _ _ _ _ h1 (@Yo fr' _ _ fr hf.symm _ _ _ h2 g3)
    | _=>exact hR.elim
   | own k ow ex pr=>
    cases r' with
    | own k' ow' ex' pr'=>
     obtain ⟨n1,n2,hns,⟨a1,a2,a3⟩,hR⟩:=hR
     rw [List.map_eq_append_iff] at hns
     obtain ⟨t1,t2,rfl,rfl,rfl⟩:=hns
     cases vs with
     | nil=>exact hL.elim
     | cons v vs=>
      cases bz with
      | nil=>exact hL.elim
      | cons fo bz=>
       obtain ⟨⟨T,cs,amJ,g1,g2,g3,g4⟩,hL⟩:=hL
       obtain ⟨WQ,q1,q2⟩:=ih hR hL (fun q hq=>htr q (apf _ hq))
       have hk':∀t∈k'.tys,ay t amJ=true:=fun t ht=>g2 t ht (apt.1 a2 t ht)
       let O2:List TypeId:=O++k.tys++k'.tys
       have m1:∀t∈k.tys,ay t O2=true:=fun t ht=>aL.2 (api _ (apf _ ht))
       have m2:∀t∈k'.tys,ay t O2=true:=fun t ht=>aL.2 (apf _ ht)
       have m3:∀t∈(K.sl e kk).tys,ay t O2=true:=fun t ht=>aL.2 (api _ (api _ (aL.1 (hO t ht))))
       have g5 : @Ow fr' (hp w') O2 (fun _=>False) k' c'.1 cs fo:=@gP fr' _ _ _ _ _ _ _ _ (dm m2) (@JV fr' _ _ _ _ _ _ _ _ (fun t ht=>by rw [hk' t ht,m2 t ht]) g4)
       have g6:=O3 (fr:=fr) fr' m1 a3 g5 (fun q hq=>by
        obtain ⟨f1,f2⟩:=htr q (api _ hq)
        exact ⟨@JV fr _ _ _ _ _ _ _ _ (fun t ht=>by rw [hO t ht,m3 t ht]) f1,f2⟩)
       refine ⟨(fo++aS t1) :: WQ,fun σ1 dL F1=>⟨⟨[],cs,O2, .inl a1,fun t ht _=>m1 t ht,aha a3 g3, @gP fr _ _ _ _ _ _ _ _ (dm m1) g6⟩,q1 σ1 dL F1⟩, ?_⟩
       simp only [List.flatten_cons]
       have et:aS (t1++t2)=aS t1++aS t2:=by simp [aS]
       rw [et]
       refine (q2.append_left (fo++aS t1)).trans ?_
       simp only [apz]
       refine List.Perm.append_left fo ?_
       rw [←apz, ←apz]
       exact List.Perm.append_right _ List.perm_append_comm
    | _=>exact hR.elim
end
end
end
section
open Go
section
variable {e:TypeId} {kk:K} [fr:Fr]
variable {cx:Cx} {σ:St} {α:dK} {a:Act} {w:World}
def oJ (k:K) (x:El k) (ow wt ht:List TypeId):Root:={ k,x,own:=ow,tags:=[],w:=wt,h:=ht,g:=0,kind:=.par,fixed:=false,keep:=true,ew:=[],eh:=ht }
def BX (R:Root):St:=⟨fun _=>.one .undef,fun r=>bif Nat.beq r (au 0) then some R else none⟩
def D9 (loc:Nat×Nat) (hdr:List Value) (fo:List Nat):dK:=⟨fun _=>loc,fun _=>hdr,fun _=>fo⟩
theorem qM {R:Root} {r:Nat} {Q:Root} (h:(BX R).roots r=some Q):r=au 0∧Q=R:=by
 unfold BX at h
 simp only at h
 cases hb:Nat.beq r (au 0) with
 | true=>rw [hb] at h; exact ⟨aph hb,(apN h).symm⟩
 | false=>rw [hb] at h; simp at h
theorem uJ {R:Root}:(BX R).roots (au 0)=some R:=by simp [BX]
theorem ZR (H:Rel cx σ α [] a w) (hw0:cx.w0=w) {R0:Root} (hR0:aR σ (au 0) R0) (oL:∀r,r≠au 0→σ.roots r=none) (hpar:R0.kind=.par) (hg0:R0.g=0) (hv0:bq σ R0)
  (hown:∀t∈R0.k.tys,ay t R0.own=true) {k':K} (hown':∀t∈k'.tys,ay t R0.own=true) (Vm:∀t∈(K.sl e kk).tys,ay t R0.own=true)
  {tb:Nat→List (El kk)} {dX:List NF} {dJ:List Nat} {iN:Nat→Value} {h0:iN 0=.slice none 0 0} {hs:∀i,∃a n c,iN i=.slice a n c}
  (hperm:(α.fo (au 0)).Perm (dJ++aS dX)) (hnd:(dX.map (·.1)).Nodup) (hrow:∀q∈dX, @Ow fr (hp w) R0.own (fun _=>False) (.sl e kk) (tb q.1) [q.2.1] q.2.2) (hid:∀q∈dX,iN q.1=q.2.1)
  {σ1:St} {dL:dK} {F1:List Nat} {a1:Act} {w':World} (H1 : @Rel (gI fr iN h0 hs) (Ar cx (aS dX)) σ1 dL F1 a1 w') {Q:Root} (hQ:σ1.roots (au 0)=some Q) (hQv:bq σ1 Q) (hQk:Q.k=k') (hQo:∀t∈k'.tys,ay t Q.own=true)
  {wt ht:List TypeId} (hwt:nJ Q.w wt=true∧nJ Q.ew wt=true) (hwk:∀t∈(K.sl e kk).tys,t∈wt) (Ze:qK∈ht)
  {y:El R0.k} {qO:List NF} (hP:Rw e kk true tb R0.k Q.k y Q.x (qO.map (·.1))) (hPs:∀q∈qO,q∈dX)
  {rs rs':List jy} {c:Cont (ig rs)} {c':Cont (ig rs')} {vs:List Value} {bz:List (List Nat)} {IB:List NF} (hRs:∀q∈IB,q∈dX) (hRR:RwR e kk tb rs rs' c c' (IB.map (·.1)))
  (hL : @KD (gI fr iN h0 hs) (Ar cx (aS dX)) σ1 dL F1 w' rs' c' vs bz) (hfn:bz.flatten.Nodup) (SK:∀b∈bz.flatten,b∈F1) (hall:((IB++qO).map (·.1)).Nodup)
  (Ia:∀j p ts v,cx.ptrs j p ts v→∃k,ts=eD p k) :
  ∃AX Lu,Rel cx (BX (oJ R0.k y R0.own wt ht)) AX Lu.flatten a1 w'∧KD cx (BX (oJ R0.k y R0.own wt ht)) AX Lu.flatten w' rs c vs Lu∧Lu.flatten.Nodup:=by
 have K0:=H.roots _ R0 hR0
 have hlv1:aR σ1 (au 0) Q:=⟨hQ,hQv.1⟩
 have K1:=@Rel.roots (gI fr iN h0 hs) _ _ _ _ _ _ H1 _ Q hlv1
 have adJ:=@uZ.ow (gI fr iN h0 hs) _ _ _ _ _ _ _ K1
 have Yd:=@uZ.len (gI fr iN h0 hs) _ _ _ _ _ _ _ K1
 have agw:=@uZ.mem (gI fr iN h0 hs) _ _ _ _ _ _ _ K1
 have adI:=@uZ.nd (gI fr iN h0 hs) _ _ _ _ _ _ _ K1
 have SX:=@uZ.mine (gI fr iN h0 hs) _ _ _ _ _ _ _ K1
 have Uo:∀r R,aR σ r R→r=au 0∧R=R0:=fun r R hr=>by
  by_cases e:r=au 0
  ·subst e; refine ⟨rfl, ?_⟩; have:=hr.1; rw [hR0.1] at this; exact (apN this).symm
  ·have:=hr.1; rw [oL r e] at this; simp at this
 obtain ⟨j0,pi0,n0,p1,p2,p3⟩:=H.JA _ R0 hR0 hpar
 obtain ⟨Q',q1,q2,q3,q4⟩:=@Rel.mQ (gI fr iN h0 hs) _ _ _ _ _ _ H1 j0 { pi0 with bl:=pi0.bl.filter fun b=>!ay b (aS dX) } (α.loc (au 0)).1 (α.loc (au 0)).2 n0 (by simp [Ar,p2]) p3
 rw [←p1] at q1 q3
 have eQ:Q'=Q:=by have:=q1.1; rw [hQ] at this; exact (apN this).symm
 subst eQ
 have Rt:blk α R0 (au 0)=(α.loc (au 0)).1 :: α.fo (au 0):=by unfold blk eB; rw [hpar]; rfl
 have hblk1:blk dL Q' (au 0)=(α.loc (au 0)).1 :: dL.fo (au 0):=by unfold blk eB; rw [q2]; simp [q3]
 have hsize:w.heap.size≤w'.heap.size:=by have:=(@Rel.frame (gI fr iN h0 hs) _ _ _ _ _ _ H1).2.2.2.1; simpa [Ar,hw0] using this
 have sO:=K0.nd
 rw [Rt] at sO
 have FE:=apL.1 sO
 have tN:=apk.1 (hperm.nodup FE.2)
 have hbad:∀b∈aS dX,b∈α.fo (au 0):=fun b hb=>hperm.mem_iff.2 (apf _ hb)
 have LC:∀b∈aS dX,b∈blk α R0 (au 0):=fun b hb=>by rw [Rt]; exact apC _ (hbad b hb)
 have hno:∀b∈aS dX,¬Ow.mine (Ar cx (aS dX)) w' b:=fun b hb hm=>by
  have hlt:=(K0.mine b (LC b hb)).1
  rcases hm.2 with h | ⟨j,FV,h1,h2⟩
  ·have:w.heap.size≤b:=by simpa [Ar,hw0] using h
   omega
  ·obtain ⟨pi,_,rfl⟩:=oI h1
   have:=(apv.1 h2).2
   rw [aL.2 hb] at this
   simp at this
 have hsame:∀b∈aS dX,hp w' b=hp w b:=fun b hb=>by
  have hlt:=(K0.mine b (LC b hb)).1
  have:=(@Rel.frame (gI fr iN h0 hs) _ _ _ _ _ _ H1).2.2.2.2.1 b (by simpa [Ar,hw0] using hlt) (fun j FV h1 h2=>by
   obtain ⟨pi,_,rfl⟩:=oI h1
   have:=(apv.1 h2).2
   rw [aL.2 hb] at this
   simp at this)
  simpa [Ar,hw0] using this
 have hrow':∀q∈dX, @Ow fr (hp w') R0.own (fun _=>False) (.sl e kk) (tb q.1) [q.2.1] q.2.2:=fun q hq=>
  bC (fun _ h=>h.elim) (fun _ h=>h) (fun b hb=>hsame b (apP.2 ⟨q,hq,hb⟩)) (hrow q hq)
 obtain ⟨Lu,r1,r2⟩:=ZT (fr:=fr) (cx:=cx) (gI fr iN h0 hs) rfl Vm hRR hL (fun q hq=>⟨hrow' q (hRs q hq),hid q (hRs q hq)⟩)
 have Vu:∀b∈aS IB,b∈aS dX:=fun b hb=>by
  obtain ⟨q,hq,h⟩:=apP.1 hb
  exact apP.2 ⟨q,hRs q hq,h⟩
 have LM:∀b∈aS qO,b∈aS dX:=fun b hb=>by
  obtain ⟨q,hq,h⟩:=apP.1 hb
  exact apP.2 ⟨q,hPs q hq,h⟩
 have hsel:(aS IB++aS qO).Nodup:=by
  have:=IA tN.2.1 hnd (l:=IB++qO) (fun q hq=>(apm.1 hq).elim (hRs q) (hPs q)) hall
  have e:aS (IB++qO)=aS IB++aS qO:=by simp [aS]
  rwa [e] at this
 obtain ⟨hnR,hnP,hRP⟩:=apk.1 hsel
 have hmF:∀b∈F1,Ow.mine (Ar cx (aS dX)) w' b:=@Rel.fl (gI fr iN h0 hs) _ _ _ _ _ _ H1
 have hmB:∀b∈(α.loc (au 0)).1 :: dL.fo (au 0),Ow.mine (Ar cx (aS dX)) w' b:=fun b hb=>SX b (by rw [hblk1]; exact hb)
 have Zk:∀b,Ow.mine (Ar cx (aS dX)) w' b→Ow.mine cx w' b:=fun b hb=>⟨hb.1,hb.2.imp (fun h=>h) (fun ⟨j,FV,h1,h2⟩=>by
  obtain ⟨pi,h3,rfl⟩:=oI h1
  exact ⟨j,pi,h3,(apv.1 h2).1⟩)⟩
 have Vp:∀b∈aS dX,Ow.mine cx w' b:=fun b hb=>by
  obtain ⟨m1,m2⟩:=K0.mine b (LC b hb)
  exact ⟨by omega,m2⟩
 have ahT:Lu.flatten.Nodup:=r2.nodup_iff.2 (apk.2 ⟨hfn,hnR,fun b hb c hc ebc=>by subst ebc; exact hno b (Vu b hc) (hmF b (SK b hb))⟩)
 have hFm:∀b∈Lu.flatten,b∈bz.flatten∨b∈aS IB:=fun b hb=>apm.1 (r2.mem_iff.1 hb)
 refine ⟨D9 (α.loc (au 0)) (dL.hdr (au 0)) (dL.fo (au 0)++aS qO),Lu, ?_,r1 _ _ _,ahT⟩
 have H9:∀{r R},aR (BX (oJ R0.k y R0.own wt ht)) r R→r=au 0∧R=oJ R0.k y R0.own wt ht:=fun h=>qM h.1
 have NZ:blk (D9 (α.loc (au 0)) (dL.hdr (au 0)) (dL.fo (au 0)++aS qO)) (oJ R0.k y R0.own wt ht) (au 0)=(α.loc (au 0)).1 :: (dL.fo (au 0)++aS qO):=rfl
 have Ry:=adI
 rw [hblk1] at Ry
 have ahS:=apL.1 Ry
 have hf1:=@Rel.frame (gI fr iN h0 hs) _ _ _ _ _ _ H1
 have hfd1:=@Rel.jB (gI fr iN h0 hs) _ _ _ _ _ _ H1
 have Az:∀b o,eB (D9 (α.loc (au 0)) (dL.hdr (au 0)) (dL.fo (au 0)++aS qO)) (oJ R0.k y R0.own wt ht) (au 0)=some (b,o)→α.loc (au 0)=(b,o):=fun b o h=>apN h
 have abM:R0.k.size=Q'.k.size:=hP.size.symm
 have Zo:∀j p ts v,cx.ptrs j p ts v→au j=au 0:=fun j p ts v h=>by
  obtain ⟨_,R,f1,_⟩:=H.zw j p ts v h
  refine apA fun e=>?_
  rw [oL _ e] at f1
  simp at f1
 have hdf:=@Rel.defs (gI fr iN h0 hs) _ _ _ _ _ _ H1
 have hsz0:=@Rel.sz (gI fr iN h0 hs) _ _ _ _ _ _ H1
 have hsz1:cx.nt≤a1.tmps.size:=hsz0
 have aev:=@Rel.wP (gI fr iN h0 hs) _ _ _ _ _ _ H1
 refine ⟨hdf,hsz1, ?_, ?_,fun s=>trivial,fun s=>trivial, ?_, ?_, ?_, ?_,ahT, ?_, ?_, ?_, ?_, ?_, ?_⟩
 ·intro j pi b o n hj hb
  obtain ⟨R,f1,f2,f3,f4⟩:=H.mQ j pi b o n hj hb
  obtain ⟨e1,rfl⟩:=Uo _ R f1
  rw [e1] at f3 ⊢
  exact ⟨_,⟨uJ,rfl⟩,rfl,f3,f4⟩
 ·intro r R hr _
  obtain ⟨rfl,rfl⟩:=H9 hr
  exact ⟨j0,pi0,n0,p1,p2,p3⟩
 ·intro r R hr
  obtain ⟨rfl,rfl⟩:=H9 hr
  refine ⟨fun _=>?_,by show (dL.hdr (au 0)).length=R0.k.size; rw [Yd,abM],fun b o hb=>?_, ?_,fun b hb=>?_⟩
  ·have o1 : @Ow (gI fr iN h0 hs) (hp w') R0.own (fun _=>False) Q'.k Q'.x (dL.hdr (au 0)) (dL.fo (au 0)):=by
    have hk1:∀t∈Q'.k.tys,ay t Q'.own=true:=fun t ht=>hQo t (by rw [←hQk]; exact ht)
    have hk2:∀t∈Q'.k.tys,ay t R0.own=true:=fun t ht=>hown' t (by rw [←hQk]; exact ht)
    exact @gP (gI fr iN h0 hs) _ _ _ _ _ _ _ _ (dm hk2) (@JV (gI fr iN h0 hs) _ _ _ _ _ _ _ _ (fun t ht=>by rw [hk1 t ht,hk2 t ht]) (adJ hQv))
   have o2:=O3 (fr:=fr) (gI fr iN h0 hs) hown hP o1 (fun q hq=>⟨hrow' q (hPs q hq),hid q (hPs q hq)⟩)
   exact gP (dm hown) o2
  ·have hbo:=Az b o hb
   obtain ⟨m1,arr,e',lo,hi,m2,m3,m4,m5⟩:=agw b o (by unfold eB; rw [q2]; simp [q3,hbo])
   exact ⟨m1,arr,e',lo,hi,m2,m3,by show o+R0.k.size≤_; rw [abM]; exact m4,fun t ht=>by simp [oJ] at ht⟩
  ·rw [NZ]
   refine apL.2 ⟨fun h=>?_,apk.2 ⟨ahS.2,hnP,fun b hb c hc ebc=>by subst ebc; exact hno b (LM b hc) (hmB b (apC _ hb))⟩⟩
   rcases apm.1 h with h | h
   ·exact ahS.1 h
   ·exact hno _ (LM _ h) (hmB _ apK)
  ·rw [NZ] at hb
   rcases apq.1 hb with h | h
   ·exact Zk b (hmB b (by rw [h]; exact apK))
   ·rcases apm.1 h with h | h
    ·exact Zk b (hmB b (apC _ h))
    ·exact Vp b (LM b h)
 ·intro r R hr
  obtain ⟨rfl,rfl⟩:=qM hr
  exact ⟨fun t ht=>by simp [oJ] at ht,pg 0,fun n hn=>by simp [oJ] at hn⟩
 ·intro r R r' R' hr hr' hne
  exact absurd ((H9 hr).1.trans (H9 hr').1.symm) hne
 ·intro b hb
  rcases hFm b hb with h | h
  ·exact Zk b (hmF b (SK b h))
  ·exact Vp b (Vu b h)
 ·intro r R hr b hb Jv
  obtain ⟨rfl,rfl⟩:=H9 hr
  rw [NZ] at hb
  have hc1:b∈(α.loc (au 0)).1 :: dL.fo (au 0)∨b∈aS qO:=by
   rcases apq.1 hb with h | h
   ·exact .inl (by rw [h]; exact apK)
   ·exact (apm.1 h).imp (fun h=>apC _ h) id
  rcases hc1 with h | h
  ·rcases hFm b Jv with g | g
   ·exact hfd1 _ Q' hlv1 b (by rw [hblk1]; exact h) (SK b g)
   ·exact hno b (Vu b g) (hmB b h)
  ·rcases hFm b Jv with g | g
   ·exact hno b (LM b h) (hmF b (SK b g))
   ·exact hRP b g b h rfl
 ·obtain ⟨f1,f2,f3,f4,f5,f6⟩:=hf1
  refine ⟨f1,f2,f3,f4,fun b hb hnb=>f5 b hb (fun j FV h1 h2=>?_),fun j pi b o n hj hb=>?_⟩
  ·obtain ⟨pi,h3,rfl⟩:=oI h1
   exact hnb j pi h3 (apv.1 h2).1
  ·exact f6 j { pi with bl:=pi.bl.filter fun b=>!ay b (aS dX) } b o n (by simp [Ar,hj]) hb
 ·intro j pi hj hkp
  obtain ⟨R,f1,_⟩:=H.wP j pi hj hkp
  have ej:au j=au 0:=apA fun ne=>by rw [oL _ ne] at f1; simp at f1
  refine ⟨oJ R0.k y R0.own wt ht,by rw [ej]; exact uJ,fun _ b hb hnb=>?_⟩
  have hone:∀q Q,aR (BX (oJ R0.k y R0.own wt ht)) q Q→b∈blk (D9 (α.loc (au 0)) (dL.hdr (au 0)) (dL.fo (au 0)++aS qO)) Q q→q=au j:=fun q Q hq _=>by rw [(H9 hq).1,ej]
  by_cases hbt:b∈aS dX
  ·by_cases hbR:b∈aS IB
   ·obtain ⟨q,hq,h⟩:=apP.1 hbR
    obtain ⟨t,t1,_,t3⟩:=uH (hrow q (hRs q hq)) b h
    exact .inl ⟨t,by rw [hw0]; exact t3, .inl (hwk t t1)⟩
   ·refine .inr ⟨by rw [hw0]; exact hsame b hbt,fun hF=>?_,hone⟩
    rcases hFm b hF with g | g
    ·exact hno b hbt (hmF b (SK b g))
    ·exact hbR g
  ·obtain ⟨R1,k1,k2⟩:=aev j { pi with bl:=pi.bl.filter fun b=>!ay b (aS dX) } (by simp [Ar,hj]) hkp
   have eR:R1=Q':=by rw [ej,hQ] at k1; exact (apN k1).symm
   subst eR
   rcases k2 hQv.1 b (apv.2 ⟨hb,by rw [aV.2 hbt]; rfl⟩) (fun h=>hnb (K6.1 h)) with ⟨t,t1,t2⟩ | ⟨t1,t2,_⟩
   ·exact .inl ⟨t,t1, .inl (t2.elim (jM.1 hwt.1 t) (jM.1 hwt.2 t))⟩
   ·refine .inr ⟨t1,fun hF=>?_,hone⟩
    rcases hFm b hF with g | g
    ·exact t2 (SK b g)
    ·exact hbt (Vu b g)
 ·refine ⟨fun j pi hj b hb=>H.qA.1 j pi hj b hb,fun b hb=>H.qA.2.1 b hb,fun b hb=>H.qA.2.2 b hb⟩
 ·intro j p ts v hv
  have ej:=Zo j p ts v hv
  obtain ⟨g1,R,f1,f2⟩:=H.zw j p ts v hv
  obtain ⟨k0,rfl⟩:=Ia j p ts v hv
  refine ⟨g1,oJ R0.k y R0.own wt ht,by rw [ej]; exact uJ,fun hts=>?_⟩
  cases p with
  | cons s p=>exact absurd Ze (hts qK (by simp [eD]))
  | nil=>
   refine ⟨g1,fun R' hR' _ _ _ _=>?_⟩
   rw [ej] at hR'
   obtain ⟨_,rfl⟩:=qM hR'
   obtain ⟨_,cs,b,o,hn,ev⟩:=(f2 (fun t ht=>by simp [eD] at ht)).2 R0 (by rw [ej]; exact hR0.1) hv0 (by unfold eD clean; simp [ay]) (fun t ht=>by simp [ah] at ht) rfl
   rw [ej] at hn
   simp only [bF,apd,apo] at hn
   refine ⟨trivial,dL.hdr (au 0),b,o, ?_,ev⟩
   have h2:=hn.2
   unfold eB at h2
   rw [hpar] at h2
   rw [ej]
   simp only [bF]
   exact congrArg (fun z=>some (dL.hdr (au 0),z)) h2
 ·intro j v hv
  obtain ⟨⟨R,f1⟩,f2⟩:=H.zy j v hv
  have ej:au j=au 0:=apA fun ne=>by rw [oL _ ne] at f1; simp at f1
  rw [ej] at f2
  have:=(f2 R0 hR0 hg0).1
  rw [hpar] at this
  simp at this
end
end
section
open Go
def fC:List cZ→Bool
 | []=>true
 | .val k [] :: l=>Em k && fC l
 | .fn _ ks :: l=>ks.all Em && fC l
 | _=>false
section
variable [Fr]
theorem tT:∀{ps:List cZ} {i:Nat} {c:Cont (kin ps)},fC ps=true→gD ps i c=[]
 | [],_,_,_=>rfl
 | .val k [] :: ps,i,c,h=>by
  simp only [fC,apj] at h
  exact tT (ps:=ps) (i:=i+1) (c:=c.2) h.2
 | .fn f ks :: ps,i,c,h=>by
  simp only [fC,apj] at h
  exact tT (ps:=ps) (i:=i+1) (c:=Cont.snd ks (kin ps) c) h.2
 | .val _ (_ :: _) :: _,_,_,h=>by simp [fC] at h
 | .ro _ :: _,_,_,h=>by simp [fC] at h
 | .rw _ _ _ _ :: _,_,_,h=>by simp [fC] at h
 | .jl _ _ _ :: _,_,_,h=>by simp [fC] at h
 | .own _ _ :: _,_,_,h=>by simp [fC] at h
 | .into _ _ :: _,_,_,h=>by simp [fC] at h
theorem Vj (i:Nat):∀{ks:List K} {c:Cont ks},ks.all Em=true→∀q∈eT.Aj i ks c,Em q.2.1.1=true∧Ud q.2.2∧q.1=SENT
 | [],_,_,q,hq=>by simp [eT.Aj] at hq
 | k :: ks,c,h,q,hq=>by
  simp only [List.all_cons,apj] at h
  simp only [eT.Aj] at hq
  rcases apq.1 hq with rfl | hq
  ·exact ⟨h.1,fun t ht=>by simp only [apx] at ht; subst ht; exact iO i,rfl⟩
  ·exact Vj i h.2 q hq
theorem AQ:∀{ps:List cZ} {i:Nat} {c:Cont (kin ps)},fC ps=true→∀s,Fp (iG (eT ps i c) s)
 | [],_,_,_,s=>trivial
 | .val k [] :: ps,i,c,h,s=>by
  simp only [fC,apj] at h
  simp only [eT,iG]
  cases Nat.beq s i with
  | true=>
   refine ⟨h.1,fun t ht=>?_⟩
   cases hf:k.flat with
   | true=>rw [hf] at ht; simp at ht
   | false=>rw [hf] at ht; simp at ht; subst ht; exact iO i
  | false=>exact AQ (ps:=ps) (i:=i+1) (c:=c.2) h.2 s
 | .fn f ks :: ps,i,c,h,s=>by
  simp only [fC,apj] at h
  simp only [eT,iG]
  cases Nat.beq s i with
  | true=>exact Vj i h.1
  | false=>exact AQ (ps:=ps) (i:=i+1) (c:=Cont.snd ks (kin ps) c) h.2 s
 | .val _ (_ :: _) :: _,_,_,h,_=>by simp [fC] at h
 | .ro _ :: _,_,_,h,_=>by simp [fC] at h
 | .rw _ _ _ _ :: _,_,_,h,_=>by simp [fC] at h
 | .jl _ _ _ :: _,_,_,h,_=>by simp [fC] at h
 | .own _ _ :: _,_,_,h,_=>by simp [fC] at h
 | .into _ _ :: _,_,_,h,_=>by simp [fC] at h
theorem FZ {σ:St}:∀{ps:List cZ} {i:Nat} {c:Cont (jL ps)},fC ps=true→Fh σ ps i c
 | [],_,_,_=>trivial
 | .val k [] :: ps,i,c,h=>by
  simp only [fC,apj] at h
  exact FZ (ps:=ps) (i:=i+1) (c:=c) h.2
 | .fn f ks :: ps,i,c,h=>by
  simp only [fC,apj] at h
  exact FZ (ps:=ps) (i:=i+1) (c:=c) h.2
 | .val _ (_ :: _) :: _,_,_,h=>by simp [fC] at h
 | .ro _ :: _,_,_,h=>by simp [fC] at h
 | .rw _ _ _ _ :: _,_,_,h=>by simp [fC] at h
 | .jl _ _ _ :: _,_,_,h=>by simp [fC] at h
 | .own _ _ :: _,_,_,h=>by simp [fC] at h
 | .into _ _ :: _,_,_,h=>by simp [fC] at h
theorem Vd {e:TypeId} {kk:K} {z:Bool} {tb:Nat→List (El kk)} {k k1 k2:K} {x:El k} {y1:El k1} {y2:El k2} {ns:List Nat} (ek:k1=k2) (ey:y2=ek▸y1) (h:Rw e kk z tb k k2 x y2 ns):Rw e kk z tb k k1 x y1 ns:=by
 subst ek
 simp only at ey
 subst ey
 exact h
end
theorem VD [fr:Fr] {e:TypeId} {kk:K} {P:Program} {n:Nat} {f:FuncId} {k k':K} {ow wt ht sK ht':List TypeId} {rest:List cZ} {rs rs':List jy}
  {F:Nat→Cont (kin (.rw k ow wt ht :: rest))→Option (Cont (ig rs++jL (.rw k ow wt ht :: rest)))} {F':Nat→Cont (kin (.rw k' ow sK ht' :: rest))→Option (Cont (ig rs'++jL (.rw k' ow sK ht' :: rest)))}
  (hrest:fC rest=true) (hown:∀t∈k.tys,ay t ow=true) (hown':∀t∈k'.tys,ay t ow=true) (Vm:∀t∈(K.sl e kk).tys,ay t ow=true)
  (hE:∀fr:Fr, @ak fr P n ⟨f, .rw k' ow sK ht' :: rest,rs',F'⟩) (hwt:nJ sK wt=true) (hwk:∀t∈(K.sl e kk).tys,t∈wt) (Ze:qK∈ht)
  (hF:∀c out,F n c=some out→∃(x':El k') (ns ms1 ms2:List Nat) (tb:Nat→List (El kk)) (out':Cont (ig rs'++jL (.rw k' ow sK ht' :: rest))),Rw e kk false tb k k' c.1 x' ns∧ns.Nodup∧0∉ns∧F' n (x',c.2)=some out'∧
   RwR e kk tb rs rs' (Cont.fst _ _ out) (Cont.fst _ _ out') ms1∧Rw e kk true tb k k' (Cont.snd _ _ out).1 (Cont.snd _ _ out').1 ms2∧(ms1++ms2).Nodup∧∀m∈ms1++ms2,m∈ns) :
  ak P n ⟨f, .rw k ow wt ht :: rest,rs,F⟩:=by
 intro c out hout cx α args w hnt hw hsz hP H
 obtain ⟨x',ns,ms1,ms2,tb,out',hR,hnd,hn0,hF',hRR,hRP,hmm,hsub⟩:=hF c out hout
 have ha:(k.tys.all fun t=>ay t ow)=true:=apt.2 hown
 have ha':(k'.tys.all fun t=>ay t ow)=true:=apt.2 hown'
 have Ec:∀r,(bS (.rw k ow wt ht :: rest) c).roots r=bif Nat.beq r (au 0) then some (aP k c.1 ow [] .par true) else none:=fun r=>by
  show gH (gD (.rw k ow wt ht :: rest) 0 c) r=_
  simp only [gD,tT hrest,gH,ha,cond_true]
 have hR0:aR (bS (.rw k ow wt ht :: rest) c) (au 0) (aP k c.1 ow [] .par true):=⟨by rw [Ec]; simp,rfl⟩
 have oL:∀r,r≠au 0→(bS (.rw k ow wt ht :: rest) c).roots r=none:=fun r hr=>by
  rw [Ec]
  have:Nat.beq r (au 0)=false:=by
   cases hb:Nat.beq r (au 0) with
   | true=>exact absurd (aph hb) hr
   | false=>rfl
  rw [this]; rfl
 have hsl:∀s,Fp ((bS (.rw k ow wt ht :: rest) c).slots s):=fun s=>by
  show Fp (iG (eT (.rw k ow wt ht :: rest) 0 c) s)
  simp only [eT,iG]
  cases Nat.beq s 0 with
  | true=>exact ⟨rfl,rfl,rfl⟩
  | false=>exact AQ hrest s
 obtain ⟨dX,dJ,iN,i0,is,g1,g2,g3,g4,Y0⟩:=Xo H hw hR0 oL rfl rfl hown (Vm e (by simp [K.tys])) hsl (k':=k') (x':=x') hR hnd hn0 hown'
 have hst:az (bS (.rw k ow wt ht :: rest) c) (au 0) { aP k c.1 ow [] .par true with k:=k',x:=x' }=bS (.rw k' ow sK ht' :: rest) (x',c.2):=by
  unfold az bS
  congr 1
  funext r
  show upd (bS (.rw k ow wt ht :: rest) c).roots (au 0) _ r=gH (gD (.rw k' ow sK ht' :: rest) 0 (x',c.2)) r
  simp only [gD,tT hrest,gH,ha',cond_true]
  unfold upd
  cases hb:Nat.beq r (au 0) with
  | true=>rfl
  | false=>simp only [cond_false]; rw [Ec,hb]; rfl
 rw [hst] at Y0
 have hP':He (Ar cx (aS dX)) (.rw k' ow sK ht' :: rest):=by
  refine ⟨fun j FV hj hkp=>?_,fun j p ts v h=>h.elim,fun j v h=>h.elim⟩
  obtain ⟨pi,hj',rfl⟩:=oI hj
  obtain ⟨k0,o1,o2,o3,h⟩:=hP.par j pi hj' hkp
  cases j with
  | zero=>exact ⟨k',ow,sK,ht', .inl rfl⟩
  | succ j=>exact ⟨k0,o1,o2,o3,by simpa using h⟩
 have h:=hE (gI fr iN i0 is) (x',c.2) out' hF' (Ar cx (aS dX)) _ args w hnt hw hsz hP' Y0
 have hpost:∀v w', @Post (gI fr iN i0 is) (Ar cx (aS dX)) (.rw k' ow sK ht' :: rest) rs' out' v w'→@Post fr cx (.rw k ow wt ht :: rest) rs out v w':=by
  rintro v w' ⟨σ1,dL,F1,a1,vs,bz,H1,rfl,hL,hfn,SK,hOut,_⟩
  obtain ⟨Q,q1,q2,⟨ek,ey⟩,q4,q5,_⟩:=hOut
  have hRQ:=Vd ek ey hRP
  obtain ⟨IB,t1,t2⟩:=select (dX:=dX) (ns:=ms1) (fun m hm=>by rw [g1]; exact hsub m (api _ hm))
  obtain ⟨qO,t3,t4⟩:=select (dX:=dX) (ns:=ms2) (fun m hm=>by rw [g1]; exact hsub m (apf _ hm))
  have yJ:=q5
  unfold DJ at yJ
  simp only [apj] at yJ
  obtain ⟨⟨⟨⟨l1,l2⟩,_⟩,_⟩,_⟩:=yJ
  have htr:∀{l:List Nat},nJ l sK=true→nJ l wt=true:=fun hl=>jM.2 fun t ht=>jM.1 hwt t (jM.1 hl t ht)
  obtain ⟨AX,Lu,r1,r2,r3⟩:=ZR (fr:=fr) H hw hR0 oL rfl rfl ⟨rfl,rfl⟩ hown hown' Vm g2 (by rw [g1]; exact hnd) g3 g4 H1 q1 q2 ek (fun t ht=>by
    have:=apt.1 q4 t ht
    rw [hown' t ht] at this
    simpa using this) (wt:=wt) (ht:=ht) ⟨htr l1,htr l2⟩ hwk Ze (y:=(Cont.snd _ _ out).1) (qO:=qO) (by rw [t3]; exact hRQ) t4 (IB:=IB) t2 (by rw [t1]; exact hRR) hL hfn SK
    (by rw [List.map_append,t1,t3]; exact hmm) (fun j p ts v h=>by obtain ⟨k0,_,h⟩:=hP.ptr j p ts v h; exact ⟨k0,h⟩)
  refine ⟨_,AX,Lu.flatten,a1,vs,Lu,r1,rfl,r2,r3,fun b hb=>hb,⟨_,uJ,⟨rfl,rfl⟩,⟨rfl,rfl⟩, ?_, ?_, .inl ha⟩,FZ hrest⟩
  ·exact apt.2 fun t _=>by simp [oJ]; rfl
  ·unfold DJ oJ
   simp only [nJ,List.all_nil,apj,apt]
   exact ⟨⟨⟨⟨fun x hx=>aL.2 hx,trivial⟩,fun x hx=>aL.2 hx⟩,fun x hx=>aL.2 hx⟩,rfl⟩
 rcases h with ⟨h1,h2⟩ | ⟨v,w',h1,h2⟩
 ·refine .inl ⟨h1,h2.mono ?_⟩
  rintro e w' ⟨v,rfl,hv⟩
  exact ⟨v,rfl,hpost v w' hv⟩
 ·exact .inr ⟨v,w',h1,hpost v w' h2⟩
end
section
open Go
theorem KE {e:TypeId} {kk:K} {z:Bool} {tb:Nat→List (El kk)} {k k':K} {t:TypeId} {C:Type} (hsz:k'.size=k.size) (l:List C) (f:C→El k) (g:C→El k') (q:C→List Nat)
  (h:∀c∈l,Rw e kk z tb k k' (f c) (g c) (q c)):Rw e kk z tb (.sl t k) (.sl t k') (l.map f) (l.map g) (l.map q).flatten:=by
 unfold Rw
 refine ⟨rfl,hsz,by simp,l.map q,by simp,rfl,fun i h1 h2=>?_⟩
 have hi:i<l.length:=by simpa using h1
 have:=h l[i] (apG hi)
 simpa [apr,hi] using this
theorem qh {C:Type} (xs:List C):((xs.zipIdx 1).map (·.2)).Nodup∧0∉(xs.zipIdx 1).map (·.2):=by
 rw [List.zipIdx_map_snd]
 exact ⟨List.nodup_range',by simp⟩
theorem FR {C:Type} (xs:List C):(xs.zipIdx 1).map (·.1)=xs:=List.zipIdx_map_fst ..
theorem P7 {C R:Type} {xs:List C} {m:C→R} {d:R} {x:C} {i:Nat} (h:(x,i)∈xs.zipIdx 1):((xs[i - 1]?).map m).getD d=m x∧i≠0:=by
 obtain ⟨h1,h2,h3⟩:=List.mem_zipIdx h
 have hi:i - 1<xs.length:=by omega
 exact ⟨by simp [hi,h3],by omega⟩
end
section
open Go
section
variable {e:TypeId} {kk:K} [fr:Fr]
variable {cx:Cx} {σ:St} {α:dK} {a:Act} {w:World}
def MW (cx:Cx) (bad:List Nat):Cx:={ Ar cx bad with refs:=cx.refs }
theorem QZ {bad:List Nat} {σ':St} {α':dK} {F':List Nat}:∀{cs:List (TypeId×Dat×List Tag)} {vs:List Value},kK (Ar cx bad) σ' α' F' w cs vs→kK (MW cx bad) σ' α' F' w cs vs
 | [],[],_=>trivial
 | _ :: _,_ :: _,h=>⟨h.1,QZ h.2⟩
 | [],_ :: _,h=>h.elim
 | _ :: _,[],h=>h.elim
theorem adj {bad:List Nat} {σ':St} {α':dK} {F':List Nat} {x:AV} {v:Value} (h:bI (Ar cx bad) σ' α' F' w x v):bI (MW cx bad) σ' α' F' w x v:=by
 cases x with
 | fn f cs=>obtain ⟨vs,h1,h2⟩:=h; exact ⟨vs,h1,QZ h2⟩
 | _=>exact h
theorem Ym {e1 e2:TypeId} {k1 k2:K} {v:Value} {cs:List Value} (h:VC (.sl e1 k1) v cs):VC (.sl e2 k2) v cs:=h
def mE (k:K) (x:El k) (ow wt ht:List TypeId):Root:={ k,x,own:=ow,tags:=[],w:=wt,h:=ht,g:=0,kind:=.anon,fixed:=true,keep:=true,ew:=[],eh:=ht }
theorem Uu (H:Rel cx σ α [] a w) (hw0:cx.w0=w) {R0:Root} {e1:TypeId} {k1:K} (hk0:R0.k=.sl e1 k1) (hR0:aR σ (au 0) R0) (oL:∀r,r≠au 0→σ.roots r=none) (DI:R0.kind=.anon) (su:R0.tags=[]) (hown:∀t∈R0.k.tys,ay t R0.own=true) (he:ay e R0.own=true)
  (hs0:σ.slots 0=.one (.ref (au 0) 0)) (hsl:∀s,s≠0→Fp (σ.slots s)) {e2:TypeId} {k2:K} {x':El (.sl e2 k2)} {tb:Nat→List (El kk)} {ns:List Nat} (hR:Rw e kk false tb R0.k (.sl e2 k2) R0.x x' ns) (hnd:ns.Nodup) (hn0:0∉ns) (hown':∀t∈(K.sl e2 k2).tys,ay t R0.own=true) (hg0:R0.g=0) :
  ∃(dX:List NF) (dJ:List Nat) (iN:Nat→Value) (h0:iN 0=.slice none 0 0) (hs:∀i,∃a n c,iN i=.slice a n c),dX.map (·.1)=ns∧(α.fo (au 0)).Perm (dJ++aS dX)∧
   (∀q∈dX, @Ow fr (hp w) R0.own (fun _=>False) (.sl e kk) (tb q.1) [q.2.1] q.2.2)∧(∀q∈dX,iN q.1=q.2.1)∧
   @Rel (gI fr iN h0 hs) (MW cx (aS dX)) (az σ (au 0) { R0 with k:=.sl e2 k2,x:=x' }) (aJ α (au 0) (α.loc (au 0)) (α.hdr (au 0)) dJ) [] a w:=by
 have KR:=H.roots _ R0 hR0
 have hv0:bq σ R0:=⟨hR0.2,by rw [su]; rfl⟩
 have hO:Ow (hp w) R0.own (fun _=>False) R0.k R0.x (α.hdr (au 0)) (α.fo (au 0)):=gP (dm hown) (KR.ow hv0)
 obtain ⟨dX,dJ,g1,g2,g3,g4⟩:=QE hown hR hO
 obtain ⟨iN,i1,i2,i3⟩:=Uq (dX:=dX) (by rw [g1]; exact hnd) (by rw [g1]; exact hn0) (fun q hq=>VO he (g3 q hq))
 refine ⟨dX,dJ,iN,i1,i2,g1,g2,g3,i3, ?_⟩
 have hblk:blk α R0 (au 0)=α.fo (au 0):=by unfold blk eB; rw [DI]; rfl
 have hsub:∀b∈dJ,b∈α.fo (au 0):=fun b hb=>g2.mem_iff.2 (api _ hb)
 have hbad:∀b∈aS dX,b∈α.fo (au 0):=fun b hb=>g2.mem_iff.2 (apf _ hb)
 have L:DD cx σ α R0 { R0 with k:=.sl e2 k2,x:=x' } dJ (aS dX):=⟨fun r R hr=>by
  by_cases e:r=au 0
  ·subst e; refine ⟨rfl, ?_⟩; have:=hr.1; rw [hR0.1] at this; exact (apN this).symm
  ·have:=hr.1; rw [oL r e] at this; simp at this,hR0,rfl,su,hsub,hbad⟩
 have sO:=KR.nd
 rw [hblk] at sO
 have tN:=apk.1 (g2.nodup sO)
 have hlv:∀{q Q},aR (az σ (au 0) { R0 with k:=.sl e2 k2,x:=x' }) q Q→q=au 0∧Q={ R0 with k:=.sl e2 k2,x:=x' }:=fun {q Q} hq=>by
  rcases jC hq with ⟨rfl,rfl,_⟩ | ⟨e,hq'⟩
  ·exact ⟨rfl,rfl⟩
  ·exact absurd (L.only q Q hq').1 e
 have hlv1:aR (az σ (au 0) { R0 with k:=.sl e2 k2,x:=x' }) (au 0) { R0 with k:=.sl e2 k2,x:=x' }:=⟨aK ..,hR0.2⟩
 have hblk':blk (aJ α (au 0) (α.loc (au 0)) (α.hdr (au 0)) dJ) { R0 with k:=.sl e2 k2,x:=x' } (au 0)=dJ:=by
  rw [eO]; unfold iF; simp only [DI]; rfl
 have Dt:∀v,bI cx σ α [] w (.ref (au 0) 0) v→@bI (gI fr iN i1 i2) (MW cx (aS dX)) (az σ (au 0) { R0 with k:=.sl e2 k2,x:=x' }) (aJ α (au 0) (α.loc (au 0)) (α.hdr (au 0)) dJ) [] w (.ref (au 0) 0) v:=by
  intro v hv Q hQ _
  obtain ⟨_,rfl⟩:=hlv hQ
  obtain ⟨h1,h2⟩:=hv R0 hR0 hg0
  refine ⟨DI, ?_⟩
  rw [hk0] at h2
  simp only [aJ,upd_same]
  exact Ym h2
 have Y4:∀{x:yQ} {v:Value},Fp x→@jT fr cx σ α [] w x v→@jT (gI fr iN i1 i2) (MW cx (aS dX)) (az σ (au 0) { R0 with k:=.sl e2 k2,x:=x' }) (aJ α (au 0) (α.loc (au 0)) (α.hdr (au 0)) dJ) [] w x v:=fun hx h=>by
  have h1:=DD.av (fr:=fr) (gI fr iN i1 i2) rfl L hx h
  rename_i x v
  cases x with
  | J7 l=>exact hx.elim
  | one x=>exact @adj (gI fr iN i1 i2) _ _ _ _ _ _ _ _ h1
 have jJ:∀b∈dJ,Ow.mine (MW cx (aS dX)) w b:=fun b hb=>by
  obtain ⟨m1,m2⟩:=KR.mine b (by rw [hblk]; exact hsub b hb)
  refine ⟨m1, ?_⟩
  rcases m2 with m2 | ⟨j,pi,m2,m3⟩
  ·exact .inl m2
  ·refine .inr ⟨j,{ pi with bl:=pi.bl.filter fun b=>!ay b (aS dX) },by simp [MW,Ar,m2],apv.2 ⟨m3, ?_⟩⟩
   have:ay b (aS dX)=false:=by
    rw [aV]
    intro hm
    exact tN.2.2 b hb b hm rfl
   rw [this]; rfl
 have Nn:∀{j:Nat} {FV:V7},(MW cx (aS dX)).par j=some FV→∃pi,cx.par j=some pi∧FV={ pi with bl:=pi.bl.filter fun b=>!ay b (aS dX) }:=fun h=>oI (cx:=cx) h
 have hpl:=H.qA
 refine @Rel.mk (gI fr iN i1 i2) _ _ _ _ _ _ H.defs H.sz ?_ ?_ ?_ ?_ ?_ ?_ ?_ (fun b hb=>by simp at hb) List.nodup_nil (fun r R hr b hb h=>by simp at h) ?_ ?_ ?_ (fun j p ts v h=>h.elim) ?_
 ·intro j FV b o n hj hb
  obtain ⟨pi,hj',rfl⟩:=Nn hj
  obtain ⟨R,f1,f2,_⟩:=H.mQ j pi b o n hj' hb
  obtain ⟨_,rfl⟩:=L.only _ R f1
  rw [DI] at f2
  simp at f2
 ·intro r R hr hk
  obtain ⟨rfl,rfl⟩:=hlv hr
  have hk:R0.kind=.par:=hk
  rw [DI] at hk
  simp at hk
 ·intro s
  show @jT (gI fr iN i1 i2) _ _ _ _ _ (σ.slots s) _
  by_cases h0:s=0
  ·subst h0
   have:=H.slots 0
   rw [hs0] at this ⊢
   exact Dt _ this
  ·exact Y4 (hsl s h0) (H.slots s)
 ·intro s
  show Ah _ (σ.slots s)
  by_cases h0:s=0
  ·subst h0
   rw [hs0]
   exact ⟨_,aK .., .inr (apM _)⟩
  have hs:=hsl s h0
  cases hx:σ.slots s with
  | J7 l=>rw [hx] at hs; exact hs.elim
  | one x=>
   rw [hx] at hs
   cases x with
   | undef=>trivial
   | ptr r p n=>obtain ⟨rfl,rfl,rfl⟩:=hs; exact ⟨_,aK .., .inr (apM _)⟩
   | val k x T=>exact fun t ht=>.inl (hs.2 t ht)
   | fn f cs=>exact fun c hc t ht=>.inl ((hs c hc).2.1 t ht)
   | _=>exact hs.elim
 ·intro r R hr
  obtain ⟨rfl,rfl⟩:=hlv hr
  refine @uZ.mk (gI fr iN i1 i2) _ _ _ _ _ _ _ (fun _=>?_) ?_ ?_ ?_ ?_
  ·have e1:(aJ α (au 0) (α.loc (au 0)) (α.hdr (au 0)) dJ).hdr (au 0)=α.hdr (au 0):=by simp [aJ,upd_same]
   have e2:(aJ α (au 0) (α.loc (au 0)) (α.hdr (au 0)) dJ).fo (au 0)=dJ:=by simp [aJ,upd_same]
   rw [e1,e2]
   exact @gP (gI fr iN i1 i2) _ _ _ _ _ _ _ _ (dm hown') (g4 (gI fr iN i1 i2) rfl i3)
  ·show ((aJ α (au 0) (α.loc (au 0)) (α.hdr (au 0)) dJ).hdr (au 0)).length=(K.sl e2 k2).size
   rw [hR.size]
   simpa [aJ,upd_same] using KR.len
  ·intro b o hb
   rw [L.wh] at hb
   unfold eB at hb
   rw [DI] at hb
   simp at hb
  ·rw [hblk']
   exact tN.1
  ·intro b hb
   rw [hblk'] at hb
   exact jJ b hb
 ·intro r R hr
  by_cases e:r=au 0
  ·subst e
   rw [aK] at hr
   have hr:=apN hr
   subst hr
   exact ⟨fun t ht=>by rw [show ({ R0 with k:=.sl e2 k2,x:=x' }:Root).tags=R0.tags from rfl,su] at ht; simp at ht,pg 0,fun n hn=>by rw [show ({ R0 with k:=.sl e2 k2,x:=x' }:Root).tags=R0.tags from rfl,su] at hn; simp at hn⟩
  ·rw [bZ _ _ e,oL r e] at hr; simp at hr
 ·intro r R r' R' hr hr' hne
  exact absurd ((hlv hr).1.trans (hlv hr').1.symm) hne
 ·obtain ⟨f1,f2,f3,f4,f5,f6⟩:=H.frame
  refine ⟨f1,f2,f3,f4,fun b _ _=>by show hp w b=hp cx.w0 b; rw [hw0],fun j FV b o n hj hb=>?_⟩
  obtain ⟨pi,hj',rfl⟩:=Nn hj
  exact f6 j pi b o n hj' hb
 ·intro j FV hj hkp
  obtain ⟨pi,hj',rfl⟩:=Nn hj
  obtain ⟨R,f1,f2⟩:=H.wP j pi hj' hkp
  by_cases e:au j=au 0
  ·refine ⟨_,by rw [e]; exact aK ..,fun _ b hb hnb=>.inr ⟨by show hp w b=hp cx.w0 b; rw [hw0],by simp,fun q Q hq _=>by rw [(hlv hq).1,e]⟩⟩
  ·rw [oL _ e] at f1; simp at f1
 ·refine ⟨fun j FV hj b hb=>?_,fun b hb=>⟨?_,fun j FV hj hbl=>?_⟩,fun b hb=>hpl.2.2 b hb⟩
  ·obtain ⟨pi,hj',rfl⟩:=Nn hj
   exact hpl.1 j pi hj' b (apv.1 hb).1
  ·exact (hpl.2.1 b hb).1
  ·obtain ⟨pi,hj',rfl⟩:=Nn hj
   exact (hpl.2.1 b hb).2 j pi hj' (apv.1 hbl).1
 ·intro j v hv
  have hv:cx.refs j v:=hv
  obtain ⟨⟨R,f1⟩,f2⟩:=H.zy j v hv
  have ej:au j=au 0:=apA fun ne=>by rw [oL _ ne] at f1; simp at f1
  rw [ej] at f2 ⊢
  exact ⟨⟨_,aK ..⟩,Dt v f2⟩
theorem Xn (H:Rel cx σ α [] a w) (hw0:cx.w0=w) {R0:Root} {e1:TypeId} {k1:K} (hk0:R0.k=.sl e1 k1) (hR0:aR σ (au 0) R0) (oL:∀r,r≠au 0→σ.roots r=none) (DI:R0.kind=.anon) (hg0:R0.g=0) (hv0:bq σ R0)
  (hown:∀t∈R0.k.tys,ay t R0.own=true) {e2:TypeId} {k2:K} (hown':∀t∈(K.sl e2 k2).tys,ay t R0.own=true) (Vm:∀t∈(K.sl e kk).tys,ay t R0.own=true)
  {tb:Nat→List (El kk)} {dX:List NF} {dJ:List Nat} {iN:Nat→Value} {h0:iN 0=.slice none 0 0} {hs:∀i,∃a n c,iN i=.slice a n c}
  (hperm:(α.fo (au 0)).Perm (dJ++aS dX)) (hnd:(dX.map (·.1)).Nodup) (hrow:∀q∈dX, @Ow fr (hp w) R0.own (fun _=>False) (.sl e kk) (tb q.1) [q.2.1] q.2.2) (hid:∀q∈dX,iN q.1=q.2.1)
  {σ1:St} {dL:dK} {F1:List Nat} {a1:Act} {w':World} (H1 : @Rel (gI fr iN h0 hs) (MW cx (aS dX)) σ1 dL F1 a1 w') {Q:Root} (hQ:σ1.roots (au 0)=some Q) (hQv:bq σ1 Q) (hQk:Q.k=.sl e2 k2) (hQo:∀t∈(K.sl e2 k2).tys,ay t Q.own=true) (hQn:Q.kind=.anon) (hQg:Q.g=0)
  {wt:List TypeId} (hwt:nJ Q.w wt=true∧nJ Q.ew wt=true)
  {y:El R0.k} {qO:List NF} (hP:Rw e kk true tb R0.k Q.k y Q.x (qO.map (·.1))) (hPs:∀q∈qO,q∈dX) (hall:(qO.map (·.1)).Nodup)
  (Ia:∀j p ts v,cx.ptrs j p ts v→j=0→ts=eD p R0.k) :
  Rel cx (BX (mE R0.k y R0.own wt R0.k.tys)) (D9 (α.loc (au 0)) (dL.hdr (au 0)) (dL.fo (au 0)++aS qO)) [] a1 w':=by
 have K0:=H.roots _ R0 hR0
 have hlv1:aR σ1 (au 0) Q:=⟨hQ,hQv.1⟩
 have K1:=@Rel.roots (gI fr iN h0 hs) _ _ _ _ _ _ H1 _ Q hlv1
 have adJ:=@uZ.ow (gI fr iN h0 hs) _ _ _ _ _ _ _ K1
 have Yd:=@uZ.len (gI fr iN h0 hs) _ _ _ _ _ _ _ K1
 have adI:=@uZ.nd (gI fr iN h0 hs) _ _ _ _ _ _ _ K1
 have SX:=@uZ.mine (gI fr iN h0 hs) _ _ _ _ _ _ _ K1
 have Uo:∀r R,aR σ r R→r=au 0∧R=R0:=fun r R hr=>by
  by_cases e:r=au 0
  ·subst e; refine ⟨rfl, ?_⟩; have:=hr.1; rw [hR0.1] at this; exact (apN this).symm
  ·have:=hr.1; rw [oL r e] at this; simp at this
 have Rt:blk α R0 (au 0)=α.fo (au 0):=by unfold blk eB; rw [DI]; rfl
 have hblk1:blk dL Q (au 0)=dL.fo (au 0):=by unfold blk eB; rw [hQn]; rfl
 have hsize:w.heap.size≤w'.heap.size:=by have:=(@Rel.frame (gI fr iN h0 hs) _ _ _ _ _ _ H1).2.2.2.1; simpa [MW,Ar,hw0] using this
 have sO:=K0.nd
 rw [Rt] at sO
 have tN:=apk.1 (hperm.nodup sO)
 have hbad:∀b∈aS dX,b∈α.fo (au 0):=fun b hb=>hperm.mem_iff.2 (apf _ hb)
 have LC:∀b∈aS dX,b∈blk α R0 (au 0):=fun b hb=>by rw [Rt]; exact hbad b hb
 have Nn:∀{j:Nat} {FV:V7},(MW cx (aS dX)).par j=some FV→∃pi,cx.par j=some pi∧FV={ pi with bl:=pi.bl.filter fun b=>!ay b (aS dX) }:=fun h=>oI (cx:=cx) h
 have hno:∀b∈aS dX,¬Ow.mine (MW cx (aS dX)) w' b:=fun b hb hm=>by
  have hlt:=(K0.mine b (LC b hb)).1
  rcases hm.2 with h | ⟨j,FV,h1,h2⟩
  ·have:w.heap.size≤b:=by simpa [MW,Ar,hw0] using h
   omega
  ·obtain ⟨pi,_,rfl⟩:=Nn h1
   have:=(apv.1 h2).2
   rw [aL.2 hb] at this
   simp at this
 have hsame:∀b∈aS dX,hp w' b=hp w b:=fun b hb=>by
  have hlt:=(K0.mine b (LC b hb)).1
  have:=(@Rel.frame (gI fr iN h0 hs) _ _ _ _ _ _ H1).2.2.2.2.1 b (by simpa [MW,Ar,hw0] using hlt) (fun j FV h1 h2=>by
   obtain ⟨pi,_,rfl⟩:=Nn h1
   have:=(apv.1 h2).2
   rw [aL.2 hb] at this
   simp at this)
  simpa [MW,Ar,hw0] using this
 have hrow':∀q∈dX, @Ow fr (hp w') R0.own (fun _=>False) (.sl e kk) (tb q.1) [q.2.1] q.2.2:=fun q hq=>
  bC (fun _ h=>h.elim) (fun _ h=>h) (fun b hb=>hsame b (apP.2 ⟨q,hq,hb⟩)) (hrow q hq)
 have LM:∀b∈aS qO,b∈aS dX:=fun b hb=>by
  obtain ⟨q,hq,h⟩:=apP.1 hb
  exact apP.2 ⟨q,hPs q hq,h⟩
 have hnP:(aS qO).Nodup:=IA tN.2.1 hnd (l:=qO) hPs hall
 have hmB:∀b∈dL.fo (au 0),Ow.mine (MW cx (aS dX)) w' b:=fun b hb=>SX b (by rw [hblk1]; exact hb)
 have Zk:∀b,Ow.mine (MW cx (aS dX)) w' b→Ow.mine cx w' b:=fun b hb=>⟨hb.1,hb.2.imp (fun h=>h) (fun ⟨j,FV,h1,h2⟩=>by
  obtain ⟨pi,h3,rfl⟩:=Nn h1
  exact ⟨j,pi,h3,(apv.1 h2).1⟩)⟩
 have Vp:∀b∈aS dX,Ow.mine cx w' b:=fun b hb=>by
  obtain ⟨m1,m2⟩:=K0.mine b (LC b hb)
  exact ⟨by omega,m2⟩
 have H9:∀{r R},aR (BX (mE R0.k y R0.own wt R0.k.tys)) r R→r=au 0∧R=mE R0.k y R0.own wt R0.k.tys:=fun h=>qM h.1
 have NZ:blk (D9 (α.loc (au 0)) (dL.hdr (au 0)) (dL.fo (au 0)++aS qO)) (mE R0.k y R0.own wt R0.k.tys) (au 0)=dL.fo (au 0)++aS qO:=rfl
 have Ry:=adI
 rw [hblk1] at Ry
 have hf1:=@Rel.frame (gI fr iN h0 hs) _ _ _ _ _ _ H1
 have abM:R0.k.size=Q.k.size:=hP.size.symm
 have Zo:∀j p ts v,cx.ptrs j p ts v→au j=au 0:=fun j p ts v h=>by
  obtain ⟨_,R,f1,_⟩:=H.zw j p ts v h
  refine apA fun e=>?_
  rw [oL _ e] at f1
  simp at f1
 have hdf:=@Rel.defs (gI fr iN h0 hs) _ _ _ _ _ _ H1
 have hsz0:=@Rel.sz (gI fr iN h0 hs) _ _ _ _ _ _ H1
 have hsz1:cx.nt≤a1.tmps.size:=hsz0
 have aev:=@Rel.wP (gI fr iN h0 hs) _ _ _ _ _ _ H1
 have amg:=@Rel.zy (gI fr iN h0 hs) _ _ _ _ _ _ H1
 refine ⟨hdf,hsz1, ?_, ?_,fun s=>trivial,fun s=>trivial, ?_, ?_, ?_,fun b hb=>by simp at hb,List.nodup_nil,fun r R hr b hb h=>by simp at h, ?_, ?_, ?_, ?_, ?_⟩
 ·intro j pi b o n hj hb
  obtain ⟨R,f1,f2,_⟩:=H.mQ j pi b o n hj hb
  obtain ⟨_,rfl⟩:=Uo _ R f1
  rw [DI] at f2
  simp at f2
 ·intro r R hr hk
  obtain ⟨rfl,rfl⟩:=H9 hr
  simp [mE] at hk
 ·intro r R hr
  obtain ⟨rfl,rfl⟩:=H9 hr
  refine ⟨fun _=>?_,by show (dL.hdr (au 0)).length=R0.k.size; rw [Yd,abM],fun b o hb=>by simp [eB,mE] at hb, ?_,fun b hb=>?_⟩
  ·have o1 : @Ow (gI fr iN h0 hs) (hp w') R0.own (fun _=>False) Q.k Q.x (dL.hdr (au 0)) (dL.fo (au 0)):=by
    have hk1:∀t∈Q.k.tys,ay t Q.own=true:=fun t ht=>hQo t (by rw [←hQk]; exact ht)
    have hk2:∀t∈Q.k.tys,ay t R0.own=true:=fun t ht=>hown' t (by rw [←hQk]; exact ht)
    exact @gP (gI fr iN h0 hs) _ _ _ _ _ _ _ _ (dm hk2) (@JV (gI fr iN h0 hs) _ _ _ _ _ _ _ _ (fun t ht=>by rw [hk1 t ht,hk2 t ht]) (adJ hQv))
   have o2:=O3 (fr:=fr) (gI fr iN h0 hs) hown hP o1 (fun q hq=>⟨hrow' q (hPs q hq),hid q (hPs q hq)⟩)
   exact gP (dm hown) o2
  ·rw [NZ]
   exact apk.2 ⟨Ry,hnP,fun b hb c hc ebc=>by subst ebc; exact hno b (LM b hc) (hmB b hb)⟩
  ·rw [NZ] at hb
   rcases apm.1 hb with h | h
   ·exact Zk b (hmB b h)
   ·exact Vp b (LM b h)
 ·intro r R hr
  obtain ⟨rfl,rfl⟩:=qM hr
  exact ⟨fun t ht=>by simp [mE] at ht,pg 0,fun n hn=>by simp [mE] at hn⟩
 ·intro r R r' R' hr hr' hne
  exact absurd ((H9 hr).1.trans (H9 hr').1.symm) hne
 ·obtain ⟨f1,f2,f3,f4,f5,f6⟩:=hf1
  refine ⟨f1,f2,f3,f4,fun b hb hnb=>f5 b hb (fun j FV h1 h2=>?_),fun j pi b o n hj hb=>?_⟩
  ·obtain ⟨pi,h3,rfl⟩:=Nn h1
   exact hnb j pi h3 (apv.1 h2).1
  ·exact f6 j { pi with bl:=pi.bl.filter fun b=>!ay b (aS dX) } b o n (by simp [MW,Ar,hj]) hb
 ·intro j pi hj hkp
  obtain ⟨R,f1,_⟩:=H.wP j pi hj hkp
  have ej:au j=au 0:=apA fun ne=>by rw [oL _ ne] at f1; simp at f1
  refine ⟨mE R0.k y R0.own wt R0.k.tys,by rw [ej]; exact uJ,fun _ b hb hnb=>?_⟩
  have hone:∀q Q,aR (BX (mE R0.k y R0.own wt R0.k.tys)) q Q→b∈blk (D9 (α.loc (au 0)) (dL.hdr (au 0)) (dL.fo (au 0)++aS qO)) Q q→q=au j:=fun q Q hq _=>by rw [(H9 hq).1,ej]
  by_cases hbt:b∈aS dX
  ·exact .inr ⟨by rw [hw0]; exact hsame b hbt,by simp,hone⟩
  ·obtain ⟨R1,q1,q2⟩:=aev j { pi with bl:=pi.bl.filter fun b=>!ay b (aS dX) } (by simp [MW,Ar,hj]) hkp
   have eR:R1=Q:=by rw [ej,hQ] at q1; exact (apN q1).symm
   subst eR
   rcases q2 hQv.1 b (apv.2 ⟨hb,by rw [aV.2 hbt]; rfl⟩) (fun h=>hnb (K6.1 h)) with ⟨t,t1,t2⟩ | ⟨t1,t2,_⟩
   ·exact .inl ⟨t,t1, .inl (t2.elim (jM.1 hwt.1 t) (jM.1 hwt.2 t))⟩
   ·exact .inr ⟨t1,by simp,hone⟩
 ·refine ⟨fun j pi hj b hb=>H.qA.1 j pi hj b hb,fun b hb=>H.qA.2.1 b hb,fun b hb=>H.qA.2.2 b hb⟩
 ·intro j p ts v hv
  have ej:=Zo j p ts v hv
  have ej0:j=0:=by unfold au at ej; omega
  obtain ⟨g1,R,f1,f2⟩:=H.zw j p ts v hv
  have hts:=Ia j p ts v hv ej0
  refine ⟨g1,mE R0.k y R0.own wt R0.k.tys,by rw [ej]; exact uJ,fun hno'=>?_⟩
  refine ⟨g1,fun R' hR' _ _ _ hsome=>?_⟩
  rw [ej] at hR'
  obtain ⟨_,rfl⟩:=qM hR'
  have hsome:(aT p R0.k y).isSome=true:=hsome
  cases p with
  | nil=>
   have hRR:R=R0:=by rw [ej,hR0.1] at f1; exact (apN f1).symm
   obtain ⟨_,cs,b,o,hn,ev⟩:=(f2 (fun t ht=>by rw [hts] at ht; simp [eD] at ht)).2 R0 (by rw [ej]; exact hR0.1) hv0 (by unfold eD clean; simp [ay]) (fun t ht=>by simp [ah] at ht) rfl
   rw [ej] at hn
   simp only [bF,apd,apo] at hn
   have h2:=hn.2
   unfold eB at h2
   rw [DI] at h2
   simp at h2
  | cons s p=>
   cases s with
   | gL m=>
    rw [hk0] at hts
    have:aT (.gL m :: p) R0.k y=none:=by
     have hg:∀(k:K) (z:El k),k=.sl e1 k1→aT (.gL m :: p) k z=none:=by
      intro k z hk; subst hk; rfl
     exact hg _ y hk0
    rw [this] at hsome; simp at hsome
   | idx i=>
    exfalso
    refine hno' e1 ?_ ?_
    ·rw [hts,hk0]; simp [eD,ah]
    ·show e1∈R0.k.tys
     rw [hk0]; simp [K.tys]
 ·intro j v hv
  obtain ⟨⟨R,f1⟩,f2⟩:=H.zy j v hv
  have ej:au j=au 0:=apA fun ne=>by rw [oL _ ne] at f1; simp at f1
  obtain ⟨_,q2⟩:=amg j v hv
  rw [ej] at q2 ⊢
  refine ⟨⟨_,uJ⟩,fun R' hR' _=>?_⟩
  obtain ⟨_,rfl⟩:=H9 hR'
  obtain ⟨z1,z2⟩:=q2 Q hlv1 hQg
  refine ⟨rfl, ?_⟩
  show VC R0.k v (dL.hdr (au 0))
  rw [hk0]
  rw [hQk] at z2
  exact Ym z2
end
theorem ZQ [fr:Fr] {e e1 e2:TypeId} {kk k1 k2:K} {P:Program} {n:Nat} {f:FuncId} {ow wt sK:List TypeId} {rest:List cZ}
  {F:Nat→Cont (kin (.jl (.sl e1 k1) ow wt :: rest))→Option (Cont (ig [.into 0 []]++jL (.jl (.sl e1 k1) ow wt :: rest)))} {F':Nat→Cont (kin (.jl (.sl e2 k2) ow sK :: rest))→Option (Cont (ig [.into 0 []]++jL (.jl (.sl e2 k2) ow sK :: rest)))}
  (hrest:fC rest=true) (hown:∀t∈(K.sl e1 k1).tys,ay t ow=true) (hown':∀t∈(K.sl e2 k2).tys,ay t ow=true) (Vm:∀t∈(K.sl e kk).tys,ay t ow=true)
  (hE:∀fr:Fr, @ak fr P n ⟨f, .jl (.sl e2 k2) ow sK :: rest,[.into 0 []],F'⟩) (hwt:nJ sK wt=true)
  (hF:∀c out,F n c=some out→∃(x':El (.sl e2 k2)) (ns ms:List Nat) (tb:Nat→List (El kk)) (out':Cont (ig [.into 0 []]++jL (.jl (.sl e2 k2) ow sK :: rest))),Rw e kk false tb (.sl e1 k1) (.sl e2 k2) c.1 x' ns∧ns.Nodup∧0∉ns∧F' n (x',c.2)=some out'∧
   (show Int from out.1)=(show Int from out'.1)∧Rw e kk true tb (.sl e1 k1) (.sl e2 k2) out.2.1 out'.2.1 ms∧ms.Nodup∧∀m∈ms,m∈ns) :
  ak P n ⟨f, .jl (.sl e1 k1) ow wt :: rest,[.into 0 []],F⟩:=by
 intro c out hout cx α args w hnt hw hsz hP H
 obtain ⟨x',ns,ms,tb,out',hR,hnd,hn0,hF',hRI,hRP,hmm,hsub⟩:=hF c out hout
 have ha:((K.sl e1 k1).tys.all fun t=>ay t ow)=true:=apt.2 hown
 have ha':((K.sl e2 k2).tys.all fun t=>ay t ow)=true:=apt.2 hown'
 have Ec:∀r,(bS (.jl (.sl e1 k1) ow wt :: rest) c).roots r=bif Nat.beq r (au 0) then some { aP (.sl e1 k1) c.1 ow [] .anon true with fixed:=true } else none:=fun r=>by
  show gH (gD (.jl (.sl e1 k1) ow wt :: rest) 0 c) r=_
  simp only [gD,tT hrest,gH,ha,cond_true]
  rfl
 have hR0:aR (bS (.jl (.sl e1 k1) ow wt :: rest) c) (au 0) { aP (.sl e1 k1) c.1 ow [] .anon true with fixed:=true }:=⟨by rw [Ec]; simp,rfl⟩
 have oL:∀r,r≠au 0→(bS (.jl (.sl e1 k1) ow wt :: rest) c).roots r=none:=fun r hr=>by
  rw [Ec]
  have:Nat.beq r (au 0)=false:=by
   cases hb:Nat.beq r (au 0) with
   | true=>exact absurd (aph hb) hr
   | false=>rfl
  rw [this]; rfl
 have hs0:(bS (.jl (.sl e1 k1) ow wt :: rest) c).slots 0=.one (.ref (au 0) 0):=rfl
 have hsl:∀s,s≠0→Fp ((bS (.jl (.sl e1 k1) ow wt :: rest) c).slots s):=fun s hs=>by
  show Fp (iG (eT (.jl (.sl e1 k1) ow wt :: rest) 0 c) s)
  simp only [eT,iG]
  cases hb:Nat.beq s 0 with
  | true=>exact absurd (aph hb) hs
  | false=>exact AQ hrest s
 obtain ⟨dX,dJ,iN,i0,is,g1,g2,g3,g4,Y0⟩:=Uu H hw (R0:={ aP (.sl e1 k1) c.1 ow [] .anon true with fixed:=true }) rfl hR0 oL rfl rfl hown (Vm e (by simp [K.tys])) hs0 hsl (x':=x') hR hnd hn0 hown' rfl
 have hst:az (bS (.jl (.sl e1 k1) ow wt :: rest) c) (au 0) { ({ aP (.sl e1 k1) c.1 ow [] .anon true with fixed:=true }:Root) with k:=.sl e2 k2,x:=x' }=bS (.jl (.sl e2 k2) ow sK :: rest) (x',c.2):=by
  unfold az bS
  congr 1
  funext r
  show upd (bS (.jl (.sl e1 k1) ow wt :: rest) c).roots (au 0) _ r=gH (gD (.jl (.sl e2 k2) ow sK :: rest) 0 (x',c.2)) r
  simp only [gD,tT hrest,gH,ha',cond_true]
  unfold upd
  cases hb:Nat.beq r (au 0) with
  | true=>rfl
  | false=>simp only [cond_false]; rw [Ec,hb]; rfl
 rw [hst] at Y0
 have Vo:∀j,(∃k,yG (.jl (.sl e1 k1) ow wt :: rest) j k)→∃k,yG (.jl (.sl e2 k2) ow sK :: rest) j k:=by
  rintro j ⟨k0,o1,o2,o3,h⟩
  cases j with
  | zero=>exact ⟨.sl e2 k2,ow,sK,[], .inr rfl⟩
  | succ j=>exact ⟨k0,o1,o2,o3,by simpa using h⟩
 have hP':He (MW cx (aS dX)) (.jl (.sl e2 k2) ow sK :: rest):=by
  refine ⟨fun j FV hj hkp=>?_,fun j p ts v h=>h.elim,fun j v h=>Vo j (hP.ref j v h)⟩
  obtain ⟨pi,hj',rfl⟩:=oI (cx:=cx) hj
  exact Vo j (hP.par j pi hj' hkp)
 have h:=hE (gI fr iN i0 is) (x',c.2) out' hF' (MW cx (aS dX)) _ args w hnt hw hsz hP' Y0
 have hpost:∀v w', @Post (gI fr iN i0 is) (MW cx (aS dX)) (.jl (.sl e2 k2) ow sK :: rest) [.into 0 []] out' v w'→@Post fr cx (.jl (.sl e1 k1) ow wt :: rest) [.into 0 []] out v w':=by
  rintro v w' ⟨σ1,dL,F1,a1,vs,bz,H1,rfl,hL,hfn,SK,hOut,_⟩
  obtain ⟨Q,q1,q2,⟨ek,ey⟩,q4,q5,_⟩:=hOut
  have hRQ:=Vd ek ey hRP
  obtain ⟨qO,t3,t4⟩:=select (dX:=dX) (ns:=ms) (fun m hm=>by rw [g1]; exact hsub m hm)
  have yJ:=q5
  unfold DJ at yJ
  simp only [apj] at yJ
  obtain ⟨⟨⟨⟨l1,l2⟩,_⟩,_⟩,l5⟩:=yJ
  have hg0:Q.g=0:=aph l5
  have htr:∀{l:List Nat},nJ l sK=true→nJ l wt=true:=fun hl=>jM.2 fun t ht=>jM.1 hwt t (jM.1 hl t ht)
  cases vs with
  | nil=>exact hL.elim
  | cons v vs=>
   cases bz with
   | nil=>exact hL.elim
   | cons fo bz=>
    obtain ⟨⟨rfl,_,b,m,cp,e3,e4,e5⟩,hL2⟩:=hL
    cases vs with
    | cons _ _=>cases bz <;> exact hL2.elim
    | nil=>
     cases bz with
     | cons _ _=>exact hL2.elim
     | nil=>
      obtain ⟨hQn,hQV⟩:=e5 Q ⟨q1,q2.1⟩ hg0
      have r1:=Xn (fr:=fr) H hw (R0:={ aP (.sl e1 k1) c.1 ow [] .anon true with fixed:=true }) rfl hR0 oL rfl rfl ⟨rfl,rfl⟩ hown hown' Vm g2 (by rw [g1]; exact hnd) g3 g4 H1 q1 q2 ek (fun t ht=>by
        have:=apt.1 q4 t ht
        rw [hown' t ht] at this
        simpa using this) hQn hg0 (wt:=wt) ⟨htr l1,htr l2⟩ (y:=out.2.1) (qO:=qO) (by rw [t3]; exact hRQ) t4 (by rw [t3]; exact hmm) (fun j p ts v h hj=>by
         obtain ⟨k0,⟨o1,o2,o3,h1⟩,h2⟩:=hP.ptr j p ts v h
         subst hj
         rcases h1 with h1 | h1
         ·simp at h1
         ·simp only [List.getElem?_cons_zero,apd,cZ.jl.injEq] at h1
          rw [h2, ←h1.1]; rfl)
      refine ⟨_,_,[],a1,[v],[[]],r1,rfl,⟨⟨rfl,rfl,b,m,cp, ?_, ?_, ?_⟩,trivial⟩,by simp,by simp,⟨_,uJ,⟨rfl,rfl⟩,⟨rfl,rfl⟩, ?_, ?_, .inl ha⟩,FZ hrest⟩
      ·have hI:(show Int from (Cont.fst (ig [jy.into 0 []]) _ out).1)=(show Int from (Cont.fst (ig [jy.into 0 []]) _ out').1):=hRI
       rw [hI]; exact e3
      ·have hI:(show Int from (Cont.fst (ig [jy.into 0 []]) _ out).1)=(show Int from (Cont.fst (ig [jy.into 0 []]) _ out').1):=hRI
       rw [hI]; exact e4
      ·intro R' hR' _
       obtain ⟨_,rfl⟩:=qM hR'.1
       refine ⟨rfl, ?_⟩
       have ek:Q.k=.sl e2 k2:=ek
       rw [ek] at hQV
       exact Ym hQV
      ·exact apt.2 fun t _=>by simp [mE]; rfl
      ·unfold DJ mE
       simp only [nJ,List.all_nil,apj,apt]
       exact ⟨⟨⟨⟨fun x hx=>aL.2 hx,trivial⟩,fun x hx=>aL.2 hx⟩,fun x hx=>aL.2 hx⟩,rfl⟩
 rcases h with ⟨h1,h2⟩ | ⟨v,w',h1,h2⟩
 ·refine .inl ⟨h1,h2.mono ?_⟩
  rintro e w' ⟨v,rfl,hv⟩
  exact ⟨v,rfl,hpost v w' hv⟩
 ·exact .inr ⟨v,w',h1,hpost v w' h2⟩
end
end Go.Proofs.YtdknpknohipffaaGreat.Ow
