/- The draws of stores and ops. -/
import Derived.Test.YtabnmpabdhmkoaaOwF
import Derived.Test.YtabnmpabdhmkoaaLoopLib
import Derived.Test.YtabnmpabdhmkoaaStoreMath
import Derived.Test.YtabnmpabdhmkoaaOpsMath
import Derived.Test.YtabnmpabdhmkoaaDrawMath
import Derived.Test.YtabnmpabdhmkoaaFlF
set_option linter.unusedSectionVars false
set_option linter.unusedVariables false
set_option linter.unusedSimpArgs false
namespace Go.Proofs.Ytabnmpabdhmkoaa.qJ
open Go Go.Proofs.Ytabnmpabdhmkoaa.Ow Go.Proofs.Ytabnmpabdhmkoaa.MV Go.Proofs.Ytabnmpabdhmkoaa.qb Go.Proofs.Ytabnmpabdhmkoaa.oF Go.Proofs.Ytabnmpabdhmkoaa.vO Go.Proofs.Ytabnmpabdhmkoaa.vL
def dD (l:List Int):Prop:=mV l∧l.length≤1000
def Vq (m:qI):Prop:=dD m.2.2.2.1
def OM (b:Bx):Prop:=b.1.length≤12∧b.2.2.2.1.length≤7∧∀m∈b.2.2.2.1,Vq m
def OO (s:qM):Prop:=s.2.1.length≤4∧∀b∈s.2.1,OM b
def TL (o:OpC):Prop:=o.2.1.length≤12∧o.2.2.1.length≤12∧o.2.2.2.1.length≤7∧dD o.2.2.2.2.2.2.2.1
theorem Vq.ok {m:qI} (h:Vq m):RA m:=by show m.2.2.2.1.length≤big; have:=h.2; unfold big; omega
theorem OM.ok {b:Bx} (h:OM b):okB b:=⟨by have:=h.1; unfold big; omega,by have:=h.2.1; unfold big; omega,fun m hm=>(h.2.2 m hm).ok⟩
theorem OO.ok {s:qM} (h:OO s):Pm s:=⟨by have:=h.1; unfold big; omega,fun b hb=>(h.2 b hb).ok⟩
theorem TL.ok {o:OpC} (h:TL o):okO o:=⟨by have:=h.1; unfold big; omega,by have:=h.2.1; unfold big; omega,by have:=h.2.2.1; unfold big; omega,by have:=h.2.2.2.2; unfold big; omega⟩
theorem EN {L:List (List Int)} (h:L.all (fun l=>decide (l.length≤12))=true) (i:Nat):(L.getD i []).length≤12:=by
 rw [abF]
 cases hi:L[i]? with
 | none=>simp
 | some x=>simpa using abH.1 h x (List.mem_of_getElem? hi)
theorem wH {A:Type} {P:A→Prop} {l:List A} {x:A} (h:∀y∈l,P y) (hx:P x):∀y∈l++[x],P y:=fun y hy=>by
 rcases abB.1 hy with hy | hy
 ·exact h y hy
 ·simp only [abL] at hy; subst hy; exact hx
theorem Im {A:Type} {P:A→Prop} {k:Nat} {x:A} (hx:P x):∀y∈List.replicate k x,P y:=fun y hy=>by rw [(List.mem_replicate.1 hy).2]; exact hx
theorem message {n:Nat} {s:Src} {m u:Int} (hs:gD s m) (hm:m≤68719476736) (hn:big<n):Y (fZ n s u) (m+6000) Vq:=by
 unfold fZ
 refine (next hs (by omega) (by omega) (by omega)).bind fun r s1 h1 _=>(next h1 (by omega) (by omega) (by omega)).bind fun r s2 h2 _=>(draw h2 (by omega) hn).bind fun r s3 h3 hr=>Y.ret (h3.up (by omega)) hr
theorem box {n:Nat} {s:Src} {m v:Int} {nm:List Int} (hs:gD s m) (hm:m≤34359738368) (hnm:nm.length≤12) (hn:big<n):Y (jf n s nm v) (m+20000) (fun b=>OM b∧b.2.2.2.1.length≤3):=by
 unfold jf
 refine (next hs (by omega) (by omega) (by omega)).bind fun r s1 h1 hr=>?_
 obtain ⟨k,rfl⟩:=Int.eq_ofNat_of_zero_le hr.1
 refine cnt (N:=n) (k:=k) (fun j (v:Int×Src×Bx×Bx×Unit)=>v.1=(j:Int)∧j≤k∧gD v.2.1 (m+1+6001 * (k - j))∧OM v.2.2.2.1∧v.2.2.2.1.2.2.2.1.length+j=k) (fun o:Option (Bx×Src×Unit)=>Y o (m+20000) (fun b=>OM b∧b.2.2.2.1.length≤3)) ?_ (by unfold big at hn; omega) ⟨rfl,abI _,h1.up (by omega),⟨hnm,by simp,fun m hm=>by simp at hm⟩,by simp⟩
 intro j L v ⟨e1,e2,e3,e4,e5⟩ hL
 refine Y.ite (fun hc=>?_) (fun hc=>Y.ret (e3.up (by omega)) ⟨e4,by omega⟩)
 have hc:v.1>0:=by simpa using hc
 refine (message e3 (by omega) hn).bind fun x s2 h2 hx=>Y.yes (by simp; omega) ((next h2 (by omega) (by omega) (by omega)).bind fun r s3 h3 _=>hL _ (j - 1) (by omega) ⟨?_,by omega,h3.up (by omega),⟨e4.1, ?_,wH e4.2.2 hx⟩, ?_⟩)
 ·show IntKind.i64.wrap (v.1 - 1)=_
  rw [wrap_i64 (by omega) (by omega)]; omega
 ·show (v.2.2.2.1.2.2.2.1++[x]).length≤7
  simp; omega
 ·show (v.2.2.2.1.2.2.2.1++[x]).length+(j - 1)=k
  simp; omega
theorem store {n:Nat} {s:Src} {m:Int} (hs:gD s m) (hm:m≤17179869184) (hn:big<n):Y (kT n s) (m+100000) (fun t=>OO t∧t.2.1.length≤3):=by
 unfold kT
 refine (next hs (by omega) (by omega) (by omega)).bind fun r s1 h1 hr=>?_
 obtain ⟨k,rfl⟩:=Int.eq_ofNat_of_zero_le hr.1
 refine cnt (N:=n) (k:=k) (fun j (v:Int×Src×qM×qM×Unit)=>v.1=(j:Int)∧j≤k∧gD v.2.1 (m+1+20000 * (k - j))∧OO v.2.2.2.1∧v.2.2.2.1.2.1.length+j=k) (fun o:Option (qM×Src×Unit)=>Y o (m+100000) (fun t=>OO t∧t.2.1.length≤3)) ?_ (by unfold big at hn; omega) ⟨rfl,abI _,h1.up (by omega),⟨by simp,fun m hm=>by simp at hm⟩,by simp⟩
 intro j L v ⟨e1,e2,e3,e4,e5⟩ hL
 refine Y.ite (fun hc=>?_) (fun hc=>Y.ret (e3.up (by omega)) ⟨e4,by omega⟩)
 have hc:v.1>0:=by simpa using hc
 refine Y.yes ⟨by omega,by simp; omega⟩ ((box e3 (by omega) (EN (by decide) _) hn).bind fun x s2 h2 hx=>Y.yes (by simp; omega) (hL _ (j - 1) (by omega) ⟨?_,by omega,h2.up (by omega),⟨?_,wH e4.2 hx.1⟩, ?_⟩))
 ·show IntKind.i64.wrap (v.1 - 1)=_
  rw [wrap_i64 (by omega) (by omega)]; omega
 ·show (v.2.2.2.1.2.1++[x]).length≤4
  simp; omega
 ·show (v.2.2.2.1.2.1++[x]).length+(j - 1)=k
  simp; omega
theorem Hu {n:Nat} {s:Src} {m:Int} (hs:gD s m) (hm:m≤17179869184) (hn:big<n):Y (je n s) (m+40000) OM:=by
 unfold je
 refine (box hs (by omega) (by decide) hn).bind fun b s1 h1 hb=>(next h1 (by omega) (by omega) (by omega)).bind fun r s2 h2 _=>?_
 refine Y.ite (fun _=>(next h2 (by omega) (by omega) (by omega)).bind fun r s3 h3 hr=>Y.yes hr (Y.ret (h3.up (by omega)) ⟨EN (by decide) _,hb.1.2⟩)) (fun _=>?_)
 refine Y.ite (fun _=>(pick h2 (by omega) (by simp) (by simp)).bind fun r s3 h3 _=>Y.ret (h3.up (by omega)) hb.1) (fun _=>?_)
 refine Y.ite (fun _=>(pick h2 (by omega) (by simp) (by simp)).bind fun r s3 h3 _=>(message h3 (by omega) hn).bind fun x s4 h4 hx=>Y.yes (by simp; omega) (Y.ret (h4.up (by omega)) ⟨hb.1.1, ?_,wH hb.1.2.2 hx⟩)) (fun _=>?_)
 ·show (b.2.2.2.1++[x]).length≤7
  simp; omega
 refine Y.ite (fun _=>Y.yes (by decide) (Y.ret (h2.up (by omega)) ⟨hb.1.1, ?_,Im ⟨iQ,by show ([]:List Int).length≤1000; simp⟩⟩)) (fun _=>Y.ret (h2.up (by omega)) hb.1)
 show (List.replicate _ _).length≤7
 simp
theorem Bv {n:Nat} {s:Src} {m:Int} (hs:gD s m) (hm:m≤8589934592) (hn:big<n):Y (kS n s) (m+200000) OO:=by
 unfold kS
 refine (store hs (by omega) hn).bind fun b s1 h1 hb=>(next h1 (by omega) (by omega) (by omega)).bind fun r s2 h2 _=>?_
 refine Y.ite (fun _=>(pick h2 (by omega) (by simp) (by simp)).bind fun r s3 h3 _=>Y.ret (h3.up (by omega)) hb.1) (fun _=>?_)
 refine Y.ite (fun _=>(Hu h2 (by omega) hn).bind fun x s3 h3 hx=>Y.yes (by simp; omega) (Y.ret (h3.up (by omega)) ⟨?_,wH hb.1.2 hx⟩)) (fun _=>?_)
 ·show (b.2.1++[x]).length≤4
  simp; omega
 refine Y.ite (fun _=>Y.yes (by decide) (Y.ret (h2.up (by omega)) ⟨?_,Im ⟨?_, ?_,fun m hm=>by simp at hm⟩⟩)) (fun _=>Y.ret (h2.up (by omega)) hb.1)
 ·show (List.replicate _ _).length≤4
  simp
 ·show ([]:List Int).length≤12
  simp
 ·show ([]:List qI).length≤7
  simp
theorem Na {n:Nat} (k:Int):G (eO n k) (fun _=>True):=⟨_,copies k,trivial⟩
theorem YU {n:Nat} {s:Src} {m:Int} (hs:gD s m) (hm:m≤549755813888) (hn:big<n):Y (gB n s) (m+5) (fun r=>r.length≤5):=by
 unfold gB
 refine cnt (N:=n) (k:=5) (fun j (v:Int×Src×List Int×Unit)=>v.1+j=6∧j≤5∧gD v.2.1 (m+(5 - j))∧v.2.2.1.length+j≤5) (fun o:Option (List Int×Src×Unit)=>Y o (m+5) (fun r=>r.length≤5)) ?_ (by unfold big at hn; omega) ⟨by simp,abI _,hs.up (by omega),by simp⟩
 intro j L v ⟨e1,e2,e3,e4⟩ hL
 refine Y.ite (fun hc=>?_) (fun hc=>Y.ret (e3.up (by omega)) (by omega))
 have hc:v.1<6:=by simpa using hc
 have hw:IntKind.i64.wrap (v.1+1)+((j - 1:Nat):Int)=6:=by rw [wrap_i64 (by omega) (by omega)]; omega
 refine (Ct e3 (by omega) (by omega) (by omega)).bind fun _ s2 h2 _=>Y.ite (fun _=>Y.yes (by simp; omega) (hL _ (j - 1) (by omega) ⟨hw,by omega,h2.up (by omega), ?_⟩)) (fun _=>hL _ (j - 1) (by omega) ⟨hw,by omega,h2.up (by omega), ?_⟩)
 ·show (v.2.2.1++[_]).length+(j - 1)≤5
  simp; omega
 ·show v.2.2.1.length+(j - 1)≤5
  omega
theorem op {n:Nat} {s:Src} {m:Int} (hs:gD s m) (hm:m≤68719476736) (hn:big<n):Y (nE n s) (m+2000) TL:=by
 unfold nE
 refine (pick hs (by omega) (by simp) (by simp)).bind fun r s1 h1 _=>(next h1 (by omega) (by omega) (by omega)).bind fun r s2 h2 hr=>Y.yes hr ?_
 repeat' (first
  | refine Y.xL (Na _) fun _ _=>?_
  | refine (next (by assumption) (by omega) (by decide) (by decide)).bind fun _ _ _ _=>?_
  | refine (YU (by assumption) (by omega) hn).bind fun _ _ _ _=>?_
  | refine (leaf (by assumption) (by omega) hn).bind fun _ _ _ _=>?_
  | refine Y.yes (by assumption) ?_
  | refine Y.ret (gD.up (by assumption) (by omega)) ⟨EN (by decide) _, ?_, ?_, ?_⟩
  | refine Y.ite (fun _=>?_) (fun _=>?_)
  | exact EN (by decide) _
  | exact (by simp:([]:List Int).length≤12)
  | exact (by simp:([]:List Int).length≤7)
  | exact Nat.le_trans (by assumption) (by decide)
  | exact ⟨iQ,by show ([]:List Int).length≤1000; simp⟩
  | assumption)
theorem P7 {n:Nat} {s:Src} {m:Int} (hs:gD s m) (hm:m≤34359738368) (hn:big<n):Y (qA n s) (m+3000) TL:=by
 unfold qA
 refine (op hs (by omega) hn).bind fun o s1 h1 ho=>(next h1 (by omega) (by omega) (by omega)).bind fun r s2 h2 _=>?_
 refine Y.ite (fun _=>(pick h2 (by omega) (by simp) (by simp)).bind fun r s3 h3 _=>Y.ret (h3.up (by omega)) ho) (fun _=>?_)
 refine Y.ite (fun _=>(next h2 (by omega) (by omega) (by omega)).bind fun r s3 h3 hr=>Y.yes hr (Y.ret (h3.up (by omega)) ⟨EN (by decide) _,ho.2⟩)) (fun _=>?_)
 refine Y.ite (fun _=>(pick h2 (by omega) (by simp) (by simp)).bind fun r s3 h3 _=>Y.ret (h3.up (by omega)) ⟨ho.1,ho.2.1,by simp,ho.2.2.2⟩) (fun _=>?_)
 refine Y.ite (fun _=>(pick h2 (by omega) (by simp) (by simp)).bind fun r s3 h3 _=>Y.ret (h3.up (by omega)) ho) (fun _=>?_)
 exact Y.ite (fun _=>Y.ret (h2.up (by omega)) ⟨ho.1,ho.2.1,by simp,ho.2.2.2⟩) (fun _=>Y.ret (h2.up (by omega)) ho)
end Go.Proofs.Ytabnmpabdhmkoaa.qJ
