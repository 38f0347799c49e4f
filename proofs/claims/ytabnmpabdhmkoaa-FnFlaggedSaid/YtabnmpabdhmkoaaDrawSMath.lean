/- The draws of stores and ops. -/
import Derived.Test.YtabnmpabdhmkoaaOwF
import Derived.Test.YtabnmpabdhmkoaaLoopLib
import Derived.Test.YtabnmpabdhmkoaaStoreMath
import Derived.Test.YtabnmpabdhmkoaaOpsMath
import Derived.Test.YtabnmpabdhmkoaaDrawMath
import Derived.Test.YtabnmpabdhmkoaaFgF
set_option linter.unusedSectionVars false
set_option linter.unusedVariables false
set_option linter.unusedSimpArgs false
namespace Go.Proofs.Ytabnmpabdhmkoaa.tC
open Go Go.Proofs.Ytabnmpabdhmkoaa.Ow Go.Proofs.Ytabnmpabdhmkoaa.P9 Go.Proofs.Ytabnmpabdhmkoaa.qF Go.Proofs.Ytabnmpabdhmkoaa.oP Go.Proofs.Ytabnmpabdhmkoaa.lW Go.Proofs.Ytabnmpabdhmkoaa.xI
def dD (l:List Int):Prop:=qo l∧l.length≤1000
def YL (m:lV):Prop:=dD m.2.2.2.1
def TT (b:Bx):Prop:=b.1.length≤12∧b.2.2.2.1.length≤7∧∀m∈b.2.2.2.1,YL m
def TU (s:lu):Prop:=s.2.1.length≤4∧∀b∈s.2.1,TT b
def WZ (o:OpC):Prop:=o.2.1.length≤12∧o.2.2.1.length≤12∧o.2.2.2.1.length≤7∧dD o.2.2.2.2.2.2.2.1
theorem YL.ok {m:lV} (h:YL m):Ng m:=by show m.2.2.2.1.length≤big; have:=h.2; unfold big; omega
theorem TT.ok {b:Bx} (h:TT b):okB b:=⟨by have:=h.1; unfold big; omega,by have:=h.2.1; unfold big; omega,fun m hm=>(h.2.2 m hm).ok⟩
theorem TU.ok {s:lu} (h:TU s):yJ s:=⟨by have:=h.1; unfold big; omega,fun b hb=>(h.2 b hb).ok⟩
theorem WZ.ok {o:OpC} (h:WZ o):okO o:=⟨by have:=h.1; unfold big; omega,by have:=h.2.1; unfold big; omega,by have:=h.2.2.1; unfold big; omega,by have:=h.2.2.2.2; unfold big; omega⟩
theorem H7 {L:List (List Int)} (h:L.all (fun l=>decide (l.length≤12))=true) (i:Nat):(L.getD i []).length≤12:=by
 rw [af3]
 cases hi:L[i]? with
 | none=>simp
 | some x=>simpa using af5.1 h x (List.mem_of_getElem? hi)
theorem yj {A:Type} {P:A→Prop} {l:List A} {x:A} (h:∀y∈l,P y) (hx:P x):∀y∈l++[x],P y:=fun y hy=>by
 rcases afZ.1 hy with hy | hy
 ·exact h y hy
 ·simp only [af9] at hy; subst hy; exact hx
theorem KS {A:Type} {P:A→Prop} {k:Nat} {x:A} (hx:P x):∀y∈List.replicate k x,P y:=fun y hy=>by rw [(List.mem_replicate.1 hy).2]; exact hx
theorem message {n:Nat} {s:Src} {m u:Int} (hs:gY s m) (hm:m≤68719476736) (hn:big<n):Y (gN n s u) (m+6000) YL:=by
 unfold gN
 refine (next hs (by omega) (by omega) (by omega)).bind fun r s1 h1 _=>(next h1 (by omega) (by omega) (by omega)).bind fun r s2 h2 _=>(draw h2 (by omega) hn).bind fun r s3 h3 hr=>Y.ret (h3.up (by omega)) hr
theorem box {n:Nat} {s:Src} {m v:Int} {nm:List Int} (hs:gY s m) (hm:m≤34359738368) (hnm:nm.length≤12) (hn:big<n):Y (jN n s nm v) (m+20000) (fun b=>TT b∧b.2.2.2.1.length≤3):=by
 unfold jN
 refine (next hs (by omega) (by omega) (by omega)).bind fun r s1 h1 hr=>?_
 obtain ⟨k,rfl⟩:=Int.eq_ofNat_of_zero_le hr.1
 refine cnt (N:=n) (k:=k) (fun j (v:Int×Src×Bx×Bx×Unit)=>v.1=(j:Int)∧j≤k∧gY v.2.1 (m+1+6001 * (k - j))∧TT v.2.2.2.1∧v.2.2.2.1.2.2.2.1.length+j=k) (fun o:Option (Bx×Src×Unit)=>Y o (m+20000) (fun b=>TT b∧b.2.2.2.1.length≤3)) ?_ (by unfold big at hn; omega) ⟨rfl,af6 _,h1.up (by omega),⟨hnm,by simp,fun m hm=>by simp at hm⟩,by simp⟩
 intro j L v ⟨e1,e2,e3,e4,e5⟩ hL
 refine Y.ite (fun hc=>?_) (fun hc=>Y.ret (e3.up (by omega)) ⟨e4,by omega⟩)
 have hc:v.1>0:=by simpa using hc
 refine (message e3 (by omega) hn).bind fun x s2 h2 hx=>Y.yes (by simp; omega) ((next h2 (by omega) (by omega) (by omega)).bind fun r s3 h3 _=>hL _ (j - 1) (by omega) ⟨?_,by omega,h3.up (by omega),⟨e4.1, ?_,yj e4.2.2 hx⟩, ?_⟩)
 ·show IntKind.i64.wrap (v.1 - 1)=_
  rw [wrap_i64 (by omega) (by omega)]; omega
 ·show (v.2.2.2.1.2.2.2.1++[x]).length≤7
  simp; omega
 ·show (v.2.2.2.1.2.2.2.1++[x]).length+(j - 1)=k
  simp; omega
theorem store {n:Nat} {s:Src} {m:Int} (hs:gY s m) (hm:m≤17179869184) (hn:big<n):Y (mI n s) (m+100000) (fun t=>TU t∧t.2.1.length≤3):=by
 unfold mI
 refine (next hs (by omega) (by omega) (by omega)).bind fun r s1 h1 hr=>?_
 obtain ⟨k,rfl⟩:=Int.eq_ofNat_of_zero_le hr.1
 refine cnt (N:=n) (k:=k) (fun j (v:Int×Src×lu×lu×Unit)=>v.1=(j:Int)∧j≤k∧gY v.2.1 (m+1+20000 * (k - j))∧TU v.2.2.2.1∧v.2.2.2.1.2.1.length+j=k) (fun o:Option (lu×Src×Unit)=>Y o (m+100000) (fun t=>TU t∧t.2.1.length≤3)) ?_ (by unfold big at hn; omega) ⟨rfl,af6 _,h1.up (by omega),⟨by simp,fun m hm=>by simp at hm⟩,by simp⟩
 intro j L v ⟨e1,e2,e3,e4,e5⟩ hL
 refine Y.ite (fun hc=>?_) (fun hc=>Y.ret (e3.up (by omega)) ⟨e4,by omega⟩)
 have hc:v.1>0:=by simpa using hc
 refine Y.yes ⟨by omega,by simp; omega⟩ ((box e3 (by omega) (H7 (by decide) _) hn).bind fun x s2 h2 hx=>Y.yes (by simp; omega) (hL _ (j - 1) (by omega) ⟨?_,by omega,h2.up (by omega),⟨?_,yj e4.2 hx.1⟩, ?_⟩))
 ·show IntKind.i64.wrap (v.1 - 1)=_
  rw [wrap_i64 (by omega) (by omega)]; omega
 ·show (v.2.2.2.1.2.1++[x]).length≤4
  simp; omega
 ·show (v.2.2.2.1.2.1++[x]).length+(j - 1)=k
  simp; omega
theorem QG {n:Nat} {s:Src} {m:Int} (hs:gY s m) (hm:m≤17179869184) (hn:big<n):Y (lU n s) (m+40000) TT:=by
 unfold lU
 refine (box hs (by omega) (by decide) hn).bind fun b s1 h1 hb=>(next h1 (by omega) (by omega) (by omega)).bind fun r s2 h2 _=>?_
 refine Y.ite (fun _=>(next h2 (by omega) (by omega) (by omega)).bind fun r s3 h3 hr=>Y.yes hr (Y.ret (h3.up (by omega)) ⟨H7 (by decide) _,hb.1.2⟩)) (fun _=>?_)
 refine Y.ite (fun _=>(pick h2 (by omega) (by simp) (by simp)).bind fun r s3 h3 _=>Y.ret (h3.up (by omega)) hb.1) (fun _=>?_)
 refine Y.ite (fun _=>(pick h2 (by omega) (by simp) (by simp)).bind fun r s3 h3 _=>(message h3 (by omega) hn).bind fun x s4 h4 hx=>Y.yes (by simp; omega) (Y.ret (h4.up (by omega)) ⟨hb.1.1, ?_,yj hb.1.2.2 hx⟩)) (fun _=>?_)
 ·show (b.2.2.2.1++[x]).length≤7
  simp; omega
 refine Y.ite (fun _=>Y.yes (by decide) (Y.ret (h2.up (by omega)) ⟨hb.1.1, ?_,KS ⟨jw,by show ([]:List Int).length≤1000; simp⟩⟩)) (fun _=>Y.ret (h2.up (by omega)) hb.1)
 show (List.replicate _ _).length≤7
 simp
theorem Lt {n:Nat} {s:Src} {m:Int} (hs:gY s m) (hm:m≤8589934592) (hn:big<n):Y (pI n s) (m+200000) TU:=by
 unfold pI
 refine (store hs (by omega) hn).bind fun b s1 h1 hb=>(next h1 (by omega) (by omega) (by omega)).bind fun r s2 h2 _=>?_
 refine Y.ite (fun _=>(pick h2 (by omega) (by simp) (by simp)).bind fun r s3 h3 _=>Y.ret (h3.up (by omega)) hb.1) (fun _=>?_)
 refine Y.ite (fun _=>(QG h2 (by omega) hn).bind fun x s3 h3 hx=>Y.yes (by simp; omega) (Y.ret (h3.up (by omega)) ⟨?_,yj hb.1.2 hx⟩)) (fun _=>?_)
 ·show (b.2.1++[x]).length≤4
  simp; omega
 refine Y.ite (fun _=>Y.yes (by decide) (Y.ret (h2.up (by omega)) ⟨?_,KS ⟨?_, ?_,fun m hm=>by simp at hm⟩⟩)) (fun _=>Y.ret (h2.up (by omega)) hb.1)
 ·show (List.replicate _ _).length≤4
  simp
 ·show ([]:List Int).length≤12
  simp
 ·show ([]:List lV).length≤7
  simp
theorem QH {n:Nat} (k:Int):G (dK n k) (fun _=>True):=⟨_,copies k,trivial⟩
theorem YF {n:Nat} {s:Src} {m:Int} (hs:gY s m) (hm:m≤549755813888) (hn:big<n):Y (fO n s) (m+5) (fun r=>r.length≤5):=by
 unfold fO
 refine cnt (N:=n) (k:=5) (fun j (v:Int×Src×List Int×Unit)=>v.1+j=6∧j≤5∧gY v.2.1 (m+(5 - j))∧v.2.2.1.length+j≤5) (fun o:Option (List Int×Src×Unit)=>Y o (m+5) (fun r=>r.length≤5)) ?_ (by unfold big at hn; omega) ⟨by simp,af6 _,hs.up (by omega),by simp⟩
 intro j L v ⟨e1,e2,e3,e4⟩ hL
 refine Y.ite (fun hc=>?_) (fun hc=>Y.ret (e3.up (by omega)) (by omega))
 have hc:v.1<6:=by simpa using hc
 have hw:IntKind.i64.wrap (v.1+1)+((j - 1:Nat):Int)=6:=by rw [wrap_i64 (by omega) (by omega)]; omega
 refine (EP e3 (by omega) (by omega) (by omega)).bind fun _ s2 h2 _=>Y.ite (fun _=>Y.yes (by simp; omega) (hL _ (j - 1) (by omega) ⟨hw,by omega,h2.up (by omega), ?_⟩)) (fun _=>hL _ (j - 1) (by omega) ⟨hw,by omega,h2.up (by omega), ?_⟩)
 ·show (v.2.2.1++[_]).length+(j - 1)≤5
  simp; omega
 ·show v.2.2.1.length+(j - 1)≤5
  omega
theorem op {n:Nat} {s:Src} {m:Int} (hs:gY s m) (hm:m≤68719476736) (hn:big<n):Y (mJ n s) (m+2000) WZ:=by
 unfold mJ
 refine (pick hs (by omega) (by simp) (by simp)).bind fun r s1 h1 _=>(next h1 (by omega) (by omega) (by omega)).bind fun r s2 h2 hr=>Y.yes hr ?_
 repeat' (first
  | refine Y.zH (QH _) fun _ _=>?_
  | refine (next (by assumption) (by omega) (by decide) (by decide)).bind fun _ _ _ _=>?_
  | refine (YF (by assumption) (by omega) hn).bind fun _ _ _ _=>?_
  | refine (leaf (by assumption) (by omega) hn).bind fun _ _ _ _=>?_
  | refine Y.yes (by assumption) ?_
  | refine Y.ret (gY.up (by assumption) (by omega)) ⟨H7 (by decide) _, ?_, ?_, ?_⟩
  | refine Y.ite (fun _=>?_) (fun _=>?_)
  | exact H7 (by decide) _
  | exact (by simp:([]:List Int).length≤12)
  | exact (by simp:([]:List Int).length≤7)
  | exact Nat.le_trans (by assumption) (by decide)
  | exact ⟨jw,by show ([]:List Int).length≤1000; simp⟩
  | assumption)
theorem TQ {n:Nat} {s:Src} {m:Int} (hs:gY s m) (hm:m≤34359738368) (hn:big<n):Y (pJ n s) (m+3000) WZ:=by
 unfold pJ
 refine (op hs (by omega) hn).bind fun o s1 h1 ho=>(next h1 (by omega) (by omega) (by omega)).bind fun r s2 h2 _=>?_
 refine Y.ite (fun _=>(pick h2 (by omega) (by simp) (by simp)).bind fun r s3 h3 _=>Y.ret (h3.up (by omega)) ho) (fun _=>?_)
 refine Y.ite (fun _=>(next h2 (by omega) (by omega) (by omega)).bind fun r s3 h3 hr=>Y.yes hr (Y.ret (h3.up (by omega)) ⟨H7 (by decide) _,ho.2⟩)) (fun _=>?_)
 refine Y.ite (fun _=>(pick h2 (by omega) (by simp) (by simp)).bind fun r s3 h3 _=>Y.ret (h3.up (by omega)) ⟨ho.1,ho.2.1,by simp,ho.2.2.2⟩) (fun _=>?_)
 refine Y.ite (fun _=>(pick h2 (by omega) (by simp) (by simp)).bind fun r s3 h3 _=>Y.ret (h3.up (by omega)) ho) (fun _=>?_)
 exact Y.ite (fun _=>Y.ret (h2.up (by omega)) ⟨ho.1,ho.2.1,by simp,ho.2.2.2⟩) (fun _=>Y.ret (h2.up (by omega)) ho)
end Go.Proofs.Ytabnmpabdhmkoaa.tC
