/- The draws of stores and ops. -/
import Derived.Test.YtailcbngagacaaaGreatDrawMath
namespace Go.Proofs.YtailcbngagacaaaGreat.OJ
open Go Ow nJ oh pO ng Kk
def dD (l:List Int):Prop:=fF l/\l.length<=1000
def MV (m:dm):Prop:=dD m.2.2.2.1
def BX (b:Bx):Prop:=b.1.length<=12/\b.2.2.2.1.length<=7/\∀m∈b.2.2.2.1,MV m
def Ey (s:bP):Prop:=s.2.1.length<=4/\∀b∈s.2.1,BX b
def Q4 (o:OpC):Prop:=o.2.1.length<=12/\o.2.2.1.length<=12/\o.2.2.2.1.length<=7/\dD o.2.2.2.2.2.2.2.1
theorem MV.ok {m:dm} (h:MV m):rD m:=by show m.2.2.2.1.length<=big; have:=h.2; unfold big; omega
theorem BX.ok {b:Bx} (h:BX b):okB b:=⟨by have:=h.1; unfold big; omega,by have:=h.2.1; unfold big; omega,fun m hm=>(h.2.2 m hm).ok⟩
theorem Ey.ok {s:bP} (h:Ey s):gU s:=⟨by have:=h.1; unfold big; omega,fun b hb=>(h.2 b hb).ok⟩
theorem Q4.ok {o:OpC} (h:Q4 o):okO o:=⟨by have:=h.1; unfold big; omega,by have:=h.2.1; unfold big; omega,by have:=h.2.2.1; unfold big; omega,by have:=h.2.2.2.2; unfold big; omega⟩
theorem NV {L:List (List Int)} (h:L.all (fun l=>decide (l.length<=12))=true) (i:Nat):(L.getD i []).length<=12:=by
 rw [ig]
 cases hi:L[i]? with
 | none=>simp
 | some x=>simpa using eH.1 h x (qo hi)
theorem NL {A:Type} {P:A->Prop} {l:List A} {x:A} (h:∀y∈l,P y) (hx:P x):∀y∈l++[x],P y:=fun y hy=>by
 rcases bW.1 hy with hy | hy
 ·exact h y hy
 ·simp only [gI] at hy; subst hy; exact hx
theorem aaI {A:Type} {P:A->Prop} {k:Nat} {x:A} (hx:P x):∀y∈List.replicate k x,P y:=fun y hy=>by rw [(List.mem_replicate.1 hy).2]; exact hx
theorem message {n:Nat} {s:gP} {m u:Int} (hs:iT s m) (hm:m<=68719476736) (hn:big<n):Y (GY n s u) (m+6000) MV:=by
 unfold GY
 refine (next hs (by omega) (by omega) (by omega)).bind fun r s1 h1 _=>(next h1 (by omega) (by omega) (by omega)).bind fun r s2 h2 _=>(draw h2 (by omega) hn).bind fun r s3 h3 hr=>Y.ret (h3.up (by omega)) hr
theorem box {n:Nat} {s:gP} {m v:Int} {nm:List Int} (hs:iT s m) (hm:m<=34359738368) (hnm:nm.length<=12) (hn:big<n):Y (GX n s nm v) (m+20000) (fun b=>BX b/\b.2.2.2.1.length<=3):=by
 unfold GX
 refine (next hs (by omega) (by omega) (by omega)).bind fun r s1 h1 hr=>?_
 obtain ⟨k,rfl⟩:=Bn hr.1
 refine cnt (N:=n) (k:=k) (fun j (v:Int×gP×Bx×Bx×Unit)=>v.1=(j:Int)/\j<=k/\iT v.2.1 (m+1+6001 * (k - j))/\BX v.2.2.2.1/\v.2.2.2.1.2.2.2.1.length+j=k) (fun o:Option (Bx×gP×Unit)=>Y o (m+20000) (fun b=>BX b/\b.2.2.2.1.length<=3)) ?_ (by unfold big at hn; omega) ⟨rfl,bN _,h1.up (by omega),⟨hnm,by simp,fun m hm=>by simp at hm⟩,by simp⟩
 intro j L v ⟨e1,e2,e3,e4,e5⟩ hL
 refine Y.ite (fun hc=>?_) (fun hc=>Y.ret (e3.up (by omega)) ⟨e4,by omega⟩)
 have hc:v.1>0:=by simpa using hc
 refine (message e3 (by omega) hn).bind fun x s2 h2 hx=>Y.yes (by simp; omega) ((next h2 (by omega) (by omega) (by omega)).bind fun r s3 h3 _=>hL _ (j - 1) (by omega) ⟨?_,by omega,h3.up (by omega),⟨e4.1, ?_,NL e4.2.2 hx⟩, ?_⟩)
 ·show IntKind.i64.wrap (v.1 - 1)=_
  rw [wrap_i64 (by omega) (by omega)]; omega
 ·show (v.2.2.2.1.2.2.2.1++[x]).length<=7
  simp; omega
 ·show (v.2.2.2.1.2.2.2.1++[x]).length+(j - 1)=k
  simp; omega
theorem store {n:Nat} {s:gP} {m:Int} (hs:iT s m) (hm:m<=17179869184) (hn:big<n):Y (Ll n s) (m+100000) (fun t=>Ey t/\t.2.1.length<=3):=by
 unfold Ll
 refine (next hs (by omega) (by omega) (by omega)).bind fun r s1 h1 hr=>?_
 obtain ⟨k,rfl⟩:=Bn hr.1
 refine cnt (N:=n) (k:=k) (fun j (v:Int×gP×bP×bP×Unit)=>v.1=(j:Int)/\j<=k/\iT v.2.1 (m+1+20000 * (k - j))/\Ey v.2.2.2.1/\v.2.2.2.1.2.1.length+j=k) (fun o:Option (bP×gP×Unit)=>Y o (m+100000) (fun t=>Ey t/\t.2.1.length<=3)) ?_ (by unfold big at hn; omega) ⟨rfl,bN _,h1.up (by omega),⟨by simp,fun m hm=>by simp at hm⟩,by simp⟩
 intro j L v ⟨e1,e2,e3,e4,e5⟩ hL
 refine Y.ite (fun hc=>?_) (fun hc=>Y.ret (e3.up (by omega)) ⟨e4,by omega⟩)
 have hc:v.1>0:=by simpa using hc
 refine Y.yes ⟨by omega,by simp; omega⟩ ((box e3 (by omega) (NV (by decide) _) hn).bind fun x s2 h2 hx=>Y.yes (by simp; omega) (hL _ (j - 1) (by omega) ⟨?_,by omega,h2.up (by omega),⟨?_,NL e4.2 hx.1⟩, ?_⟩))
 ·show IntKind.i64.wrap (v.1 - 1)=_
  rw [wrap_i64 (by omega) (by omega)]; omega
 ·show (v.2.2.2.1.2.1++[x]).length<=4
  simp; omega
 ·show (v.2.2.2.1.2.1++[x]).length+(j - 1)=k
  simp; omega
theorem ahg {n:Nat} {s:gP} {m:Int} (hs:iT s m) (hm:m<=17179869184) (hn:big<n):Y (Lj n s) (m+40000) BX:=by
 unfold Lj
 refine (box hs (by omega) (by decide) hn).bind fun b s1 h1 hb=>(next h1 (by omega) (by omega) (by omega)).bind fun r s2 h2 _=>?_
 refine Y.ite (fun _=>(next h2 (by omega) (by omega) (by omega)).bind fun r s3 h3 hr=>Y.yes hr (Y.ret (h3.up (by omega)) ⟨NV (by decide) _,hb.1.2⟩)) (fun _=>?_)
 refine Y.ite (fun _=>(pick h2 (by omega) (by simp) (by simp)).bind fun r s3 h3 _=>Y.ret (h3.up (by omega)) hb.1) (fun _=>?_)
 refine Y.ite (fun _=>(pick h2 (by omega) (by simp) (by simp)).bind fun r s3 h3 _=>(message h3 (by omega) hn).bind fun x s4 h4 hx=>Y.yes (by simp; omega) (Y.ret (h4.up (by omega)) ⟨hb.1.1, ?_,NL hb.1.2.2 hx⟩)) (fun _=>?_)
 ·show (b.2.2.2.1++[x]).length<=7
  simp; omega
 refine Y.ite (fun _=>Y.yes (by decide) (Y.ret (h2.up (by omega)) ⟨hb.1.1, ?_,aaI ⟨pU,by show ([]:List Int).length<=1000; simp⟩⟩)) (fun _=>Y.ret (h2.up (by omega)) hb.1)
 show (List.replicate _ _).length<=7
 simp
theorem ahh {n:Nat} {s:gP} {m:Int} (hs:iT s m) (hm:m<=8589934592) (hn:big<n):Y (Li n s) (m+200000) Ey:=by
 unfold Li
 refine (store hs (by omega) hn).bind fun b s1 h1 hb=>(next h1 (by omega) (by omega) (by omega)).bind fun r s2 h2 _=>?_
 refine Y.ite (fun _=>(pick h2 (by omega) (by simp) (by simp)).bind fun r s3 h3 _=>Y.ret (h3.up (by omega)) hb.1) (fun _=>?_)
 refine Y.ite (fun _=>(ahg h2 (by omega) hn).bind fun x s3 h3 hx=>Y.yes (by simp; omega) (Y.ret (h3.up (by omega)) ⟨?_,NL hb.1.2 hx⟩)) (fun _=>?_)
 ·show (b.2.1++[x]).length<=4
  simp; omega
 refine Y.ite (fun _=>Y.yes (by decide) (Y.ret (h2.up (by omega)) ⟨?_,aaI ⟨?_, ?_,fun m hm=>by simp at hm⟩⟩)) (fun _=>Y.ret (h2.up (by omega)) hb.1)
 ·show (List.replicate _ _).length<=4
  simp
 ·show ([]:List Int).length<=12
  simp
 ·show ([]:List dm).length<=7
  simp
theorem ahM {n:Nat} (k:Int):G (ve n k) (fun _=>True):=⟨_,copies k,trivial⟩
theorem Kc {n:Nat} {s:gP} {m:Int} (hs:iT s m) (hm:m<=549755813888) (hn:big<n):Y (Bf n s) (m+5) (fun r=>r.length<=5):=by
 unfold Bf
 refine cnt (N:=n) (k:=5) (fun j (v:Int×gP×List Int×Unit)=>v.1+j=6/\j<=5/\iT v.2.1 (m+(5 - j))/\v.2.2.1.length+j<=5) (fun o:Option (List Int×gP×Unit)=>Y o (m+5) (fun r=>r.length<=5)) ?_ (by unfold big at hn; omega) ⟨by simp,bN _,hs.up (by omega),by simp⟩
 intro j L v ⟨e1,e2,e3,e4⟩ hL
 refine Y.ite (fun hc=>?_) (fun hc=>Y.ret (e3.up (by omega)) (by omega))
 have hc:v.1<6:=by simpa using hc
 have hw:IntKind.i64.wrap (v.1+1)+((j - 1:Nat):Int)=6:=by rw [wrap_i64 (by omega) (by omega)]; omega
 refine (Iq e3 (by omega) (by omega) (by omega)).bind fun _ s2 h2 _=>Y.ite (fun _=>Y.yes (by simp; omega) (hL _ (j - 1) (by omega) ⟨hw,by omega,h2.up (by omega), ?_⟩)) (fun _=>hL _ (j - 1) (by omega) ⟨hw,by omega,h2.up (by omega), ?_⟩)
 ·show (v.2.2.1++[_]).length+(j - 1)<=5
  simp; omega
 ·show v.2.2.1.length+(j - 1)<=5
  omega
theorem op {n:Nat} {s:gP} {m:Int} (hs:iT s m) (hm:m<=68719476736) (hn:big<n):Y (Lv n s) (m+2000) Q4:=by
 unfold Lv
 refine (pick hs (by omega) (by simp) (by simp)).bind fun r s1 h1 _=>(next h1 (by omega) (by omega) (by omega)).bind fun r s2 h2 hr=>Y.yes hr ?_
 repeat' (first
  | refine Y.tK (ahM _) fun _ _=>?_
  | refine (next (by assumption) (by omega) (by decide) (by decide)).bind fun _ _ _ _=>?_
  | refine (Kc (by assumption) (by omega) hn).bind fun _ _ _ _=>?_
  | refine (leaf (by assumption) (by omega) hn).bind fun _ _ _ _=>?_
  | refine Y.yes (by assumption) ?_
  | refine Y.ret (iT.up (by assumption) (by omega)) ⟨NV (by decide) _, ?_, ?_, ?_⟩
  | refine Y.ite (fun _=>?_) (fun _=>?_)
  | exact NV (by decide) _
  | exact (by simp:([]:List Int).length<=12)
  | exact (by simp:([]:List Int).length<=7)
  | exact lW (by assumption) (by decide)
  | exact ⟨pU,by show ([]:List Int).length<=1000; simp⟩
  | assumption)
end Go.Proofs.YtailcbngagacaaaGreat.OJ
