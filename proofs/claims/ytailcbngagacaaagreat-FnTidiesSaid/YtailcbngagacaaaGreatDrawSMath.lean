/- The draws of stores and ops. -/
import Derived.Test.YtailcbngagacaaaGreatDrawMath
namespace Go.Proofs.YtailcbngagacaaaGreat.Cs
open Go Ow JO kF iw gU Bo
def dD (l:List Int):Prop:=uq l/\l.length<=1000
def dMs (m:oV):Prop:=dD m.2.2.2.1
def dBx (b:Bx):Prop:=b.1.length<=12/\b.2.2.2.1.length<=7/\∀m∈b.2.2.2.1,dMs m
def dSt (s:j4):Prop:=s.2.1.length<=4/\∀b∈s.2.1,dBx b
def dOp (o:OpC):Prop:=o.2.1.length<=12/\o.2.2.1.length<=12/\o.2.2.2.1.length<=7/\dD o.2.2.2.2.2.2.2.1
theorem dMs.ok {m:oV} (h:dMs m):OX m:=by show m.2.2.2.1.length<=big; have:=h.2; unfold big; omega
theorem dBx.ok {b:Bx} (h:dBx b):okB b:=⟨by have:=h.1; unfold big; omega,by have:=h.2.1; unfold big; omega,fun m hm=>(h.2.2 m hm).ok⟩
theorem dSt.ok {s:j4} (h:dSt s):wW s:=⟨by have:=h.1; unfold big; omega,fun b hb=>(h.2 b hb).ok⟩
theorem dOp.ok {o:OpC} (h:dOp o):okO o:=⟨by have:=h.1; unfold big; omega,by have:=h.2.1; unfold big; omega,by have:=h.2.2.1; unfold big; omega,by have:=h.2.2.2.2; unfold big; omega⟩
theorem QD {L:List (List Int)} (h:L.all (fun l=>decide (l.length<=12))=true) (i:Nat):(L.getD i []).length<=12:=by
 rw [anr]
 cases hi:L[i]? with
 | none=>simp
 | some x=>simpa using anu.1 h x (anV hi)
theorem BQ {A:Type} {P:A->Prop} {l:List A} {x:A} (h:∀y∈l,P y) (hx:P x):∀y∈l++[x],P y:=fun y hy=>by
 rcases ann.1 hy with hy | hy
 ·exact h y hy
 ·simp only [anz] at hy; subst hy; exact hx
theorem Qv {A:Type} {P:A->Prop} {k:Nat} {x:A} (hx:P x):∀y∈List.replicate k x,P y:=fun y hy=>by rw [(List.mem_replicate.1 hy).2]; exact hx
theorem message {n:Nat} {s:kX} {m u:Int} (hs:iC s m) (hm:m<=68719476736) (hn:big<n):Y (iU n s u) (m+6000) dMs:=by
 unfold iU
 refine (next hs (by omega) (by omega) (by omega)).bind fun r s1 h1 _=>(next h1 (by omega) (by omega) (by omega)).bind fun r s2 h2 _=>(draw h2 (by omega) hn).bind fun r s3 h3 hr=>Y.ret (h3.up (by omega)) hr
theorem box {n:Nat} {s:kX} {m v:Int} {nm:List Int} (hs:iC s m) (hm:m<=34359738368) (hnm:nm.length<=12) (hn:big<n):Y (l9 n s nm v) (m+20000) (fun b=>dBx b/\b.2.2.2.1.length<=3):=by
 unfold l9
 refine (next hs (by omega) (by omega) (by omega)).bind fun r s1 h1 hr=>?_
 obtain ⟨k,rfl⟩:=ao9 hr.1
 refine cnt (N:=n) (k:=k) (fun j (v:Int×kX×Bx×Bx×Unit)=>v.1=(j:Int)/\j<=k/\iC v.2.1 (m+1+6001 * (k - j))/\dBx v.2.2.2.1/\v.2.2.2.1.2.2.2.1.length+j=k) (fun o:Option (Bx×kX×Unit)=>Y o (m+20000) (fun b=>dBx b/\b.2.2.2.1.length<=3)) ?_ (by unfold big at hn; omega) ⟨rfl,anv _,h1.up (by omega),⟨hnm,by simp,fun m hm=>by simp at hm⟩,by simp⟩
 intro j L v ⟨e1,e2,e3,e4,e5⟩ hL
 refine Y.ite (fun hc=>?_) (fun hc=>Y.ret (e3.up (by omega)) ⟨e4,by omega⟩)
 have hc:v.1>0:=by simpa using hc
 refine (message e3 (by omega) hn).bind fun x s2 h2 hx=>Y.yes (by simp; omega) ((next h2 (by omega) (by omega) (by omega)).bind fun r s3 h3 _=>hL _ (j - 1) (by omega) ⟨?_,by omega,h3.up (by omega),⟨e4.1, ?_,BQ e4.2.2 hx⟩, ?_⟩)
 ·show IntKind.i64.wrap (v.1 - 1)=_
  rw [wrap_i64 (by omega) (by omega)]; omega
 ·show (v.2.2.2.1.2.2.2.1++[x]).length<=7
  simp; omega
 ·show (v.2.2.2.1.2.2.2.1++[x]).length+(j - 1)=k
  simp; omega
theorem store {n:Nat} {s:kX} {m:Int} (hs:iC s m) (hm:m<=17179869184) (hn:big<n):Y (sS n s) (m+100000) (fun t=>dSt t/\t.2.1.length<=3):=by
 unfold sS
 refine (next hs (by omega) (by omega) (by omega)).bind fun r s1 h1 hr=>?_
 obtain ⟨k,rfl⟩:=ao9 hr.1
 refine cnt (N:=n) (k:=k) (fun j (v:Int×kX×j4×j4×Unit)=>v.1=(j:Int)/\j<=k/\iC v.2.1 (m+1+20000 * (k - j))/\dSt v.2.2.2.1/\v.2.2.2.1.2.1.length+j=k) (fun o:Option (j4×kX×Unit)=>Y o (m+100000) (fun t=>dSt t/\t.2.1.length<=3)) ?_ (by unfold big at hn; omega) ⟨rfl,anv _,h1.up (by omega),⟨by simp,fun m hm=>by simp at hm⟩,by simp⟩
 intro j L v ⟨e1,e2,e3,e4,e5⟩ hL
 refine Y.ite (fun hc=>?_) (fun hc=>Y.ret (e3.up (by omega)) ⟨e4,by omega⟩)
 have hc:v.1>0:=by simpa using hc
 refine Y.yes ⟨by omega,by simp; omega⟩ ((box e3 (by omega) (QD (by decide) _) hn).bind fun x s2 h2 hx=>Y.yes (by simp; omega) (hL _ (j - 1) (by omega) ⟨?_,by omega,h2.up (by omega),⟨?_,BQ e4.2 hx.1⟩, ?_⟩))
 ·show IntKind.i64.wrap (v.1 - 1)=_
  rw [wrap_i64 (by omega) (by omega)]; omega
 ·show (v.2.2.2.1.2.1++[x]).length<=4
  simp; omega
 ·show (v.2.2.2.1.2.1++[x]).length+(j - 1)=k
  simp; omega
theorem XA {n:Nat} {s:kX} {m:Int} (hs:iC s m) (hm:m<=17179869184) (hn:big<n):Y (oQ n s) (m+40000) dBx:=by
 unfold oQ
 refine (box hs (by omega) (by decide) hn).bind fun b s1 h1 hb=>(next h1 (by omega) (by omega) (by omega)).bind fun r s2 h2 _=>?_
 refine Y.ite (fun _=>(next h2 (by omega) (by omega) (by omega)).bind fun r s3 h3 hr=>Y.yes hr (Y.ret (h3.up (by omega)) ⟨QD (by decide) _,hb.1.2⟩)) (fun _=>?_)
 refine Y.ite (fun _=>(pick h2 (by omega) (by simp) (by simp)).bind fun r s3 h3 _=>Y.ret (h3.up (by omega)) hb.1) (fun _=>?_)
 refine Y.ite (fun _=>(pick h2 (by omega) (by simp) (by simp)).bind fun r s3 h3 _=>(message h3 (by omega) hn).bind fun x s4 h4 hx=>Y.yes (by simp; omega) (Y.ret (h4.up (by omega)) ⟨hb.1.1, ?_,BQ hb.1.2.2 hx⟩)) (fun _=>?_)
 ·show (b.2.2.2.1++[x]).length<=7
  simp; omega
 refine Y.ite (fun _=>Y.yes (by decide) (Y.ret (h2.up (by omega)) ⟨hb.1.1, ?_,Qv ⟨kY,by show ([]:List Int).length<=1000; simp⟩⟩)) (fun _=>Y.ret (h2.up (by omega)) hb.1)
 show (List.replicate _ _).length<=7
 simp
theorem Rn {n:Nat} {s:kX} {m:Int} (hs:iC s m) (hm:m<=8589934592) (hn:big<n):Y (sQ n s) (m+200000) dSt:=by
 unfold sQ
 refine (store hs (by omega) hn).bind fun b s1 h1 hb=>(next h1 (by omega) (by omega) (by omega)).bind fun r s2 h2 _=>?_
 refine Y.ite (fun _=>(pick h2 (by omega) (by simp) (by simp)).bind fun r s3 h3 _=>Y.ret (h3.up (by omega)) hb.1) (fun _=>?_)
 refine Y.ite (fun _=>(XA h2 (by omega) hn).bind fun x s3 h3 hx=>Y.yes (by simp; omega) (Y.ret (h3.up (by omega)) ⟨?_,BQ hb.1.2 hx⟩)) (fun _=>?_)
 ·show (b.2.1++[x]).length<=4
  simp; omega
 refine Y.ite (fun _=>Y.yes (by decide) (Y.ret (h2.up (by omega)) ⟨?_,Qv ⟨?_, ?_,fun m hm=>by simp at hm⟩⟩)) (fun _=>Y.ret (h2.up (by omega)) hb.1)
 ·show (List.replicate _ _).length<=4
  simp
 ·show ([]:List Int).length<=12
  simp
 ·show ([]:List oV).length<=7
  simp
theorem XB {n:Nat} (k:Int):G (dZ n k) (fun _=>True):=⟨_,copies k,trivial⟩
theorem WN {n:Nat} {s:kX} {m:Int} (hs:iC s m) (hm:m<=549755813888) (hn:big<n):Y (gT n s) (m+5) (fun r=>r.length<=5):=by
 unfold gT
 refine cnt (N:=n) (k:=5) (fun j (v:Int×kX×List Int×Unit)=>v.1+j=6/\j<=5/\iC v.2.1 (m+(5 - j))/\v.2.2.1.length+j<=5) (fun o:Option (List Int×kX×Unit)=>Y o (m+5) (fun r=>r.length<=5)) ?_ (by unfold big at hn; omega) ⟨by simp,anv _,hs.up (by omega),by simp⟩
 intro j L v ⟨e1,e2,e3,e4⟩ hL
 refine Y.ite (fun hc=>?_) (fun hc=>Y.ret (e3.up (by omega)) (by omega))
 have hc:v.1<6:=by simpa using hc
 have hw:IntKind.i64.wrap (v.1+1)+((j - 1:Nat):Int)=6:=by rw [wrap_i64 (by omega) (by omega)]; omega
 refine (CL e3 (by omega) (by omega) (by omega)).bind fun _ s2 h2 _=>Y.ite (fun _=>Y.yes (by simp; omega) (hL _ (j - 1) (by omega) ⟨hw,by omega,h2.up (by omega), ?_⟩)) (fun _=>hL _ (j - 1) (by omega) ⟨hw,by omega,h2.up (by omega), ?_⟩)
 ·show (v.2.2.1++[_]).length+(j - 1)<=5
  simp; omega
 ·show v.2.2.1.length+(j - 1)<=5
  omega
theorem op {n:Nat} {s:kX} {m:Int} (hs:iC s m) (hm:m<=68719476736) (hn:big<n):Y (sV n s) (m+2000) dOp:=by
 unfold sV
 refine (pick hs (by omega) (by simp) (by simp)).bind fun r s1 h1 _=>(next h1 (by omega) (by omega) (by omega)).bind fun r s2 h2 hr=>Y.yes hr ?_
 repeat' (first
  | refine Y.xg (XB _) fun _ _=>?_
  | refine (next (by assumption) (by omega) (by decide) (by decide)).bind fun _ _ _ _=>?_
  | refine (WN (by assumption) (by omega) hn).bind fun _ _ _ _=>?_
  | refine (leaf (by assumption) (by omega) hn).bind fun _ _ _ _=>?_
  | refine Y.yes (by assumption) ?_
  | refine Y.ret (iC.up (by assumption) (by omega)) ⟨QD (by decide) _, ?_, ?_, ?_⟩
  | refine Y.ite (fun _=>?_) (fun _=>?_)
  | exact QD (by decide) _
  | exact (by simp:([]:List Int).length<=12)
  | exact (by simp:([]:List Int).length<=7)
  | exact aov (by assumption) (by decide)
  | exact ⟨kY,by show ([]:List Int).length<=1000; simp⟩
  | assumption)
end Go.Proofs.YtailcbngagacaaaGreat.Cs
