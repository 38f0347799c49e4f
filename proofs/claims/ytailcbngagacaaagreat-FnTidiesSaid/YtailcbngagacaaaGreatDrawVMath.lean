/- The draws of vaults. -/
import Derived.Test.YtailcbngagacaaaGreatDrawSMath
set_option linter.unusedVariables false
set_option linter.unusedSimpArgs false
namespace Go.Proofs.YtailcbngagacaaaGreat.Ct
open Go Ow JO kF qc iw gU kK tL qz vg EZ Bo Cs
def dV (m:Nat) (v:wZ):Prop:=IC v/\v.2.1.length+v.2.2.1.length<=m
theorem dV.mono {m m':Nat} {v:wZ} (h:dV m v) (hm:m<=m'):dV m' v:=⟨h.1,aov h.2 hm⟩
theorem J7 (m:Nat) (c:Int):dV m (vW c).2.2.1:=⟨⟨by simp [vW,big],fun x hx=>by simp [vW] at hx,by simp [vW,big],fun x hx=>by simp [vW] at hx,by simp [vW,big],fun b hb=>absurd hb (aot)⟩,by simp [vW]⟩
theorem UN:wW (1,[],()):=xm.1
theorem Yg:wW (0,[],()):=⟨by simp [big],fun b hb=>absurd hb (aot)⟩
theorem abF {n:Nat} {s:j4} {o:OpC} (hs:wW s) (ho:okO o) (hn:big<n):∃r:rG,iT n s o=some (r,())/\ZA r/\(r.1=0->dW o=0):=by
 obtain ⟨_,c,hc,hgc⟩:=vv hs hn
 by_cases c0:c=0
 ·obtain ⟨e1,_,e3,_⟩:=Dt hs (hgc.1 c0) ho hn
  refine ⟨_,e1,e3,fun h=>?_⟩
  by_cases hf:dW o=0
  ·exact hf
  ·unfold nC at h
   rw [aok hf] at h
   exact h
 ·unfold iT
  rw [hc]
  simp only [anf,aoY c0,anS,aof]
  exact ⟨bad c,rfl,zN _,fun h=>absurd h c0⟩
theorem copyV {n:Nat} {v:wZ} (h:IC v) (hn:big<n):og n v=some (v,()):=by
 unfold og
 rw [AJ h.s1,AJ h.s2,Da h.st hn]
 rfl
theorem Pt {n m:Nat} {v:wZ} {o:OpC} (h:dV m v) (hm:m<=20000) (ho:okO o) (hd:pR o.2.2.2.2.2.2.2.1) (hn:big<n):G (kP n v o) (fun r=>dV 6000 r.1.2.2.1):=by
 have q3:∀c,fQ n c=some (vW c,()):=fun _=>rfl
 obtain ⟨r0,e1,e3,e4⟩:=abF h.1.st ho hn
 have g1:=h.2
 unfold kP
 rw [e1]
 simp only [q3,anf]
 by_cases c0:r0.1=0
 ·have hf:=e4 c0
  have h8:ES o:=⟨tK.right hf,hd⟩
  have hp:(bK o).length<=504:=by have:=h8.body.2; rw [oD]; omega
  have hpb:=Ja (l:=[o]) (fun x hx=>by rw [anz.1 hx]; exact h8)
  simp only [anT,apl,anJ] at hpb
  simp only [aoA c0,anH,anh,aog,GJ h.1 hn,zS h8 hn,anf,copyV h.1 hn]
  rw [wrap_i64 (x:=(v.2.1.length:Int)+(v.2.2.1.length:Int)) (by omega) (by omega),wrap_i64 (by omega) (by omega)]
  by_cases c1:(v.2.1.length:Int)+(v.2.2.1.length:Int)+((bK o).length:Int)>6000
  ·simp only [aoA c1,aof]
   exact G.ret (J7 _ _)
  simp only [aoY c1,anh,aog]
  refine G.ite (fun _=>G.ret (J7 _ _)) (fun _=>G.yes (by omega) (G.ret ⟨⟨h.1.s1,h.1.b1, ?_,rq h.1.b2 hpb,e3.2⟩, ?_⟩))
  ·show (v.2.2.1++bK o).length<=big
   rw [anm]; unfold big; omega
  ·show v.2.1.length+(v.2.2.1++bK o).length<=6000
   rw [anm]; omega
 ·simp only [aoY c0,anS,aof]
  exact G.ret (J7 _ _)
theorem Oy {n m:Nat} {v:wZ} (h:dV m v) (hm:m<=20000) (hn:big<n):G (kN n v) (fun r=>dV m r.1):=by
 have g1:=h.2
 unfold kN
 rw [copyV h.1 hn]
 simp only [anf]
 refine G.yes (by omega) (G.ret ⟨⟨?_,rq h.1.b1 h.1.b2,by simp,fun x hx=>by simp at hx,h.1.st⟩, ?_⟩)
 ·show (v.2.1++v.2.2.1).length<=big
  rw [anm]; unfold big; omega
 ·show (v.2.1++v.2.2.1).length+([]:List Int).length<=m
  rw [anm]; simpa using g1
theorem doG {n m:Nat} {v:wZ} {o:OpC} (h:dV m v) (hm:m<=20000) (ho:okO o) (hd:pR o.2.2.2.2.2.2.2.1) (hn:big<n):G (uG n v o) (fun r=>dV 6000 r.1.2.2.1):=by
 unfold uG
 exact (Pt h hm ho hd hn).bind fun r hr=>G.ite (fun _=>G.ret hr) (fun _=>(Oy hr (by omega) hn).bind fun r2 h2=>G.ret h2)
theorem right {n:Nat} {s:kX} {m:Int} (hs:iC s m) (hm:m<=68719476736 - 20000) (hn:big<n):Y (ni n s) (m+20000) (dV 6000):=by
 unfold ni
 refine Y.xg (Q:=fun r=>r=(((1:Int),[],()),())) ⟨_,rfl,rfl⟩ fun r1 hr1=>?_
 subst hr1
 have o1:okO ((1:Int),[105,110],([]:List Int),([]:List Int),(0:Int),(0:Int),(0:Int),([]:List Int),()):=⟨by simp [big],by simp [big],by simp [big],by simp [big]⟩
 have o2:okO ((1:Int),[111,108,100],([]:List Int),([]:List Int),(0:Int),(0:Int),(0:Int),([]:List Int),()):=⟨by simp [big],by simp [big],by simp [big],by simp [big]⟩
 generalize hl:([((1:Int),[105,110],([]:List Int),([]:List Int),(0:Int),(0:Int),(0:Int),([]:List Int),()),((1:Int),[111,108,100],([]:List Int),([]:List Int),(0:Int),(0:Int),(0:Int),([]:List Int),())]:List OpC)=first
 have hfl:first.length=2:=by rw [<-hl]; rfl
 have hfo:∀i,okO (first.getD i ((0:Int),([]:List Int),([]:List Int),([]:List Int),(0:Int),(0:Int),(0:Int),([]:List Int),()))/\pR (first.getD i ((0:Int),([]:List Int),([]:List Int),([]:List Int),(0:Int),(0:Int),(0:Int),([]:List Int),())).2.2.2.2.2.2.2.1:=by
  intro i
  rw [<-hl]
  match i with
  | 0=>exact ⟨o1,fun x hx=>by simp at hx⟩
  | 1=>exact ⟨o2,fun x hx=>by simp at hx⟩
  | i+2=>exact ⟨⟨by simp [big],by simp [big],by simp [big],by simp [big]⟩,fun x hx=>by simp at hx⟩
 refine cnt (N:=n) (k:=2) (fun j (v:Int×kX×wZ×wZ×List OpC×Unit)=>v.1+j=2/\j<=2/\iC v.2.1 m/\dV 6000 v.2.2.2.1/\v.2.2.2.2.1=first) (fun o:Option (wZ×kX×Unit)=>Y o (m+20000) (dV 6000)) ?_ (by unfold big at hn; omega) ⟨by simp,anv _,hs,⟨⟨by simp,fun x hx=>by simp at hx,by simp,fun x hx=>by simp at hx,UN⟩,by simp⟩,rfl⟩
 intro j L v ⟨e1,e2,e3,e4,e5⟩ hL
 obtain ⟨i,s1,v0,v1,l,u⟩:=v
 simp only at e1 e2 e3 e4 e5
 subst e5
 simp only
 refine Y.ite (fun hc=>?_) (fun hc=>?_)
 ·have hc:i<(l.length:Int):=by simpa using hc
  refine Y.yes ⟨by omega,hc⟩ (Y.xg (doG e4 (by omega) (hfo _).1 (hfo _).2 hn) fun r hr=>?_)
  refine hL _ (j - 1) (by omega) ⟨?_,by omega,e3,hr,rfl⟩
  show IntKind.i64.wrap (i+1)+((j - 1:Nat):Int)=2
  rw [wrap_i64 (by omega) (by omega)]; omega
 ·refine (next e3 (by omega) (by omega) (by omega)).bind fun r s2 h2 hr=>?_
  obtain ⟨k,rfl⟩:=ao9 hr.1
  refine cnt (N:=n) (k:=k) (fun j (v:Int×kX×wZ×wZ×Unit)=>v.1=(j:Int)/\j<=k/\iC v.2.1 (m+1+2001 * (k - j))/\dV 6000 v.2.2.2.1) (fun o:Option (wZ×kX×Unit)=>Y o (m+20000) (dV 6000)) ?_ (by unfold big at hn; omega) ⟨rfl,anv _,h2.up (by omega),e4⟩
  intro j L v ⟨e1,e2,e3,e4⟩ hL
  refine Y.ite (fun hc=>?_) (fun hc=>Y.ret (e3.up (by omega)) e4)
  have hc:v.1>0:=by simpa using hc
  have hw:IntKind.i64.wrap (v.1 - 1)=((j - 1:Nat):Int):=by rw [wrap_i64 (by omega) (by omega)]; omega
  refine (op e3 (by omega) hn).bind fun o s3 h3 ho=>Y.xg (Pt e4 (by omega) ho.ok ho.2.2.2.1 hn) fun r hr=>?_
  refine Y.ite (fun _=>?_) (fun _=>?_)
  ·refine (CL h3 (by omega) (by omega) (by omega)).bind fun t s4 h4 _=>Y.ite (fun _=>Y.xg (Oy hr (by omega) hn) fun q hq=>hL _ (j - 1) (by omega) ⟨hw,by omega,h4.up (by omega),hq⟩) (fun _=>hL _ (j - 1) (by omega) ⟨hw,by omega,h4.up (by omega),hr⟩)
  ·refine (CL h3 (by omega) (by omega) (by omega)).bind fun t s4 h4 _=>Y.ite (fun _=>Y.xg (Oy e4 (by omega) hn) fun q hq=>hL _ (j - 1) (by omega) ⟨hw,by omega,h4.up (by omega),hq⟩) (fun _=>hL _ (j - 1) (by omega) ⟨hw,by omega,h4.up (by omega),e4⟩)
theorem aeN {n:Nat} {v:wZ} {r:Int} (h:dV 6000 v) (hr:0<=r/\r<(v.2.2.1.length:Int)+1):dV 6000 (false,v.2.1++v.2.2.1.take r.toNat,[],(0,[],()),()):=by
 have g:=h.2
 refine ⟨⟨?_,rq h.1.b1 (vH h.1.b2 _),by simp,fun x hx=>by simp at hx,Yg⟩, ?_⟩
 ·show (v.2.1++v.2.2.1.take r.toNat).length<=big
  rw [anm,aoX]; unfold big; omega
 ·show (v.2.1++v.2.2.1.take r.toNat).length+([]:List Int).length<=6000
  rw [anm,aoX,ao6]; omega
theorem aeJ {n:Nat} {s:kX} {m:Int} (hs:iC s m) (hm:m<=4294967296) (hn:big<n):Y (nZ n s) (m+300000) (dV 20000):=by
 unfold nZ
 refine (right hs (by omega) hn).bind fun v s1 h1 hv=>(next h1 (by omega) (by omega) (by omega)).bind fun r s2 h2 _=>?_
 have g:=hv.2
 refine Y.ite (fun _=>Y.ret (h2.up (by omega)) ⟨⟨hv.1.s1,hv.1.b1,hv.1.s2,hv.1.b2,hv.1.st⟩,by show v.2.1.length+v.2.2.1.length<=20000; omega⟩) (fun _=>?_)
 refine Y.ite (fun _=>Y.yes (by simp; omega) (Y.ret (h2.up (by omega)) ⟨⟨hv.1.s1,hv.1.b1, ?_, ?_,hv.1.st⟩, ?_⟩)) (fun _=>?_)
 ·show (v.2.2.1++[(0:Int),9]).length<=big
  simp; unfold big; omega
 ·exact rq hv.1.b2 (ou (by omega) (ou (by omega) (fun x hx=>by simp at hx)))
 ·show v.2.1.length+(v.2.2.1++[(0:Int),9]).length<=20000
  simp; omega
 refine Y.ite (fun _=>(Rn h2 (by omega) hn).bind fun t s3 h3 ht=>Y.ret (h3.up (by omega)) ⟨⟨hv.1.s1,hv.1.b1,hv.1.s2,hv.1.b2,ht.ok⟩,by show v.2.1.length+v.2.2.1.length<=20000; omega⟩) (fun _=>?_)
 refine Y.ite (fun _=>?_) (fun _=>?_)
 ·rw [AJ hv.1.s1,wrap_i64 (x:=(v.2.2.1.length:Int)+1) (by omega) (by omega)]
  simp only [anf]
  refine (next h2 (by omega) (by omega) (by omega)).bind fun r s3 h3 hr=>Y.yes ⟨hr.1,by omega⟩ (Y.yes (by rw [aoX]; omega) (Y.ret (h3.up (by omega)) ((aeN (n:=n) hv hr).mono (by omega))))
 refine Y.ite (fun _=>Y.yes (by decide) (Y.ret (h2.up (by omega)) ⟨⟨?_,Ms _,hv.1.s2,hv.1.b2,hv.1.st⟩, ?_⟩)) (fun _=>Y.ret (h2.up (by omega)) (hv.mono (by omega)))
 ·show (List.replicate (8001:Int).toNat (0:Int)).length<=big
  rw [apm]
  unfold big
  omega
 ·show (List.replicate (8001:Int).toNat (0:Int)).length+v.2.2.1.length<=20000
  rw [apm]
  omega
theorem source {code:List Int} (hb:uq code) (hl:code.length<=big):iC (code,(0:Int),()) 0:=⟨hb,hl,ao3 _,ao3 _⟩
theorem codeOf {c:List Int} (h:c.length<=9223372036854775807/\∀x∈c,0<=x/\x<256):uq c:=fun x hx=>by have:=h.2 x hx; omega
end Go.Proofs.YtailcbngagacaaaGreat.Ct
