/- The draws of vaults. -/
import Derived.Test.YtailcbngagacaaaGreatDrawSMath
set_option linter.unusedVariables false
set_option linter.unusedSimpArgs false
namespace Go.Proofs.YtailcbngagacaaaGreat.U8
open Go Ow nJ oh vB pO ng uA Bq zo BI Mt Kk OJ
def dV (m:Nat) (v:jh):Prop:=qQ v/\v.2.1.length+v.2.2.1.length<=m
theorem dV.mono {m m':Nat} {v:jh} (h:dV m v) (hm:m<=m'):dV m' v:=⟨h.1,lW h.2 hm⟩
theorem Q5 (m:Nat) (c:Int):dV m (qy c).2.2.1:=⟨⟨by simp [qy,big],fun x hx=>by simp [qy] at hx,by simp [qy,big],fun x hx=>by simp [qy] at hx,by simp [qy,big],fun b hb=>absurd hb (wR)⟩,by simp [qy]⟩
theorem aiR:gU (1,[],()):=pW.1
theorem amy:gU (0,[],()):=⟨by simp [big],fun b hb=>absurd hb (wR)⟩
theorem amE {n:Nat} {s:bP} {o:OpC} (hs:gU s) (ho:okO o) (hn:big<n):∃r:kE,yU n s o=some (r,())/\Aj r/\(r.1=0->iF o=0):=by
 obtain ⟨_,c,hc,hgc⟩:=zQ hs hn
 by_cases c0:c=0
 ·obtain ⟨e1,_,e3,_⟩:=Oh hs (hgc.1 c0) ho hn
  refine ⟨_,e1,e3,fun h=>?_⟩
  by_cases hf:iF o=0
  ·exact hf
  ·unfold pV at h
   rw [aA hf] at h
   exact h
 ·unfold yU
  rw [hc]
  simp only [aL,f_ c0,mI,a_]
  exact ⟨bad c,rfl,FD _,fun h=>absurd h c0⟩
theorem copyV {n:Nat} {v:jh} (h:qQ v) (hn:big<n):GN n v=some (v,()):=by
 unfold GN
 rw [Fw h.s1,Fw h.s2,Jo h.st hn]
 rfl
theorem acO {n m:Nat} {v:jh} {o:OpC} (h:dV m v) (hm:m<=20000) (ho:okO o) (hd:dA o.2.2.2.2.2.2.2.1) (hn:big<n):G (GR n v o) (fun r=>dV 6000 r.1.2.2.1):=by
 have q3:∀c,yV n c=some (qy c,()):=fun _=>rfl
 obtain ⟨r0,e1,e3,e4⟩:=amE h.1.st ho hn
 have g1:=h.2
 unfold GR
 rw [e1]
 simp only [q3,aL]
 by_cases c0:r0.1=0
 ·have hf:=e4 c0
  have h8:oo o:=⟨yZ.right hf,hd⟩
  have hp:(bZ o).length<=504:=by have:=h8.body.2; rw [xw]; omega
  have hpb:=SQ (l:=[o]) (fun x hx=>by rw [gI.1 hx]; exact h8)
  simp only [kQ,Bu,h_] at hpb
  simp only [gH c0,jc,bJ,bF,aa3 h.1 hn,TP h8 hn,aL,copyV h.1 hn]
  rw [wrap_i64 (x:=(v.2.1.length:Int)+(v.2.2.1.length:Int)) (by omega) (by omega),wrap_i64 (by omega) (by omega)]
  by_cases c1:(v.2.1.length:Int)+(v.2.2.1.length:Int)+((bZ o).length:Int)>6000
  ·simp only [gH c1,a_]
   exact G.ret (Q5 _ _)
  simp only [f_ c1,bJ,bF]
  refine G.ite (fun _=>G.ret (Q5 _ _)) (fun _=>G.yes (by omega) (G.ret ⟨⟨h.1.s1,h.1.b1, ?_,uO h.1.b2 hpb,e3.2⟩, ?_⟩))
  ·show (v.2.2.1++bZ o).length<=big
   rw [bV]; unfold big; omega
  ·show v.2.1.length+(v.2.2.1++bZ o).length<=6000
   rw [bV]; omega
 ·simp only [f_ c0,mI,a_]
  exact G.ret (Q5 _ _)
theorem Rl {n m:Nat} {v:jh} (h:dV m v) (hm:m<=20000) (hn:big<n):G (DJ n v) (fun r=>dV m r.1):=by
 have g1:=h.2
 unfold DJ
 rw [copyV h.1 hn]
 simp only [aL]
 refine G.yes (by omega) (G.ret ⟨⟨?_,uO h.1.b1 h.1.b2,by simp,fun x hx=>by simp at hx,h.1.st⟩, ?_⟩)
 ·show (v.2.1++v.2.2.1).length<=big
  rw [bV]; unfold big; omega
 ·show (v.2.1++v.2.2.1).length+([]:List Int).length<=m
  rw [bV]; simpa using g1
theorem doG {n m:Nat} {v:jh} {o:OpC} (h:dV m v) (hm:m<=20000) (ho:okO o) (hd:dA o.2.2.2.2.2.2.2.1) (hn:big<n):G (K6 n v o) (fun r=>dV 6000 r.1.2.2.1):=by
 unfold K6
 exact (acO h hm ho hd hn).bind fun r hr=>G.ite (fun _=>G.ret hr) (fun _=>(Rl hr (by omega) hn).bind fun r2 h2=>G.ret h2)
theorem right {n:Nat} {s:gP} {m:Int} (hs:iT s m) (hm:m<=68719476736 - 20000) (hn:big<n):Y (K9 n s) (m+20000) (dV 6000):=by
 unfold K9
 refine Y.tK (Q:=fun r=>r=(((1:Int),[],()),())) ⟨_,rfl,rfl⟩ fun r1 hr1=>?_
 subst hr1
 have o1:okO ((1:Int),[105,110],([]:List Int),([]:List Int),(0:Int),(0:Int),(0:Int),([]:List Int),()):=⟨by simp [big],by simp [big],by simp [big],by simp [big]⟩
 have o2:okO ((1:Int),[111,108,100],([]:List Int),([]:List Int),(0:Int),(0:Int),(0:Int),([]:List Int),()):=⟨by simp [big],by simp [big],by simp [big],by simp [big]⟩
 generalize hl:([((1:Int),[105,110],([]:List Int),([]:List Int),(0:Int),(0:Int),(0:Int),([]:List Int),()),((1:Int),[111,108,100],([]:List Int),([]:List Int),(0:Int),(0:Int),(0:Int),([]:List Int),())]:List OpC)=first
 have hfl:first.length=2:=by rw [<-hl]; rfl
 have hfo:∀i,okO (first.getD i ((0:Int),([]:List Int),([]:List Int),([]:List Int),(0:Int),(0:Int),(0:Int),([]:List Int),()))/\dA (first.getD i ((0:Int),([]:List Int),([]:List Int),([]:List Int),(0:Int),(0:Int),(0:Int),([]:List Int),())).2.2.2.2.2.2.2.1:=by
  intro i
  rw [<-hl]
  match i with
  | 0=>exact ⟨o1,fun x hx=>by simp at hx⟩
  | 1=>exact ⟨o2,fun x hx=>by simp at hx⟩
  | i+2=>exact ⟨⟨by simp [big],by simp [big],by simp [big],by simp [big]⟩,fun x hx=>by simp at hx⟩
 refine cnt (N:=n) (k:=2) (fun j (v:Int×gP×jh×jh×List OpC×Unit)=>v.1+j=2/\j<=2/\iT v.2.1 m/\dV 6000 v.2.2.2.1/\v.2.2.2.2.1=first) (fun o:Option (jh×gP×Unit)=>Y o (m+20000) (dV 6000)) ?_ (by unfold big at hn; omega) ⟨by simp,bN _,hs,⟨⟨by simp,fun x hx=>by simp at hx,by simp,fun x hx=>by simp at hx,aiR⟩,by simp⟩,rfl⟩
 intro j L v ⟨e1,e2,e3,e4,e5⟩ hL
 obtain ⟨i,s1,v0,v1,l,u⟩:=v
 simp only at e1 e2 e3 e4 e5
 subst e5
 simp only
 refine Y.ite (fun hc=>?_) (fun hc=>?_)
 ·have hc:i<(l.length:Int):=by simpa using hc
  refine Y.yes ⟨by omega,hc⟩ (Y.tK (doG e4 (by omega) (hfo _).1 (hfo _).2 hn) fun r hr=>?_)
  refine hL _ (j - 1) (by omega) ⟨?_,by omega,e3,hr,rfl⟩
  show IntKind.i64.wrap (i+1)+((j - 1:Nat):Int)=2
  rw [wrap_i64 (by omega) (by omega)]; omega
 ·refine (next e3 (by omega) (by omega) (by omega)).bind fun r s2 h2 hr=>?_
  obtain ⟨k,rfl⟩:=Bn hr.1
  refine cnt (N:=n) (k:=k) (fun j (v:Int×gP×jh×jh×Unit)=>v.1=(j:Int)/\j<=k/\iT v.2.1 (m+1+2001 * (k - j))/\dV 6000 v.2.2.2.1) (fun o:Option (jh×gP×Unit)=>Y o (m+20000) (dV 6000)) ?_ (by unfold big at hn; omega) ⟨rfl,bN _,h2.up (by omega),e4⟩
  intro j L v ⟨e1,e2,e3,e4⟩ hL
  refine Y.ite (fun hc=>?_) (fun hc=>Y.ret (e3.up (by omega)) e4)
  have hc:v.1>0:=by simpa using hc
  have hw:IntKind.i64.wrap (v.1 - 1)=((j - 1:Nat):Int):=by rw [wrap_i64 (by omega) (by omega)]; omega
  refine (op e3 (by omega) hn).bind fun o s3 h3 ho=>Y.tK (acO e4 (by omega) ho.ok ho.2.2.2.1 hn) fun r hr=>?_
  refine Y.ite (fun _=>?_) (fun _=>?_)
  ·refine (Iq h3 (by omega) (by omega) (by omega)).bind fun t s4 h4 _=>Y.ite (fun _=>Y.tK (Rl hr (by omega) hn) fun q hq=>hL _ (j - 1) (by omega) ⟨hw,by omega,h4.up (by omega),hq⟩) (fun _=>hL _ (j - 1) (by omega) ⟨hw,by omega,h4.up (by omega),hr⟩)
  ·refine (Iq h3 (by omega) (by omega) (by omega)).bind fun t s4 h4 _=>Y.ite (fun _=>Y.tK (Rl e4 (by omega) hn) fun q hq=>hL _ (j - 1) (by omega) ⟨hw,by omega,h4.up (by omega),hq⟩) (fun _=>hL _ (j - 1) (by omega) ⟨hw,by omega,h4.up (by omega),e4⟩)
theorem ahP {n:Nat} {v:jh} {r:Int} (h:dV 6000 v) (hr:0<=r/\r<(v.2.2.1.length:Int)+1):dV 6000 (false,v.2.1++v.2.2.1.take r.toNat,[],(0,[],()),()):=by
 have g:=h.2
 refine ⟨⟨?_,uO h.1.b1 (Ac h.1.b2 _),by simp,fun x hx=>by simp at hx,amy⟩, ?_⟩
 ·show (v.2.1++v.2.2.1.take r.toNat).length<=big
  rw [bV,mZ]; unfold big; omega
 ·show (v.2.1++v.2.2.1.take r.toNat).length+([]:List Int).length<=6000
  rw [bV,mZ,mY]; omega
theorem ahf {n:Nat} {s:gP} {m:Int} (hs:iT s m) (hm:m<=4294967296) (hn:big<n):Y (K5 n s) (m+300000) (dV 20000):=by
 unfold K5
 refine (right hs (by omega) hn).bind fun v s1 h1 hv=>(next h1 (by omega) (by omega) (by omega)).bind fun r s2 h2 _=>?_
 have g:=hv.2
 refine Y.ite (fun _=>Y.ret (h2.up (by omega)) ⟨⟨hv.1.s1,hv.1.b1,hv.1.s2,hv.1.b2,hv.1.st⟩,by show v.2.1.length+v.2.2.1.length<=20000; omega⟩) (fun _=>?_)
 refine Y.ite (fun _=>Y.yes (by simp; omega) (Y.ret (h2.up (by omega)) ⟨⟨hv.1.s1,hv.1.b1, ?_, ?_,hv.1.st⟩, ?_⟩)) (fun _=>?_)
 ·show (v.2.2.1++[(0:Int),9]).length<=big
  simp; unfold big; omega
 ·exact uO hv.1.b2 (vU (by omega) (vU (by omega) (fun x hx=>by simp at hx)))
 ·show v.2.1.length+(v.2.2.1++[(0:Int),9]).length<=20000
  simp; omega
 refine Y.ite (fun _=>(ahh h2 (by omega) hn).bind fun t s3 h3 ht=>Y.ret (h3.up (by omega)) ⟨⟨hv.1.s1,hv.1.b1,hv.1.s2,hv.1.b2,ht.ok⟩,by show v.2.1.length+v.2.2.1.length<=20000; omega⟩) (fun _=>?_)
 refine Y.ite (fun _=>?_) (fun _=>?_)
 ·rw [Fw hv.1.s1,wrap_i64 (x:=(v.2.2.1.length:Int)+1) (by omega) (by omega)]
  simp only [aL]
  refine (next h2 (by omega) (by omega) (by omega)).bind fun r s3 h3 hr=>Y.yes ⟨hr.1,by omega⟩ (Y.yes (by rw [mZ]; omega) (Y.ret (h3.up (by omega)) ((ahP (n:=n) hv hr).mono (by omega))))
 refine Y.ite (fun _=>Y.yes (by decide) (Y.ret (h2.up (by omega)) ⟨⟨?_,Z9 _,hv.1.s2,hv.1.b2,hv.1.st⟩, ?_⟩)) (fun _=>Y.ret (h2.up (by omega)) (hv.mono (by omega)))
 ·show (List.replicate (8001:Int).toNat (0:Int)).length<=big
  rw [Qa]
  unfold big
  omega
 ·show (List.replicate (8001:Int).toNat (0:Int)).length+v.2.2.1.length<=20000
  rw [Qa]
  omega
theorem source {code:List Int} (hb:fF code) (hl:code.length<=big):iT (code,(0:Int),()) 0:=⟨hb,hl,Bo _,Bo _⟩
theorem codeOf {c:List Int} (h:c.length<=9223372036854775807/\∀x∈c,0<=x/\x<256):fF c:=fun x hx=>by have:=h.2 x hx; omega
end Go.Proofs.YtailcbngagacaaaGreat.U8
