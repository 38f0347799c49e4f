/- The draws of vaults. -/
import Derived.Test.YtailcbngagacaabGreatDrawBMath
set_option linter.unusedVariables false
set_option linter.unusedSimpArgs false
namespace Go.Proofs.YtailcbngagacaabGreat.Vd
open Go Ow ni nM vo oQ mP uu Bo zu BA Ms Gh Gi
def dV (m:Nat) (v:iq):Prop:=pQ v/\v.2.1.length+v.2.2.1.length<=m
theorem dV.mono {m m':Nat} {v:iq} (h:dV m v) (hm:m<=m'):dV m' v:=⟨h.1,lY h.2 hm⟩
theorem Q9 (m:Nat) (c:Int):dV m (oW c).2.2.1:=⟨⟨by simp [oW,big],fun x hx=>by simp [oW] at hx,by simp [oW,big],fun x hx=>by simp [oW] at hx,by simp [oW,big],fun b hb=>absurd hb (zb)⟩,by simp [oW]⟩
theorem ai2:gW (1,[],()):=tL.1
theorem amN:gW (0,[],()):=⟨by simp [big],fun b hb=>absurd hb (zb)⟩
theorem amT {n:Nat} {s:bQ} {o:OpC} (hs:gW s) (ho:okO o) (hn:big<n):∃r:kI,yU n s o=some (r,())/\Aj r/\(r.1=0->iC o=0):=by
 obtain ⟨_,c,hc,hgc⟩:=zR hs hn
 by_cases c0:c=0
 ·obtain ⟨e1,_,e3,_⟩:=CZ hs (hgc.1 c0) ho hn
  refine ⟨_,e1,e3,fun h=>?_⟩
  by_cases hf:iC o=0
  ·exact hf
  ·unfold kK at h
   rw [aA hf] at h
   exact h
 ·unfold yU
  rw [hc]
  simp only [aJ,fH c0,lD,a_]
  exact ⟨bad c,rfl,FH _,fun h=>absurd h c0⟩
theorem copyV {n:Nat} {v:iq} (h:pQ v) (hn:big<n):GH n v=some (v,()):=by
 unfold GH
 rw [Jl h.s1,Jl h.s2,Jm h.st hn]
 rfl
theorem acP {n m:Nat} {v:iq} {o:OpC} (h:dV m v) (hm:m<=20000) (ho:okO o) (hd:dF o.2.2.2.2.2.2.2.1) (hn:big<n):G (A9 n v o) (fun r=>dV 6000 r.1.2.2.1):=by
 have q3:∀c,yV n c=some (oW c,()):=fun _=>rfl
 obtain ⟨r0,e1,e3,e4⟩:=amT h.1.st ho hn
 have g1:=h.2
 unfold A9
 rw [e1]
 simp only [q3,aJ]
 by_cases c0:r0.1=0
 ·have hf:=e4 c0
  have h8:ng o:=⟨xL.right hf,hd⟩
  have hp:(bU o).length<=504:=by have:=h8.body.2; rw [vV]; omega
  have hpb:=S9 (l:=[o]) (fun x hx=>by rw [fV.1 hx]; exact h8)
  simp only [kS,xO,gT] at hpb
  simp only [gB c0,iB,bG,bE,TV h.1 hn,NS h8 hn,aJ,copyV h.1 hn]
  rw [wrap_i64 (x:=(v.2.1.length:Int)+(v.2.2.1.length:Int)) (by omega) (by omega),wrap_i64 (by omega) (by omega)]
  by_cases c1:(v.2.1.length:Int)+(v.2.2.1.length:Int)+((bU o).length:Int)>6000
  ·simp only [gB c1,a_]
   exact G.ret (Q9 _ _)
  simp only [fH c1,bG,bE]
  refine G.ite (fun _=>G.ret (Q9 _ _)) (fun _=>G.yes (by omega) (G.ret ⟨⟨h.1.s1,h.1.b1, ?_,uI h.1.b2 hpb,e3.2⟩, ?_⟩))
  ·show (v.2.2.1++bU o).length<=big
   rw [bX]; unfold big; omega
  ·show v.2.1.length+(v.2.2.1++bU o).length<=6000
   rw [bX]; omega
 ·simp only [fH c0,lD,a_]
  exact G.ret (Q9 _ _)
theorem Rp {n m:Nat} {v:iq} (h:dV m v) (hm:m<=20000) (hn:big<n):G (DK n v) (fun r=>dV m r.1):=by
 have g1:=h.2
 unfold DK
 rw [copyV h.1 hn]
 simp only [aJ]
 refine G.yes (by omega) (G.ret ⟨⟨?_,uI h.1.b1 h.1.b2,by simp,fun x hx=>by simp at hx,h.1.st⟩, ?_⟩)
 ·show (v.2.1++v.2.2.1).length<=big
  rw [bX]; unfold big; omega
 ·show (v.2.1++v.2.2.1).length+([]:List Int).length<=m
  rw [bX]; simpa using g1
theorem doG {n m:Nat} {v:iq} {o:OpC} (h:dV m v) (hm:m<=20000) (ho:okO o) (hd:dF o.2.2.2.2.2.2.2.1) (hn:big<n):G (DJ n v o) (fun r=>dV 6000 r.1.2.2.1):=by
 unfold DJ
 exact (acP h hm ho hd hn).bind fun r hr=>G.ite (fun _=>G.ret hr) (fun _=>(Rp hr (by omega) hn).bind fun r2 h2=>G.ret h2)
theorem right {n:Nat} {s:gL} {m:Int} (hs:iO s m) (hm:m<=68719476736 - 20000) (hn:big<n):Y (Le n s) (m+20000) (dV 6000):=by
 unfold Le
 refine Y.tC (Q:=fun r=>r=(((1:Int),[],()),())) ⟨_,rfl,rfl⟩ fun r1 hr1=>?_
 subst hr1
 have o1:okO ((1:Int),[105,110],([]:List Int),([]:List Int),(0:Int),(0:Int),(0:Int),([]:List Int),()):=⟨by simp [big],by simp [big],by simp [big],by simp [big]⟩
 have o2:okO ((1:Int),[111,108,100],([]:List Int),([]:List Int),(0:Int),(0:Int),(0:Int),([]:List Int),()):=⟨by simp [big],by simp [big],by simp [big],by simp [big]⟩
 generalize hl:([((1:Int),[105,110],([]:List Int),([]:List Int),(0:Int),(0:Int),(0:Int),([]:List Int),()),((1:Int),[111,108,100],([]:List Int),([]:List Int),(0:Int),(0:Int),(0:Int),([]:List Int),())]:List OpC)=first
 have hfl:first.length=2:=by rw [<-hl]; rfl
 have hfo:∀i,okO (first.getD i ((0:Int),([]:List Int),([]:List Int),([]:List Int),(0:Int),(0:Int),(0:Int),([]:List Int),()))/\dF (first.getD i ((0:Int),([]:List Int),([]:List Int),([]:List Int),(0:Int),(0:Int),(0:Int),([]:List Int),())).2.2.2.2.2.2.2.1:=by
  intro i
  rw [<-hl]
  match i with
  | 0=>exact ⟨o1,fun x hx=>by simp at hx⟩
  | 1=>exact ⟨o2,fun x hx=>by simp at hx⟩
  | i+2=>exact ⟨⟨by simp [big],by simp [big],by simp [big],by simp [big]⟩,fun x hx=>by simp at hx⟩
 refine cnt (N:=n) (k:=2) (fun j (v:Int×gL×iq×iq×List OpC×Unit)=>v.1+j=2/\j<=2/\iO v.2.1 m/\dV 6000 v.2.2.2.1/\v.2.2.2.2.1=first) (fun o:Option (iq×gL×Unit)=>Y o (m+20000) (dV 6000)) ?_ (by unfold big at hn; omega) ⟨by simp,bP _,hs,⟨⟨by simp,fun x hx=>by simp at hx,by simp,fun x hx=>by simp at hx,ai2⟩,by simp⟩,rfl⟩
 intro j L v ⟨e1,e2,e3,e4,e5⟩ hL
 obtain ⟨i,s1,v0,v1,l,u⟩:=v
 simp only at e1 e2 e3 e4 e5
 subst e5
 simp only
 refine Y.ite (fun hc=>?_) (fun hc=>?_)
 ·have hc:i<(l.length:Int):=by simpa using hc
  refine Y.yes ⟨by omega,hc⟩ (Y.tC (doG e4 (by omega) (hfo _).1 (hfo _).2 hn) fun r hr=>?_)
  refine hL _ (j - 1) (by omega) ⟨?_,by omega,e3,hr,rfl⟩
  show IntKind.i64.wrap (i+1)+((j - 1:Nat):Int)=2
  rw [wrap_i64 (by omega) (by omega)]; omega
 ·refine (next e3 (by omega) (by omega) (by omega)).bind fun r s2 h2 hr=>?_
  obtain ⟨k,rfl⟩:=Bl hr.1
  refine cnt (N:=n) (k:=k) (fun j (v:Int×gL×iq×iq×Unit)=>v.1=(j:Int)/\j<=k/\iO v.2.1 (m+1+2001 * (k - j))/\dV 6000 v.2.2.2.1) (fun o:Option (iq×gL×Unit)=>Y o (m+20000) (dV 6000)) ?_ (by unfold big at hn; omega) ⟨rfl,bP _,h2.up (by omega),e4⟩
  intro j L v ⟨e1,e2,e3,e4⟩ hL
  refine Y.ite (fun hc=>?_) (fun hc=>Y.ret (e3.up (by omega)) e4)
  have hc:v.1>0:=by simpa using hc
  have hw:IntKind.i64.wrap (v.1 - 1)=((j - 1:Nat):Int):=by rw [wrap_i64 (by omega) (by omega)]; omega
  refine (op e3 (by omega) hn).bind fun o s3 h3 ho=>Y.tC (acP e4 (by omega) ho.ok ho.2.2.2.1 hn) fun r hr=>?_
  refine Y.ite (fun _=>?_) (fun _=>?_)
  ·refine (Ey h3 (by omega) (by omega) (by omega)).bind fun t s4 h4 _=>Y.ite (fun _=>Y.tC (Rp hr (by omega) hn) fun q hq=>hL _ (j - 1) (by omega) ⟨hw,by omega,h4.up (by omega),hq⟩) (fun _=>hL _ (j - 1) (by omega) ⟨hw,by omega,h4.up (by omega),hr⟩)
  ·refine (Ey h3 (by omega) (by omega) (by omega)).bind fun t s4 h4 _=>Y.ite (fun _=>Y.tC (Rp e4 (by omega) hn) fun q hq=>hL _ (j - 1) (by omega) ⟨hw,by omega,h4.up (by omega),hq⟩) (fun _=>hL _ (j - 1) (by omega) ⟨hw,by omega,h4.up (by omega),e4⟩)
theorem ah0 {n:Nat} {v:iq} {r:Int} (h:dV 6000 v) (hr:0<=r/\r<(v.2.2.1.length:Int)+1):dV 6000 (false,v.2.1++v.2.2.1.take r.toNat,[],(0,[],()),()):=by
 have g:=h.2
 refine ⟨⟨?_,uI h.1.b1 (Cz h.1.b2 _),by simp,fun x hx=>by simp at hx,amN⟩, ?_⟩
 ·show (v.2.1++v.2.2.1.take r.toNat).length<=big
  rw [bX,pM]; unfold big; omega
 ·show (v.2.1++v.2.2.1.take r.toNat).length+([]:List Int).length<=6000
  rw [bX,pM,mZ]; omega
theorem bent {n:Nat} {s:gL} {m:Int} (hs:iO s m) (hm:m<=4294967296) (hn:big<n):Y (Lb n s) (m+300000) (dV 20000):=by
 unfold Lb
 refine (right hs (by omega) hn).bind fun v s1 h1 hv=>(next h1 (by omega) (by omega) (by omega)).bind fun r s2 h2 _=>?_
 have g:=hv.2
 refine Y.ite (fun _=>Y.ret (h2.up (by omega)) ⟨⟨hv.1.s1,hv.1.b1,hv.1.s2,hv.1.b2,hv.1.st⟩,by show v.2.1.length+v.2.2.1.length<=20000; omega⟩) (fun _=>?_)
 refine Y.ite (fun _=>Y.yes (by simp; omega) (Y.ret (h2.up (by omega)) ⟨⟨hv.1.s1,hv.1.b1, ?_, ?_,hv.1.st⟩, ?_⟩)) (fun _=>?_)
 ·show (v.2.2.1++[(0:Int),9]).length<=big
  simp; unfold big; omega
 ·exact uI hv.1.b2 (vT (by omega) (vT (by omega) (fun x hx=>by simp at hx)))
 ·show v.2.1.length+(v.2.2.1++[(0:Int),9]).length<=20000
  simp; omega
 refine Y.ite (fun _=>(ahs h2 (by omega) hn).bind fun t s3 h3 ht=>Y.ret (h3.up (by omega)) ⟨⟨hv.1.s1,hv.1.b1,hv.1.s2,hv.1.b2,ht.ok⟩,by show v.2.1.length+v.2.2.1.length<=20000; omega⟩) (fun _=>?_)
 refine Y.ite (fun _=>?_) (fun _=>?_)
 ·rw [Jl hv.1.s1,wrap_i64 (x:=(v.2.2.1.length:Int)+1) (by omega) (by omega)]
  simp only [aJ]
  refine (next h2 (by omega) (by omega) (by omega)).bind fun r s3 h3 hr=>Y.yes ⟨hr.1,by omega⟩ (Y.yes (by rw [pM]; omega) (Y.ret (h3.up (by omega)) ((ah0 (n:=n) hv hr).mono (by omega))))
 refine Y.ite (fun _=>Y.yes (by decide) (Y.ret (h2.up (by omega)) ⟨⟨?_,aad _,hv.1.s2,hv.1.b2,hv.1.st⟩, ?_⟩)) (fun _=>Y.ret (h2.up (by omega)) (hv.mono (by omega)))
 ·show (List.replicate (8001:Int).toNat (0:Int)).length<=big
  rw [Qb]
  unfold big
  omega
 ·show (List.replicate (8001:Int).toNat (0:Int)).length+v.2.2.1.length<=20000
  rw [Qb]
  omega
theorem source {code:List Int} (hb:fG code) (hl:code.length<=big):iO (code,(0:Int),()) 0:=⟨hb,hl,DV _,DV _⟩
theorem codeOf {c:List Int} (h:c.length<=9223372036854775807/\∀x∈c,0<=x/\x<256):fG c:=fun x hx=>by have:=h.2 x hx; omega
end Go.Proofs.YtailcbngagacaabGreat.Vd
