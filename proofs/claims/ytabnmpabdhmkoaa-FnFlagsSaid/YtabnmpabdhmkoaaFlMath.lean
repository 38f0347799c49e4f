/- 'FnFlags': what it comes to. -/
import Derived.Test.YtabnmpabdhmkoaaOwF
import Derived.Test.YtabnmpabdhmkoaaLoopLib
import Derived.Test.YtabnmpabdhmkoaaCutLib
import Derived.Test.YtabnmpabdhmkoaaStoreMath
import Derived.Test.YtabnmpabdhmkoaaOpsMath
import Derived.Test.YtabnmpabdhmkoaaDrawMath
import Derived.Test.YtabnmpabdhmkoaaDrawSMath
import Derived.Test.YtabnmpabdhmkoaaDrawOMath
import Derived.Test.YtabnmpabdhmkoaaSeqMath
import Derived.Test.YtabnmpabdhmkoaaFlF
set_option linter.unusedSectionVars false
set_option linter.unusedVariables false
set_option linter.unusedSimpArgs false
namespace Go.Proofs.Ytabnmpabdhmkoaa.Kg
open Go Go.Proofs.Ytabnmpabdhmkoaa.Ow Go.Proofs.Ytabnmpabdhmkoaa.MV Go.Proofs.Ytabnmpabdhmkoaa.qb Go.Proofs.Ytabnmpabdhmkoaa.oF Go.Proofs.Ytabnmpabdhmkoaa.vO Go.Proofs.Ytabnmpabdhmkoaa.vL Go.Proofs.Ytabnmpabdhmkoaa.qJ Go.Proofs.Ytabnmpabdhmkoaa.Bh Go.Proofs.Ytabnmpabdhmkoaa.Ho
abbrev NN:Nat:=1048577
theorem Ny:big<NN:=by unfold big; decide
def tF (f:Nat):List Int:=((iB NN (f:Int)).getD ([],())).1
theorem sixteen {P:Nat→Prop} (h:P 0∧P 1∧P 2∧P 3∧P 4∧P 5∧P 6∧P 7∧P 8∧P 9∧P 10∧P 11∧P 12∧P 13∧P 14∧P 15) {f:Nat} (hf:f<16):P f:=by
 obtain ⟨h0,h1,h2,h3,h4,h5,h6,h7,h8,h9,h10,h11,h12,TQ,TR,TS⟩:=h
 match f,hf with
 | 0,_=>exact h0
 | 1,_=>exact h1
 | 2,_=>exact h2
 | 3,_=>exact h3
 | 4,_=>exact h4
 | 5,_=>exact h5
 | 6,_=>exact h6
 | 7,_=>exact h7
 | 8,_=>exact h8
 | 9,_=>exact h9
 | 10,_=>exact h10
 | 11,_=>exact h11
 | 12,_=>exact h12
 | 13,_=>exact TQ
 | 14,_=>exact TR
 | 15,_=>exact TS
 | k+16,h=>exact absurd h (by omega)
set_option maxRecDepth 100000 in
theorem uY {f:Nat} (hf:f<16):iB NN (f:Int)=some (tF f,()):=by
 refine sixteen (P:=fun f=>iB NN (f:Int)=some (tF f,())) ⟨?_, ?_, ?_, ?_, ?_, ?_, ?_, ?_, ?_, ?_, ?_, ?_, ?_, ?_, ?_, ?_⟩ hf <;> kernel_rfl
set_option maxRecDepth 100000 in
theorem zI {f:Nat} (hf:f<16):iZ NN (f:Int)=some (tF f,()):=by
 refine sixteen (P:=fun f=>iZ NN (f:Int)=some (tF f,())) ⟨?_, ?_, ?_, ?_, ?_, ?_, ?_, ?_, ?_, ?_, ?_, ?_, ?_, ?_, ?_, ?_⟩ hf <;> kernel_rfl
theorem Rj:∀f,f<16→∀g,g<16→tF f=tF g→f=g:=by decide +kernel
theorem Rl {f:Nat} (hf:f<16):(tF f).length≤100:=(show ∀f,f<16→(tF f).length≤100 by decide +kernel) f hf
theorem P6 (f:Int):gF NN f=some (decide (0≤f∧f≤15),()):=by
 unfold gF
 rw [uG,Et]
 rfl
abbrev PN:=Int×Int×Unit
def uf (t:List Int):Option (PN×Unit):=dh (fun j=>if tF j=t then some (some (((0:Int),(j:Int),()),())) else none) (some (((5:Int),(0:Int),()),())) 16 0
theorem Gt (t:List Int):jV NN t=uf t:=by
 unfold jV
 refine cu (fun i=>(t,(i:Int),(0,0,()),())) _ _ (m:=16) rfl (by decide) ?_ ?_
 ·intro L i hi _
  simp only [uY hi,abt,decide_eq_true_eq,dP hi (by omega)]
  rw [if_pos (by omega)]
  split <;> rfl
 ·intro L _
  simp
theorem Gs (t:List Int):aP NN t=uf t:=by
 unfold aP
 refine cu (fun i=>(t,(i:Int),(0,0,()),())) _ _ (m:=16) rfl (by decide) ?_ ?_
 ·intro L i hi _
  have h:decide (0≤(i:Int)∧(i:Int)≤15)=true:=by simp; omega
  simp only [P6,h,zI hi,abt,decide_eq_true_eq,dP hi (by omega),if_true]
  split <;> rfl
 ·intro L _
  simp [P6]
theorem CF {R:Type} {p:Nat→Prop} [DecidablePred p] {r:Nat→R} {fin:R}:∀{m i:Nat},(∃j,i≤j∧j<i+m∧p j∧dh (fun j=>if p j then some (r j) else none) fin m i=r j)∨((∀j,i≤j→j<i+m→¬p j)∧dh (fun j=>if p j then some (r j) else none) fin m i=fin):=by
 intro m
 induction m with
 | zero=>intro i; exact .inr ⟨fun j h1 h2=>by omega,rfl⟩
 | succ m ih=>
  intro i
  by_cases h:p i
  ·exact .inl ⟨i,abI _,by omega,h,by simp [dh,h]⟩
  ·rcases ih (i:=i+1) with ⟨j,h1,h2,h3,h4⟩ | ⟨h1,h2⟩
   ·exact .inl ⟨j,by omega,by omega,h3,by simp [dh,h,h4]⟩
   ·refine .inr ⟨fun j g1 g2=>?_,by simp [dh,h,h2]⟩
    by_cases e:j=i
    ·subst e; exact h
    ·exact h1 j (by omega) (by omega)
theorem x9 (t:List Int):(∃j,j<16∧tF j=t∧uf t=some ((0,(j:Int),()),()))∨((∀j,j<16→tF j≠t)∧uf t=some ((5,0,()),())):=by
 rcases CF (p:=fun j=>tF j=t) (r:=fun j:Nat=>some (((0:Int),(j:Int),()),())) (fin:=some (((5:Int),(0:Int),()),())) (m:=16) (i:=0) with ⟨j,_,h2,h3,h4⟩ | ⟨h1,h2⟩
 ·exact .inl ⟨j,by omega,h3,h4⟩
 ·exact .inr ⟨fun j hj=>h1 j (by omega) (by omega),h2⟩
theorem JW (f:Int):cK NN f=some (if 0≤f∧f≤15 then (0,tF f.toNat,()) else (3,[],()),()):=by
 unfold cK
 rw [P6]
 simp only [abt]
 by_cases h:0≤f∧f≤15
 ·obtain ⟨k,rfl⟩:=Int.eq_ofNat_of_zero_le h.1
  simp only [h,and_self,decide_true,abT,abv,if_false,if_true]
  rw [zI (by omega)]
  rfl
 ·simp only [h,decide_false,ab4,if_true,if_false]
theorem JX (f:Int):dm NN f=some (if 0≤f∧f≤15 then (0,tF f.toNat,()) else (3,[],()),()):=by
 unfold dm
 rw [Et]
 simp only [abt]
 by_cases h:0≤f∧f≤15
 ·obtain ⟨k,rfl⟩:=Int.eq_ofNat_of_zero_le h.1
  simp only [h,and_self,decide_true,abT,abv,if_false,if_true]
  rw [uY (by omega)]
  rfl
 ·simp only [h,decide_false,ab4,if_true,if_false]
theorem JO {s:qM} {nm:List Int} {i:Nat} (h:xz s nm=(i:Int)) (hi:i<s.2.1.length):(s.2.1.getD i dB).1=nm:=by
 unfold xz at h
 split at h
 ·rename_i hx
  have e:s.2.1.findIdx (fun b=>decide (b.1=nm))=i:=by omega
  subst e
  rw [getD_lt hi]
  have:=List.findIdx_getElem (w:=hx)
  simpa using this
 ·omega
theorem TI {s:qM} {nm:List Int} (hs:Pm s):∃q:PN,lT NN s nm=some (q,())∧lU NN s nm=some (q,())∧(q.1=0→0≤q.2.1∧q.2.1<(s.2.1.length:Int)∧(s.2.1.getD q.2.1.toNat dB).1=nm):=by
 obtain ⟨h2,c,hc,hg⟩:=KR hs Ny
 have hci:iP NN s=some (c,()):=h2.trans hc
 unfold lT lU
 rw [hci,hc]
 simp only [abt]
 by_cases h0:c=0
 ·simp only [h0,decide_true,abT,abv,if_false,box hs.1 Ny,YL hs.1 Ny,abt]
  rcases Ag s nm with hp | ⟨i,hp,hi⟩
  ·rw [hp]
   exact ⟨(4,0,()),rfl,rfl,fun h=>by simp at h⟩
  ·have:¬((i:Int)<0):=by omega
   rw [hp]
   simp only [this,decide_false,abv,if_false]
   exact ⟨(0,(i:Int),()),rfl,rfl,fun _=>⟨by show 0≤(i:Int); omega,by show (i:Int)<_; omega,by show (s.2.1.getD (i:Int).toNat dB).1=nm; rw [abC]; exact JO hp hi⟩⟩
 ·simp only [h0,decide_false,ab4,if_true]
  exact ⟨(c,0,()),rfl,rfl,fun h=>absurd h h0⟩
theorem uid {b:Bx} {u:Int} (hb:b.2.2.2.1.length≤big):oh NN b u=some (EO b u,()):=by
 have hb':=hb
 unfold big at hb
 unfold oh
 refine (cu (fun i=>(b,u,(i:Int),())) (fun j=>if decide ((b.2.2.2.1.getD j dM).1=u)=true then some (some ((j:Int),())) else none) (some (-1,())) (m:=b.2.2.2.1.length) rfl (Nat.lt_of_le_of_lt hb' Ny) ?_ ?_).trans ?_
 ·intro L i hi _
  simp only [abS,hi,decide_true,if_true,cO hi,abC,dP hi (by omega)]
  split <;> rfl
 ·intro L _
  simp
 ·rw [ry.o8 (p:=fun m:qI=>decide (m.1=u)) (r:=fun j=>some ((j:Int),())) b.2.2.2.1.length 0 (by omega)]
  simp only [List.drop_zero,Nat.zero_add]
  unfold EO
  split <;> rfl
theorem Ve {b:Bx} {u:Int} (hb:okB b):∃q:PN,dK NN b u=some (q,())∧fD NN b u=some (q,())∧(q.1=0→1≤q.2.1∧q.2.1≤(b.2.2.2.1.length:Int)∧(b.2.2.2.1.getD (q.2.1 - 1).toNat dM).1=u):=by
 have hl:=hb.2.1
 unfold big at hl
 obtain ⟨h1,h2,_⟩:=Bw hb Ny
 unfold dK fD
 rw [h1,h2]
 simp only [abt]
 by_cases h0:bf NN b=0
 ·simp only [h0,decide_true,abT,abv,if_false,message hb.2.1 Ny,uid hb.2.1,abt]
  rcases Ah b u with ⟨e,_⟩ | ⟨i,e,hi,he⟩
  ·rw [e]
   exact ⟨(4,0,()),rfl,rfl,fun h=>by simp at h⟩
  ·have:¬((i:Int)<0):=by omega
   rw [e,wrap_i64 (by omega) (by omega)]
   simp only [this,decide_false,abv,if_false]
   refine ⟨(0,(i:Int)+1,()),rfl,rfl,fun _=>⟨by show 1≤(i:Int)+1; omega,by show (i:Int)+1≤_; omega, ?_⟩⟩
   show (b.2.2.2.1.getD ((i:Int)+1 - 1).toNat dM).1=u
   rw [show ((i:Int)+1 - 1).toNat=i by omega,getD_lt hi]
   exact he
 ·simp only [h0,decide_false,ab4,if_true]
  exact ⟨(bf NN b,0,()),rfl,rfl,fun h=>absurd h h0⟩
theorem KM {code:List Int} (hb:mV code) (hl:code.length≤big):∃t,iH NN code=some (t,()):=by
 unfold iH
 have e:dG NN code=some ((code,(0:Int),()),()):=rfl
 rw [e]
 obtain ⟨r,s1,e1,h1,hr⟩:=next (n:=NN) (source hb hl) (k:=16) (by omega) (by omega) (by omega)
 obtain ⟨k,rfl⟩:=Int.eq_ofNat_of_zero_le hr.1
 obtain ⟨r2,s2,e2,h2,hr2⟩:=next (n:=NN) h1 (k:=7) (by omega) (by omega) (by omega)
 have hlen:=Rl (f:=k) (by omega)
 simp only [abt,e1]
 rw [uY (by omega)]
 simp only [abt]
 rw [if_pos (by simp; omega)]
 simp only [e2,abt]
 refine ⟨_,if_pos ?_⟩
 exact hr2
theorem Np {code:List Int} (hb:mV code) (hl:code.length≤big):∃s nm,jc NN code=some (s,nm,())∧OO s:=by
 unfold jc
 have e:dG NN code=some ((code,(0:Int),()),()):=rfl
 rw [e]
 obtain ⟨s,s1,e1,h1,hs⟩:=Bv (n:=NN) (source hb hl) (by omega) Ny
 obtain ⟨r2,s2,e2,h2,hr2⟩:=next (n:=NN) h1 (k:=6) (by omega) (by omega) (by omega)
 have e3:jW NN s1=some ([[105,110],[111,108,100],[98,111,120],[105,110],[110,111,110,101],([]:List Int)].getD r2.toNat [],s2,()):=by
  unfold jW
  rw [e2]
  simp only [abt]
  exact if_pos hr2
 simp only [abt,e1,e3]
 exact ⟨s,_,rfl,hs⟩
theorem Nq {code:List Int} (hb:mV code) (hl:code.length≤big):∃b u,dI NN code=some (b,u,())∧OM b:=by
 unfold dI
 have e:dG NN code=some ((code,(0:Int),()),()):=rfl
 rw [e]
 obtain ⟨b,s1,e1,h1,hs⟩:=Hu (n:=NN) (source hb hl) (by omega) Ny
 obtain ⟨r2,s2,e2,h2,hr2⟩:=next (n:=NN) h1 (k:=7) (by omega) (by omega) (by omega)
 simp only [abt,e1,e2]
 exact ⟨b,r2,rfl,hs⟩
theorem Jf {code:List Int} (hb:mV code) (hl:code.length≤big):∃f,bM NN code=some (f,()):=by
 unfold bM
 have e:dG NN code=some ((code,(0:Int),()),()):=rfl
 rw [e]
 obtain ⟨r,s1,e1,h1,hr⟩:=next (n:=NN) (source hb hl) (k:=18) (by omega) (by omega) (by omega)
 simp only [abt,e1]
 exact ⟨_,rfl⟩
theorem law {code:List Int} (hb:mV code):oO NN code=some (true,()):=by
 unfold oO
 have e0:rA NN code=some (decide ((code.length:Int)>1048576),()):=rfl
 rw [e0]
 simp only [abt]
 by_cases hl:(code.length:Int)>1048576
 ·rw [if_pos (by simpa using hl)]
 rw [if_neg (by simpa using hl)]
 have hl':code.length≤big:=by unfold big; omega
 obtain ⟨t,e1⟩:=KM hb hl'
 obtain ⟨s,nm,e2,hs⟩:=Np hb hl'
 obtain ⟨b,u,e3,hbx⟩:=Nq hb hl'
 obtain ⟨f,e4⟩:=Jf hb hl'
 obtain ⟨q,e5,e6,hq⟩:=TI (nm:=nm) hs.ok
 obtain ⟨z,e7,e8,hz⟩:=Ve (u:=u) hbx.ok
 obtain ⟨g1,g2,_⟩:=Bw hbx.ok Ny
 have g3:dF NN b=some (bf NN b,()):=by unfold dF; rw [g1]; rfl
 simp only [e1,e2,e3,e4,e5,e6,e7,e8,g2,g3,Gt,Gs,JW,JX,abt]
 simp only [decide_true,abT,abv,if_false]
 have last:((if (!decide ((if 0≤f∧f≤15 then ((0:Int),tF f.toNat,()) else (3,[],())).1=0))=true then (some (true,()):Option (Bool×Unit)) else ((uf (if 0≤f∧f≤15 then ((0:Int),tF f.toNat,()) else (3,[],())).2.1).bind fun r=>(if decide (r.1.2.1=f)=true then ((uf (if 0≤f∧f≤15 then ((0:Int),tF f.toNat,()) else (3,[],())).2.1).bind fun r2=>(if decide (r2.1.1=0)=true then some (true,()) else some (false,()))) else some (false,())))):Option (Bool×Unit))=some (true,()):=by
  by_cases h:0≤f∧f≤15
  ·obtain ⟨k,rfl⟩:=Int.eq_ofNat_of_zero_le h.1
   simp only [h,and_self,if_true,abC]
   rcases x9 (tF k) with ⟨j,h1,h2,h3⟩ | ⟨h1,_⟩
   ·have:=Rj j h1 k (by omega) h2
    subst this
    rw [h3]
    simp
   ·exact absurd rfl (h1 k (by omega))
  ·simp only [h,if_false]
   simp
 generalize (if (!decide ((if 0≤f∧f≤15 then ((0:Int),tF f.toNat,()) else (3,[],())).1=0))=true then (some (true,()):Option (Bool×Unit)) else ((uf (if 0≤f∧f≤15 then ((0:Int),tF f.toNat,()) else (3,[],())).2.1).bind fun r=>(if decide (r.1.2.1=f)=true then ((uf (if 0≤f∧f≤15 then ((0:Int),tF f.toNat,()) else (3,[],())).2.1).bind fun r2=>(if decide (r2.1.1=0)=true then some (true,()) else some (false,()))) else some (false,()))))=lst at *
 subst last
 have mid:((if decide (z.1=0)=true then (if decide (z.2.1<1)=true then some (false,()) else (if decide (z.2.1>(b.2.2.2.1.length:Int))=true then some (false,()) else (if aN (IntKind.i64.wrap (z.2.1 - 1)) b.2.2.2.1.length then (if (!decide ((b.2.2.2.1.getD (IntKind.i64.wrap (z.2.1 - 1)).toNat dM).1=u))=true then some (false,()) else some (true,())) else none))) else some (true,())):Option (Bool×Unit))=some (true,()):=by
  by_cases h:z.1=0
  ·obtain ⟨h1,h2,h3⟩:=hz h
   have hbl:=hbx.2.1
   have hw:IntKind.i64.wrap (z.2.1 - 1)=z.2.1 - 1:=wrap_i64 (by omega) (by omega)
   have d1:decide (z.2.1<1)=false:=by simp; omega
   have d2:decide (z.2.1>(b.2.2.2.1.length:Int))=false:=by simp; omega
   have d3:aN (z.2.1 - 1) b.2.2.2.1.length:=⟨by omega,by omega⟩
   simp only [hw,d1,d2,h3,h,decide_true,abT,abv,if_false,if_true]
   rw [if_pos d3]
  ·simp [h]
 rcases x9 t with ⟨j,h1,h2,h3⟩ | ⟨_,h3⟩
 ·have hj:0≤(j:Int)∧(j:Int)≤15:=⟨by omega,by omega⟩
  simp only [h3,abt,decide_true,abT,abv,if_false,if_true,hj,and_self,abC,h2]
  by_cases h:q.1=0
  ·obtain ⟨k1,k2,k3⟩:=hq h
   have d1:decide (q.2.1<0)=false:=by simp; omega
   have d2:decide (q.2.1≥(s.2.1.length:Int))=false:=by simp; omega
   have d3:aN q.2.1 s.2.1.length:=⟨k1,k2⟩
   have d4:(!decide ((s.2.1.getD q.2.1.toNat dB).1=nm))=false:=by rw [k3]; simp
   rw [if_pos (by simp [h]),d1,d2]
   simp only [abv,if_false]
   rw [if_pos d3,if_neg (by rw [d4]; simp)]
   exact mid
  ·rw [if_neg (by simp [h])]
   exact mid
 ·simp only [h3,abt,decide_true,abT,abv,if_false,show decide ((5:Int)=0)=false from by decide]
  by_cases h:q.1=0
  ·obtain ⟨k1,k2,k3⟩:=hq h
   have d1:decide (q.2.1<0)=false:=by simp; omega
   have d2:decide (q.2.1≥(s.2.1.length:Int))=false:=by simp; omega
   have d3:aN q.2.1 s.2.1.length:=⟨k1,k2⟩
   have d4:(!decide ((s.2.1.getD q.2.1.toNat dB).1=nm))=false:=by rw [k3]; simp
   rw [if_pos (by simp [h]),d1,d2]
   simp only [abv,if_false]
   rw [if_pos d3,if_neg (by rw [d4]; simp)]
   exact mid
  ·rw [if_neg (by simp [h])]
   exact mid
theorem all:∀(N:Nat) (c:Cont (kin iO)),NT iO c→Vj iO c≤N→∃n out,sK.F n c=some out∧out.1=true:=by
 intro N c hc _
 exact ⟨1048577,(true,()),law (code:=c.1) (codeOf hc.1),rfl⟩
end Go.Proofs.Ytabnmpabdhmkoaa.Kg
