/- 'FnOps': what it comes to. -/
import Derived.Test.YtabnmpabdhmkoaaOwF
import Derived.Test.YtabnmpabdhmkoaaLoopLib
import Derived.Test.YtabnmpabdhmkoaaCutLib
import Derived.Test.YtabnmpabdhmkoaaStoreMath
import Derived.Test.YtabnmpabdhmkoaaOpsMath
import Derived.Test.YtabnmpabdhmkoaaGoodMath
import Derived.Test.YtabnmpabdhmkoaaDrawMath
import Derived.Test.YtabnmpabdhmkoaaDrawSMath
import Derived.Test.YtabnmpabdhmkoaaDrawOMath
import Derived.Test.YtabnmpabdhmkoaaSeqMath
import Derived.Test.YtabnmpabdhmkoaaExtMath
import Derived.Test.YtabnmpabdhmkoaaFoF
set_option linter.unusedSectionVars false
set_option linter.unusedVariables false
set_option linter.unusedSimpArgs false
namespace Go.Proofs.Ytabnmpabdhmkoaa.Nn
open Go Go.Proofs.Ytabnmpabdhmkoaa.Ow Go.Proofs.Ytabnmpabdhmkoaa.Nl Go.Proofs.Ytabnmpabdhmkoaa.pY Go.Proofs.Ytabnmpabdhmkoaa.nN Go.Proofs.Ytabnmpabdhmkoaa.nu Go.Proofs.Ytabnmpabdhmkoaa.AQ Go.Proofs.Ytabnmpabdhmkoaa.xK Go.Proofs.Ytabnmpabdhmkoaa.tK Go.Proofs.Ytabnmpabdhmkoaa.Dz Go.Proofs.Ytabnmpabdhmkoaa.Kq Go.Proofs.Ytabnmpabdhmkoaa.Ki
theorem law {n:Nat} {code:List Int} (hb:qC code) (hn:big<n):uo n code=some (true,()):=by
 unfold uo
 have e0:uq n code=some (decide ((code.length:Int)>1048576),()):=rfl
 rw [e0]
 simp only [agc,decide_eq_true_eq]
 by_cases hl:(code.length:Int)>1048576
 ·rw [if_pos hl]
 rw [if_neg hl]
 obtain ⟨s,o,e1,hs,ho⟩:=drawn (n:=n) hb (by unfold big; omega) hn
 have hS:=hs.ok
 have hO:=ho.ok
 rw [e1]
 simp only [agc]
 obtain ⟨h2,c,hc,hg⟩:=BK hS hn
 have hci:eY n s=some (c,()):=h2.trans hc
 have hsp:nY n o=some (nJ o,()):=by unfold nY; rw [BM hO hn]; rfl
 by_cases hc0:c=0
 ·have hgood:=hg.1 hc0
  obtain ⟨r,a1,a2,a3,a4⟩:=EM hS hO hgood hn
  have hA:jM n s o=some (r,()):=by
   unfold jM
   rw [hci]
   simp only [agc,hc0,decide_true,agF,age,if_false,a2]
  rw [hA]
  simp only [agc,a1]
  by_cases hr:r.1=0
  ·obtain ⟨hf,hrr⟩:nJ o=0∧r=nu.tC (iY s o):=by
    rcases a4 with h | ⟨hf,hrr⟩
    ·exact h
    ·rw [hrr] at hr; exact absurd hr hf
   have h0:(iY s o).2.1=0:=by
    unfold nu.tC at hrr
    split at hrr
    ·assumption
    ·rw [hrr] at hr; exact hr
   have hst:r.2.2.1=(iY s o).2.2.1:=by rw [hrr]; unfold nu.tC; rw [if_pos h0]
   have Y9:=GR.1 hgood
   have Za:=Nq Y9 (right hf) h0
   have Oy:∀a∈s.2.1,∀b∈r.2.2.1.2.1,a.2.1=b.2.1→Ext a b:=fun a ha b hb e=>Ui Y9 h0 ha (by rw [←hst]; exact hb) e
   have hgr:=(grown Y9 h0).1
   rw [←hst] at Za hgr
   have UN:=a3.2
   rw [if_neg (by simp [hr])]
   have hlen:=hS.1
   have D5:=UN.1
   unfold big at hlen D5 hn
   refine cnt (N:=n) (k:=s.2.1.length) (fun j (v:Int×kT×OpC×xN×Unit)=>v.2.1=s∧v.2.2.1=o∧v.2.2.2.1=r∧0≤v.1∧v.1+j=(s.2.1.length:Int)) (fun q:Option (Bool×Unit)=>q=some (true,())) ?_ (by omega) ⟨rfl,rfl,rfl,by simp,by simp⟩
   intro j L v ⟨g1,g2,g3,g4,g5⟩ hL
   obtain ⟨i,s',o',r',u⟩:=v
   simp only at g1 g2 g3 g4 g5
   subst g1 g2 g3
   simp only [decide_eq_true_eq]
   by_cases hi:i<(s'.2.1.length:Int)
   ·rw [if_pos hi]
    have hin:i.toNat<s'.2.1.length:=by omega
    have ha:=dI hin dB
    refine cnt (N:=n) (k:=r'.2.2.1.2.1.length) (fun j2 (w:Int×Int×kT×OpC×xN×Unit)=>w.1=i∧w.2.2.1=s'∧w.2.2.2.1=o'∧w.2.2.2.2.1=r'∧0≤w.2.1∧w.2.1+j2=(r'.2.2.1.2.1.length:Int)) (fun q:Option (Bool×Unit)=>q=some (true,())) ?_ (by omega) ⟨rfl,rfl,rfl,rfl,by simp,by simp⟩
    intro j2 L2 w ⟨k0,k1,k2,k3,k4,k5⟩ hL2
    obtain ⟨i',k,s2,o2,r2,u2⟩:=w
    simp only at k0 k1 k2 k3 k4 k5
    subst k0 k1 k2 k3
    simp only [decide_eq_true_eq]
    by_cases hk:k<(r2.2.2.1.2.1.length:Int)
    ·have hkn:k.toNat<r2.2.2.1.2.1.length:=by omega
     have KD:=dI hkn dB
     have SL:L2 (i',IntKind.i64.wrap (k+1),s2,o2,r2,())=some (true,()):=by
      rw [wrap_i64 (by omega) (by omega)]
      exact hL2 _ (j2 - 1) (by omega) ⟨rfl,rfl,rfl,rfl,by show 0≤k+1; omega,by show k+1+((j2 - 1:Nat):Int)=_; omega⟩
     rw [if_pos hk,if_pos ⟨g4,hi⟩,if_pos ⟨k4,hk⟩]
     by_cases hv:(s2.2.1.getD i'.toNat dB).2.1=(r2.2.2.1.2.1.getD k.toNat dB).2.1
     ·have hx:=Oy _ ha _ KD hv
      rw [if_neg (by simpa using hv),if_neg (by have:=hx.2.2.1; exact Int.not_lt.2 this),if_neg (by simpa using hx.1.symm)]
      have hgb:=(Za.each _ KD).1
      have hga:=(Y9.each _ ha).1
      have Zg:=hS.2 _ ha
      have hml:=hgb.few
      generalize ea:s2.2.1.getD i'.toNat dB=a at *
      generalize eb:r2.2.2.1.2.1.getD k.toNat dB=b at *
      refine cnt (N:=n) (k:=b.2.2.2.1.length) (fun j3 (z:Int×Int×Int×List Int×List Int×Bool×kT×OpC×xN×Bx×Bx×Unit)=>z.1=i'∧z.2.1=k∧z.2.2.2.2.2.2.1=s2∧z.2.2.2.2.2.2.2.1=o2∧z.2.2.2.2.2.2.2.2.1=r2∧z.2.2.2.2.2.2.2.2.2.1=a∧z.2.2.2.2.2.2.2.2.2.2.1=b∧0≤z.2.2.1∧z.2.2.1+j3=(b.2.2.2.1.length:Int)) (fun q:Option (Bool×Unit)=>q=some (true,())) ?_ (by omega) ⟨rfl,rfl,rfl,rfl,rfl,by first | rfl | exact ea,by first | rfl | exact eb,by simp,by simp⟩
      intro j3 L3 z ⟨z0,z1,z2,z3,z4,z5,z6,z7,z8⟩ hL3
      obtain ⟨i3,k3,jj,n1,n2,bb,s3,o3,r3,a3',b3,u3⟩:=z
      simp only at z0 z1 z2 z3 z4 z5 z6 z7 z8
      subst z0 z1 z2 z3 z4 z5 z6
      simp only [decide_eq_true_eq]
      by_cases hj:jj<(b3.2.2.2.1.length:Int)
      ·have hjn:jj.toNat<b3.2.2.2.1.length:=by omega
       have hmm:=dI hjn dM
       have stepJ:L3 (i3,k3,IntKind.i64.wrap (jj+1),n1,n2,bb,s3,o3,r3,a3',b3,())=some (true,()):=by
        rw [wrap_i64 (by omega) (by omega)]
        exact hL3 _ (j3 - 1) (by omega) ⟨rfl,rfl,rfl,rfl,rfl,rfl,rfl,by show 0≤jj+1; omega,by show jj+1+((j3 - 1:Nat):Int)=_; omega⟩
       rw [if_pos hj,if_pos ⟨z7,hj⟩]
       by_cases hu:(b3.2.2.2.1.getD jj.toNat dM).1<a3'.2.2.1
       ·obtain ⟨x,hx1,hx2⟩:=hx.2.2.2 _ hmm hu
        rw [if_pos hu,seq Zg (BU.2 hga) hn]
        have hp:PV a3' (b3.2.2.2.1.getD jj.toNat dM).1=(0,JR a3' (b3.2.2.2.1.getD jj.toNat dM).1+1,()):=by
         unfold PV
         rcases CF a3' (b3.2.2.2.1.getD jj.toNat dM).1 with ⟨_,h⟩ | ⟨q,e,_⟩
         ·exact absurd hx2 (h x hx1)
         ·rw [e,if_neg (by omega)]
        simp only [agc]
        rw [if_neg (by show ¬_=true; rw [show (PV a3' (b3.2.2.2.1.getD jj.toNat dM).1).1=0 from by rw [hp]]; simp)]
        exact stepJ
       ·rw [if_neg hu]
        exact stepJ
      ·rw [if_neg hj]
       exact SL
     ·rw [if_pos (by simpa using hv)]
      exact SL
    ·rw [if_neg hk]
     show L _=_
     rw [wrap_i64 (by omega) (by omega)]
     exact hL _ (j - 1) (by omega) ⟨rfl,rfl,rfl,by show 0≤i'+1; omega,by show i'+1+((j - 1:Nat):Int)=_; omega⟩
   ·obtain ⟨t2,ct,t3,t4⟩:=BK UN (n:=n) (by unfold big; omega)
    have hct:ct=0:=t4.2 (GR.2 Za)
    have hti:eY n r'.2.2.1=some (ct,()):=t2.trans t3
    rw [if_neg hi,hti]
    simp only [agc,hct,if_true]
    rw [if_pos (by simpa using hgr),a1]
    simp only [agc]
    rw [YV UN (by unfold big; omega)]
    have:=Za.val
    have hp:r'.2.2.1.1>0:=by omega
    simp [hp]
  ·rw [if_pos (by simpa using hr),if_pos trivial,hci]
   simp only [agc,hc0,decide_true,agF,age,if_false,BL hO hn,hsp]
 ·have hA:jM n s o=some (bad c,()):=by
   unfold jM
   rw [hci]
   simp only [agc,hc0,decide_false,agQ,if_true]
   rfl
  have hB:iW n s o=some (bad c,()):=by
   unfold iW
   rw [hc]
   simp only [agc,hc0,decide_false,agQ,if_true]
   rfl
  rw [hA]
  simp only [agc]
  rw [if_pos (by simp [bad,hc0]),hB]
  simp only [agc]
  rw [if_pos trivial,hci]
  simp only [agc]
  rw [if_pos (by simp [hc0])]
theorem all:∀(N:Nat) (c:Cont (kin kR)),Ry kR c→YZ kR c≤N→∃n out,xL.F n c=some out∧out.1=true:=by
 intro N c hc _
 exact ⟨1048577,(true,()),law (code:=c.1) (codeOf hc.1) (by unfold big; omega),rfl⟩
end Go.Proofs.Ytabnmpabdhmkoaa.Nn
