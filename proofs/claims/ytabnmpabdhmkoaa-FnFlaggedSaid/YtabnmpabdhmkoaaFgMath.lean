/- 'FnFlagged': what it comes to. -/
import Derived.Test.YtabnmpabdhmkoaaOwF
import Derived.Test.YtabnmpabdhmkoaaLoopLib
import Derived.Test.YtabnmpabdhmkoaaCutLib
import Derived.Test.YtabnmpabdhmkoaaStoreMath
import Derived.Test.YtabnmpabdhmkoaaOpsMath
import Derived.Test.YtabnmpabdhmkoaaGoodMath
import Derived.Test.YtabnmpabdhmkoaaDrawMath
import Derived.Test.YtabnmpabdhmkoaaDrawSMath
import Derived.Test.YtabnmpabdhmkoaaDrawOMath
import Derived.Test.YtabnmpabdhmkoaaSeqMath
import Derived.Test.YtabnmpabdhmkoaaFgF
set_option linter.unusedSectionVars false
set_option linter.unusedVariables false
set_option linter.unusedSimpArgs false
namespace Go.Proofs.Ytabnmpabdhmkoaa.qY
open Go Go.Proofs.Ytabnmpabdhmkoaa.Ow Go.Proofs.Ytabnmpabdhmkoaa.P9 Go.Proofs.Ytabnmpabdhmkoaa.qF Go.Proofs.Ytabnmpabdhmkoaa.oP Go.Proofs.Ytabnmpabdhmkoaa.lW Go.Proofs.Ytabnmpabdhmkoaa.FY Go.Proofs.Ytabnmpabdhmkoaa.xI Go.Proofs.Ytabnmpabdhmkoaa.tC Go.Proofs.Ytabnmpabdhmkoaa.Dx Go.Proofs.Ytabnmpabdhmkoaa.Kl
def told (o:OpC) (m:lV):Bool:=o.2.2.2.1.contains m.1
def gone (o:OpC) (m:lV):Bool:=(decide (o.1=6) && told o m) || (decide (o.1=7) && gy.del m.2.1)
def want (o:OpC) (m:lV):Int:=if o.1=4∧told o m=true then turn m.2.1 o.2.2.2.2.1 o.2.2.2.2.2.1 else m.2.1
structure Now (o:OpC) (was now:Bx):Prop where
 gone:∀m∈was.2.2.2.1,gone o m=true→∀x∈now.2.2.2.1,x.1≠m.1
 here:∀m∈was.2.2.2.1,qY.gone o m=false→∃x∈now.2.2.2.1,x.1=m.1
 same:∀m∈was.2.2.2.1,qY.gone o m=false→∀x∈now.2.2.2.1,x.1=m.1→x.2.1=want o m
theorem uniq {b:Bx} (h:GB b) {x y:lV} (hx:x∈b.2.2.2.1) (hy:y∈b.2.2.2.1) (e:x.1=y.1):x=y:=by
 obtain ⟨i,hi,rfl⟩:=List.mem_iff_getElem.1 hx
 obtain ⟨j,hj,rfl⟩:=List.mem_iff_getElem.1 hy
 rcases Nat.lt_trichotomy i j with hlt | rfl | hlt
 ·have:=List.pairwise_iff_getElem.1 h.up i j hi hj hlt; omega
 ·rfl
 ·have:=List.pairwise_iff_getElem.1 h.up j i hj hi hlt; omega
theorem CB {l:List lV}:∀{b:Bx},(∀x∈b.2.2.2.1,x∈(eZ b l).2.2.2.1)∧∀x∈(eZ b l).2.2.2.1,x∈b.2.2.2.1∨b.2.2.1≤x.1:=by
 induction l with
 | nil=>intro b; exact ⟨fun _ h=>h,fun _ h=>.inl h⟩
 | cons m l ih=>
  intro b
  obtain ⟨h1,h2⟩:=ih (b:=rV b m)
  refine ⟨fun x hx=>h1 x (afV _ hx),fun x hx=>?_⟩
  rcases h2 x hx with h | h
  ·rcases afZ.1 h with h | h
   ·exact .inl h
   ·simp only [af9] at h
    subst h
    exact .inr (Int.le_refl _)
  ·have h:b.2.2.1+1≤x.1:=h
   exact .inr (by omega)
theorem Now.more {o:OpC} {was now:Bx} (hb:GB was) (h6:o.1≠6) (h7:o.1≠7) (h4:o.1≠4) (h1:∀x∈was.2.2.2.1,x∈now.2.2.2.1) (h2:∀x∈now.2.2.2.1,x∈was.2.2.2.1∨was.2.2.1≤x.1):Now o was now:=by
 have hg:∀m,qY.gone o m=false:=fun m=>by simp [qY.gone,h6,h7]
 refine ⟨fun m _ h=>by rw [hg m] at h; simp at h,fun m hm _=>⟨m,h1 m hm,rfl⟩,fun m hm _ x hx e=>?_⟩
 unfold want
 rw [if_neg (fun h=>h4 h.1)]
 rcases h2 x hx with h | h
 ·rw [uniq hb h hm e]
 ·have:=(hb.each m hm).2
  omega
theorem Now.filter {o:OpC} {was:Bx} (hb:GB was) (h4:o.1≠4) {p:lV→Bool} (hp:∀m,qY.gone o m=!p m):Now o was (was.1,was.2.1,was.2.2.1,was.2.2.2.1.filter p,()):=by
 refine ⟨fun m hm h x hx e=>?_,fun m hm h=>⟨m,af7.2 ⟨hm,by rw [hp] at h; simpa using h⟩,rfl⟩,fun m hm _ x hx e=>?_⟩
 ·obtain ⟨h1,h2⟩:=af7.1 hx
  rw [uniq hb h1 hm e] at h2
  rw [hp,h2] at h
  simp at h
 ·unfold want
  rw [if_neg (fun h=>h4 h.1),uniq hb (af7.1 hx).1 hm e]
theorem Yg {s:lu} {o:OpC} (h:GS s) (ho:RO o) (h0:(iG s o).2.1=0) (h3:3≤o.1) :
  ∃i:Nat,rU s o.2.1=(i:Int)∧i<s.2.1.length∧i<(iG s o).2.2.1.2.1.length∧Now o (s.2.1.getD i dB) ((iG s o).2.2.1.2.1.getD i dB)∧
   (o.1=3→(iG s o).1=[(s.2.1.getD i dB).2.2.1]∧((iG s o).2.2.1.2.1.getD i dB).2.2.2.1.length=(s.2.1.getD i dB).2.2.2.1.length+1):=by
 unfold iG at h0 ⊢
 rw [if_neg (by omega)] at h0 ⊢
 rcases jE s o.2.1 with hp | ⟨i,hp,hi⟩
 ·rw [hp,if_pos (by decide)] at h0; simp at h0
 rw [hp,if_neg (by omega),af0] at h0 ⊢
 refine ⟨i,rfl,hi, ?_⟩
 have hB:=(h.each _ (dG hi dB)).1
 unfold Eh at h0 ⊢
 rw [if_neg (by omega)] at h0 ⊢
 by_cases k3:o.1=3
 ·rw [if_pos k3] at h0 ⊢
  unfold Ll at h0 ⊢
  by_cases c1:(s.2.1.getD i dB).2.2.2.1.length=6
  ·rw [if_pos c1] at h0; simp at h0
  rw [if_neg c1] at h0 ⊢
  by_cases c2:(s.2.1.getD i dB).2.2.1=1000
  ·rw [if_pos c2] at h0; simp at h0
  rw [if_neg c2]
  simp only [List.length_set,qg hi]
  refine ⟨hi,Now.more hB (by omega) (by omega) (by omega) (fun x hx=>afV _ hx) (fun x hx=>?_),fun _=>⟨by first | rfl | trivial,by simp [rV]⟩⟩
  rcases afZ.1 hx with hx | hx
  ·exact .inl hx
  ·simp only [af9] at hx
   subst hx
   exact .inr (Int.le_refl _)
 rw [if_neg k3] at h0 ⊢
 by_cases k4:o.1=4
 ·rw [if_pos k4]
  simp only [List.length_set,qg hi]
  have hg:∀m,qY.gone o m=false:=fun m=>by simp [qY.gone,k4]
  have e1:∀m,(ji o m).1=m.1:=fun m=>by unfold ji; split <;> rfl
  refine ⟨hi,⟨fun m _ h=>by rw [hg m] at h; simp at h,fun m hm _=>⟨ji o m,ags.2 ⟨m,hm,rfl⟩,e1 m⟩,fun m hm _ x hx e=>?_⟩,fun h=>absurd h k3⟩
  obtain ⟨y,hy,rfl⟩:=ags.1 hx
  rw [e1] at e
  rw [uniq hB hy hm e]
  unfold want ji told
  by_cases ht:o.2.2.2.1.contains m.1=true
  ·rw [if_pos ht,if_pos ⟨k4,ht⟩]
  ·rw [if_neg ht,if_neg (fun h=>ht h.2)]
 rw [if_neg k4] at h0 ⊢
 by_cases k7:o.1=7
 ·rw [if_pos k7]
  simp only [List.length_set,qg hi]
  exact ⟨hi,Now.filter hB k4 (fun m=>by simp [qY.gone,k7]),fun h=>absurd h k3⟩
 rw [if_neg k7] at h0 ⊢
 unfold carried at h0 ⊢
 by_cases c1:rU s o.2.2.1<0
 ·rw [if_pos c1] at h0; simp at h0
 rw [if_neg c1] at h0 ⊢
 by_cases c2:o.1=6∧rU s o.2.2.1=(i:Int)
 ·rw [if_pos c2] at h0; simp at h0
 rw [if_neg c2] at h0 ⊢
 rcases jE s o.2.2.1 with hp2 | ⟨k,hp2,hk⟩
 ·rw [hp2] at c1; exact absurd (by decide) c1
 rw [hp2,af0] at h0 ⊢
 unfold sP at h0 ⊢
 by_cases c3:(s.2.1.getD k dB).2.2.2.1.length+(cZ o (s.2.1.getD i dB)).length>6
 ·rw [if_pos c3] at h0; simp at h0
 rw [if_neg c3] at h0 ⊢
 by_cases c4:(s.2.1.getD k dB).2.2.1+((cZ o (s.2.1.getD i dB)).length:Int)>1000
 ·rw [if_pos c4] at h0; simp at h0
 rw [if_neg c4]
 by_cases k6:o.1=6
 ·simp only [k6,if_true]
  refine ⟨by simpa using hi, ?_,fun h=>by omega⟩
  rw [qg (by simpa using hi)]
  exact Now.filter hB k4 (fun m=>by simp [qY.gone,k6,told])
 ·simp only [k6,if_false]
  refine ⟨by simpa using hi, ?_,fun h=>absurd h k3⟩
  by_cases hki:k=i
  ·subst hki
   rw [qg hk]
   exact Now.more hB k6 k7 k4 (CB (l:=cZ o (s.2.1.getD k dB))).1 (CB (l:=cZ o (s.2.1.getD k dB))).2
  ·rw [lW.getD_set_ne hki]
   exact Now.more hB k6 k7 k4 (fun _ h=>h) (fun _ h=>.inl h)
theorem Mw (a f:Int):IntKind.i64.wrap ((BitVec.ofInt (IntKind.bits .i64) (IntKind.i64.wrap ((BitVec.ofInt (IntKind.bits .i64) a &&& ~~~ BitVec.ofInt (IntKind.bits .i64) f).toNat)) &&& BitVec.ofInt (IntKind.bits .i64) f).toNat)=0:=by
 have key:∀x:BitVec 64,BitVec.ofInt 64 (IntKind.i64.wrap (x.toNat:Int))=x:=by
  intro x
  apply BitVec.eq_of_toNat_eq
  have hx:=x.isLt
  rw [BitVec.toNat_ofInt]
  have hw:IntKind.i64.wrap (x.toNat:Int) % 18446744073709551616=(x.toNat:Int):=by
   simp only [IntKind.wrap,IntKind.bits,IntKind.signed]
   omega
  rw [show ((2 ^ 64:Nat):Int)=18446744073709551616 from by decide,hw]
  rfl
 have h:(BitVec.ofInt 64 a &&& ~~~ BitVec.ofInt 64 f) &&& BitVec.ofInt 64 f=0#64:=by
  rw [BitVec.and_assoc,BitVec.and_comm (~~~ _)]
  simp
 have k:=key (BitVec.ofInt 64 a &&& ~~~ BitVec.ofInt 64 f)
 change IntKind.i64.wrap (((BitVec.ofInt 64 (IntKind.i64.wrap (((BitVec.ofInt 64 a &&& ~~~ BitVec.ofInt 64 f).toNat:Nat):Int)) &&& BitVec.ofInt 64 f).toNat:Nat):Int)=0
 rw [k,h]
 decide
theorem law {n:Nat} {code:List Int} (hb:qo code) (hn:big<n):oK n code=some (true,()):=by
 unfold oK
 have e0:um n code=some (decide ((code.length:Int)>1048576),()):=rfl
 rw [e0]
 simp only [afR]
 by_cases hl:(code.length:Int)>1048576
 ·rw [if_pos (by simpa using hl)]
 rw [if_neg (by simpa using hl)]
 obtain ⟨s,o,e1,hs,ho⟩:=drawn (n:=n) hb (by unfold big; omega) hn
 have hS:=hs.ok
 have hO:=ho.ok
 rw [e1]
 simp only [afR]
 obtain ⟨h2,c,hc,hg⟩:=GG hS hn
 have hci:gW n s=some (c,()):=h2.trans hc
 by_cases hc0:c=0
 ·have hgood:=hg.1 hc0
  obtain ⟨r,a1,a2,a3,a4⟩:=EJ hS hO hgood hn
  have hA:jL n s o=some (r,()):=by
   unfold jL
   rw [hci]
   simp only [afR,hc0,decide_true,agi,afT,if_false,a2]
  rw [hA]
  simp only [afR,a1]
  by_cases hr:r.1=0
  ·obtain ⟨hf,hrr⟩:nY o=0∧r=lW.rW (iG s o):=by
    rcases a4 with h | ⟨hf,hrr⟩
    ·exact h
    ·rw [hrr] at hr; exact absurd hr hf
   have h0:(iG s o).2.1=0:=by
    unfold lW.rW at hrr
    split at hrr
    ·assumption
    ·rw [hrr] at hr; exact hr
   have hst:r.2.2.1=(iG s o).2.2.1:=by rw [hrr]; unfold lW.rW; rw [if_pos h0]
   have hus:r.2.1=(iG s o).1:=by rw [hrr]; unfold lW.rW; rw [if_pos h0]
   have hGS:=Oc.1 hgood
   have hGt:=Nl hGS (right hf) h0
   rw [←hst] at hGt
   rw [if_neg (by simp [hr])]
   by_cases hk3:o.1<3
   ·rw [if_pos (by simpa using hk3)]
    simp
   rw [if_neg (by simpa using hk3)]
   obtain ⟨i,hp,hi,hit,hN,hadd⟩:=Yg hGS (right hf) h0 (by omega)
   rw [←hst] at hit hN hadd
   rw [←hus] at hadd
   have hbo:qD n s o.2.1=some ((0,(i:Int),()),()):=by
    unfold qD
    rw [hci]
    simp only [afR,hc0,decide_true,agi,afT,if_false,box hS.1 hn,hp]
    have:¬((i:Int)<0):=by omega
    simp only [this,decide_false,afT,if_false]
   rw [hbo]
   simp only [afR]
   rw [if_neg (by simp),if_neg (by simp),if_neg (by simp; omega),if_neg (by simp; omega),if_pos (aT hi),if_pos (aT hit)]
   simp only [af0]
   have hgw:=(hGS.each _ (dG hi dB)).1
   have hgn:=(hGt.each _ (dG hit dB)).1
   have how:=hS.2 _ (dG hi dB)
   have hon:=a3.2.2 _ (dG hit dB)
   change Now o (s.2.1.getD i dB) (r.2.2.1.2.1.getD i dB) at hN
   generalize s.2.1.getD i dB=was at *
   generalize r.2.2.1.2.1.getD i dB=now at *
   have Vd:=hgw.few
   have hln:=hgn.few
   have hnb:=hn
   unfold big at hnb
   have hlu:=hO.2.2.1
   refine cnt (N:=n) (k:=was.2.2.2.1.length) (fun j (v:Int×lu×OpC×Ad×Bx×Bx×Unit)=>v.2.1=s∧v.2.2.1=o∧v.2.2.2.1=r∧v.2.2.2.2.1=was∧v.2.2.2.2.2.1=now∧0≤v.1∧v.1+j=(was.2.2.2.1.length:Int)) (fun q:Option (Bool×Unit)=>q=some (true,())) ?_ (by omega) ⟨rfl,rfl,rfl,rfl,rfl,by simp,by simp⟩
   intro j L v ⟨g1,g2,g3,g4,g5,g6,g7⟩ hL
   obtain ⟨q,s',o',r',was',now',u⟩:=v
   simp only at g1 g2 g3 g4 g5 g6 g7
   subst g1 g2 g3 g4 g5
   by_cases hq:q<(was'.2.2.2.1.length:Int)
   ·have Dk:q.toNat<was'.2.2.2.1.length:=by omega
    have hm:=dG Dk dM
    have step:L (IntKind.i64.wrap (q+1),s',o',r',was',now',())=some (true,()):=by
     rw [wrap_i64 (by omega) (by omega)]
     exact hL _ (j - 1) (by omega) ⟨rfl,rfl,rfl,rfl,rfl,by show 0≤q+1; omega,by show q+1+((j - 1:Nat):Int)=_; omega⟩
    have hdel:∀y,(!decide ((IntKind.i64.wrap ((BitVec.ofInt (IntKind.bits .i64) y &&& BitVec.ofInt (IntKind.bits .i64) (8:Int)).toNat))=(0:Int)))=gy.del y:=fun y=>rfl
    have hhas:∀x,uo n o'.2.2.2.1 x=some (o'.2.2.2.1.contains x,()):=fun x=>iE.BU (fun _ _=>rfl) (by unfold big at hlu; omega) (by omega)
    rw [if_pos (by simpa using hq),if_pos ⟨g6,hq⟩]
    change ((jv n now' (was'.2.2.2.1.getD q.toNat dM).1).bind _)=_
    generalize was'.2.2.2.1.getD q.toNat dM=m at *
    have htold:o'.2.2.2.1.contains m.1=told o' m:=rfl
    simp only [seq hon (BP.2 hgn) hn,hhas,afR,hdel,htold]
    cases hgo:gone o' m with
    | true=>
     have hno:=hN.gone m hm hgo
     have hsq:MX now' m.1=(4,0,()):=by
      unfold MX
      rcases xw now' m.1 with ⟨e,_⟩ | ⟨p,e,hp',e'⟩
      ·rw [e]; rfl
      ·exact absurd e' (hno _ (agj hp'))
     rw [hsq]
     have hz:decide ((0:Int)>(now'.2.2.2.1.length:Int))=false:=by simp
     have hz2:decide ((0:Int)<0)=false:=by decide
     have h44:decide ((4:Int)=4)=true:=by decide
     simp only [hz,hz2,h44]
     unfold gone at hgo
     by_cases k6:o'.1=6
     ·have ht:told o' m=true:=by simpa [k6] using hgo
      simp only [k6,ht,decide_true,if_true]
      exact step
     ·have hd':o'.1=7∧gy.del m.2.1=true:=by simpa [k6] using hgo
      have d6:decide (o'.1=6)=false:=by simp [k6]
      have d7:decide (o'.1=7)=true:=by simp [hd'.1]
      simp only [d6,d7,hd'.2,afT,if_false,if_true]
      exact step
    | false=>
     obtain ⟨x,hx1,hx2⟩:=hN.here m hm hgo
     obtain ⟨p,e,hp',e'⟩:∃p:Nat,JO now' m.1=(p:Int)∧∃h:p<now'.2.2.2.1.length,(now'.2.2.2.1[p]).1=m.1:=by
      rcases xw now' m.1 with ⟨_,h⟩ | h
      ·exact absurd hx2 (h x hx1)
      ·exact h
     have hsq:MX now' m.1=(0,(p:Int)+1,()):=by
      unfold MX
      rw [e,if_neg (by omega)]
     have hw:=hN.same m hm hgo _ (agj hp') e'
     have hw':(now'.2.2.2.1.getD p dM).2.1=want o' m:=by rw [getD_lt hp']; exact hw
     rw [hsq]
     have hz:decide ((p:Int)+1>(now'.2.2.2.1.length:Int))=false:=by simp; omega
     have hz2:decide ((p:Int)+1<0)=false:=by simp; omega
     have hz3:decide ((p:Int)+1=0)=false:=by simp; omega
     have h04:decide ((0:Int)=4)=false:=by decide
     have hwp:IntKind.i64.wrap ((p:Int)+1 - 1)=(p:Int):=by rw [wrap_i64 (by omega) (by omega)]; omega
     simp only [hz,hz2,hz3,h04,hwp,aT hp',af0,if_true]
     change _ at step
     have hnn:((now'.2.2.2.1.getD p fQ).2).1=want o' m:=hw'
     simp only [hnn]
     unfold gone at hgo
     cases d6:decide (o'.1=6) with
     | true=>
      have k6:o'.1=6:=by simpa using d6
      have ht:told o' m=false:=by simpa [k6] using hgo
      have Rn:want o' m=m.2.1:=by unfold want; rw [if_neg (by omega)]
      simp only [ht,Rn,k6,show decide ((6:Int)=7)=false from by decide,show decide ((6:Int)=4)=false from by decide,decide_true,agi,afT,if_false,if_true,beq_self_eq_true]
      exact step
     | false=>
      have k6:o'.1≠6:=by simpa using d6
      cases d7:decide (o'.1=7) with
      | true=>
       have k7:o'.1=7:=by simpa using d7
       have hd':gy.del m.2.1=false:=by simpa [k7] using hgo
       have Rn:want o' m=m.2.1:=by unfold want; rw [if_neg (by omega)]
       simp only [hd',Rn,k7,show decide ((7:Int)=4)=false from by decide,decide_true,agi,afT,if_false,if_true,beq_self_eq_true]
       exact step
      | false=>
       simp only [beq_self_eq_true,agi,afT,if_false,if_true]
       cases d4:decide (o'.1=4) with
       | false=>
        have k4:o'.1≠4:=by simpa using d4
        have Rn:want o' m=m.2.1:=by unfold want; rw [if_neg (fun h=>k4 h.1)]
        simp only [Rn,decide_true,agi,afT,if_false]
        exact step
       | true=>
        have k4:o'.1=4:=by simpa using d4
        cases ht:told o' m with
        | false=>
         have Rn:want o' m=m.2.1:=by unfold want; rw [if_neg (fun h=>by rw [ht] at h; simp at h)]
         simp only [Rn,decide_true,agi,afT,if_false,if_true]
         exact step
        | true=>
         have Rn:want o' m=turn m.2.1 o'.2.2.2.2.1 o'.2.2.2.2.2.1:=by unfold want; rw [if_pos ⟨k4,ht⟩]
         rw [Rn]
         unfold turn
         by_cases m2:o'.2.2.2.2.1=2
         ·simp only [m2,show decide ((2:Int)=1)=false from by decide,show decide ((2:Int)=3)=false from by decide,decide_true,agi,afT,if_false,if_true]
          exact step
         ·by_cases m3:o'.2.2.2.2.1=3
          ·simp only [m3,show decide ((3:Int)=1)=false from by decide,show decide ((3:Int)=2)=false from by decide,show ¬((3:Int)=2) from by decide,Mw,decide_true,agi,afT,if_false,if_true]
           exact step
          ·have d2:decide (o'.2.2.2.2.1=2)=false:=by simp [m2]
           have d3:decide (o'.2.2.2.2.1=3)=false:=by simp [m3]
           simp only [m2,m3,d2,d3,decide_true,agi,afT,if_false,if_true]
           split <;> exact step
   ·rw [if_neg (by simpa using hq)]
    by_cases k3:o'.1=3
    ·obtain ⟨z1,z2⟩:=hadd k3
     have hw1:IntKind.i64.wrap ((was'.2.2.2.1.length:Int)+1)=(was'.2.2.2.1.length:Int)+1:=wrap_i64 (by omega) (by omega)
     rw [if_neg (by simp [k3]),z1]
     simp [hw1,z2,aM]
    ·rw [if_pos (by simp [k3])]
  ·rw [if_pos (by simpa using hr)]
   simp
 ·have hA:jL n s o=some (bad c,()):=by
   unfold jL
   rw [hci]
   simp only [afR,hc0,decide_false,agu,if_true]
   rfl
  have hB:iV n s o=some (bad c,()):=by
   unfold iV
   rw [hc]
   simp only [afR,hc0,decide_false,agu,if_true]
   rfl
  rw [hA]
  simp only [afR]
  rw [if_pos (by simp [bad,hc0]),hB]
  simp
theorem all:∀(N:Nat) (c:Cont (kin gZ)),Rt gZ c→YD gZ c≤N→∃n out,tF.F n c=some out∧out.1=true:=by
 intro N c hc _
 exact ⟨1048577,(true,()),law (code:=c.1) (codeOf hc.1) (by unfold big; omega),rfl⟩
end Go.Proofs.Ytabnmpabdhmkoaa.qY
