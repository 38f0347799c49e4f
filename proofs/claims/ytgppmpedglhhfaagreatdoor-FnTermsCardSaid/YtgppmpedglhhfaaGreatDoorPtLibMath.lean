/- ParseTerms of both sides: what they read. -/
import Derived.Test.YtgppmpedglhhfaaGreatDoorTTxtMath
namespace Go.Proofs.YtgppmpedglhhfaaGreatDoor.Zu
open Go Ow nL nM jC sF oW vK sD Ai QV
abbrev NN:Nat:=4194304
theorem zm:∀(tr:Tr) (base:Nat),kH tr->((∀t∈bD base tr,sD.aN t)↔okV tr)
 |.leaf t,base,_=>by simp[bD,okV]
 |.one a,base,h=>by
  have ih:=zm a base h
  simp only[bD,okV,<-ih,dh,gY]
  refine⟨λh t ht=>h t (.inl ht),λh t ht=>?_⟩
  rcases ht with ht|rfl
  ·exact h t ht
  ·exact OT (by simp)
 |.two k a b,base,h=>by
  obtain⟨hk,ha,hb⟩:=h
  have iha:=zm a base ha
  have ihb:=zm b (base+size a) hb
  simp only[bD,okV,<-iha,<-ihb,dh,gY]
  refine⟨λh=>⟨λt ht=>h t (.inl (.inl ht)),λt ht=>h t (.inl (.inr ht))⟩,λh t ht=>?_⟩
  rcases ht with(ht|ht)|rfl
  ·exact h.1 t ht
  ·exact h.2 t ht
  ·exact OT (by simp only[];omega)
theorem aap{c:Int}:∀(k:Nat) (s:List Int),dD s->∀w∈gZ c k s,dD w/\w.length<=s.length:=by
 intro k s
 induction s generalizing k with
 |nil=>intro _ w hw;cases k<;>simp[gZ]at hw<;>subst hw<;>simp[dD]
 |cons x r ih=>
  intro hs w hw
  have ih:=λk=>ih k (λy hy=>hs y (by simp[hy]))
  cases k with
  |zero=>simp[gZ]at hw;subst hw;exact⟨hs,by simp⟩
  |succ k=>
   unfold gZ at hw
   split at hw
   ·rcases bM.1 hw with rfl|hw
    ·simp[dD]
    ·have:=ih k w hw
     exact⟨this.1,by simp;omega⟩
   ·have ih:=ih (k+1)
    cases hcn:gZ c (k+1) r with
    |nil=>have:=LV c (k+1) r;rw[hcn]at this;simp at this
    |cons a l=>
     rw[hcn]at hw ih
     simp only[glue,bM,gX,iA]at hw
     rcases hw with rfl|hw
     ·have:=ih a (by simp)
      refine⟨λb hb'=>?_,by simp;omega⟩
      rcases bM.1 hb' with rfl|hb'
      ·exact hs _ (by simp)
      ·exact this.1 b hb'
     ·have:=ih w (by simp[hw])
      exact⟨this.1,by simp;omega⟩
abbrev Kr:QZ:=(5,[],())
theorem ayh{tr:Tr}(hs:kH tr)(hl:size tr<=1000000):∃c,vk NN (bD 0 tr)=some (c,())/\(c=0↔size tr<=12/\okV tr):=by
 obtain⟨ss,h1,h2,h3⟩:=xQ tr [] [] ⟨rfl,λi hi=>by simp at hi⟩ hs
 simp only[iA,iF,jq]at h1 h3
 have hlen:=jy 0 tr
 have hp:=size_pos tr
 obtain⟨c,hc1,hc2⟩:=av7 h1 (by omega) (by rw[hlen];exact h3) (n:=NN) (by decide) (by omega)
 refine⟨c,hc1,?_⟩
 rw[hc2,hlen,zm tr 0 hs]
theorem ayj{t:List Int}(hb:dD t)(hl:t.length<=1048576) :
  (zQ NN t=some (Kr,())/\∀tr,rd ((aX 32 t).length+1) (aX 32 t)=some (tr,[])->¬(size tr<=12/\okV tr))\/
  ∃tr,rd ((aX 32 t).length+1) (aX 32 t)=some (tr,[])/\size tr<=12/\okV tr/\kH tr/\zQ NN t=some ((0,bD 0 tr,()),()):=by
 have hW:sD.okW (aX 32 t):=λw hw=>⟨wz hb w hw,vG (GM w hw) hl⟩
 have hlen:=Au 32 t
 obtain⟨i,at2,oO,b2,h1,_,h3,_,h5,_,h7⟩:=ahh hW (by omega) ((aX 32 t).length+1) NN 0 [] false 0 (dW _) (by omega) (by show _<4194304;omega) (by omega) (by simp) (by omega)
 have h7:=h7 rfl
 unfold zQ Qq
 rw[Wh hl (by decide)]
 simp only[aQ]
 have h1':xV NN (aX 32 t,(0:Int),[],false,()) 0=some (i,(aX 32 t,(at2:Int),oO,b2,()),()):=h1
 rw[h1']
 simp only[aQ]
 rw[vD]at h7
 rcases h7 with⟨rfl,h8⟩|⟨rfl,tr,hs,h9,_,h11⟩
 ·refine .inl ⟨rfl,λtr hr=>?_⟩
  rw[hr]at h8
  simp only[iF]at h8
  omega
 ·simp only[bP,bI]
  simp only[iA,iF]at h9 h11
  subst h9
  have hsz:size tr<=1000000\/1000000<size tr:=by omega
  have hll:=jy 0 tr
  simp only[iF]at h5
  by_cases hat:at2=(aX 32 t).length
  ·subst hat
   simp only[bY,gI,bP,bI]
   rcases hsz with hsz|hsz
   ·obtain⟨c,hc1,hc2⟩:=ayh hs hsz
    rw[hc1]
    simp only[aQ]
    by_cases hc:c=0
    ·obtain⟨g1,g2⟩:=hc2.1 hc
     cases hr:rd ((aX 32 t).length+1) (aX 32 t)with
     |none=>rw[hr]at h11;exact absurd g2 h11
     |some p=>
      obtain⟨FH,rest⟩:=p
      rw[hr]at h11
      obtain⟨rfl,h12⟩:=h11
      rw[List.drop_length]at h12
      subst h12
      refine .inr ⟨tr,rfl,g1,g2,hs,?_⟩
      simp[hc]
    ·refine .inl ⟨by simp[hc],λFH hr hg=>?_⟩
     rw[hr]at h11
     obtain⟨rfl,_⟩:=h11
     exact hc (hc2.2 hg)
   ·
    have hF:vk NN (bD 0 tr)=some (2,()):=by
     unfold vk
     rw[ah (by rw[bF];omega),aj (by rw[bF];omega)]
    rw[hF]
    refine .inl ⟨rfl,λFH hr hg=>?_⟩
    rw[hr]at h11
    obtain⟨rfl,_⟩:=h11
    omega
  ·have hne:¬((at2:Int)=((aX 32 t).length:Int)):=by omega
   simp only[hne,dm,kr,bL]
   refine .inl ⟨rfl,λFH hr _=>?_⟩
   rw[hr]at h11
   obtain⟨rfl,h12⟩:=h11
   have:=List.drop_eq_nil_iff.1 h12
   omega
theorem many{ts:List aa}(h:12<ts.length):rY NN ts=some (2,()):=by
 unfold rY
 have h':¬(1<=(ts.length:Int)/\(ts.length:Int)<=12):=by omega
 simp only[lu.nW,aQ,jC.within,h',dm,kr,bL]
theorem aqz{t:List Int}(hb:dD t)(hl:t.length<=1048576)(h:∀tr,rd ((aS.iK t [32] 49).length+1) (aS.iK t [32] 49)=some (tr,[])->12<size tr\/(kH tr/\¬okV tr)):tZ NN t=some (Kr,()):=by
 have hc:(0:Int)<=32/\(32:Int)<256:=by omega
 have e1:CB NN t [32] 49=some (aS.iK t [32] 49,()):=Xi hl (by omega) (by omega)
 have hV:lu.okW (aS.iK t [32] 49):=by
  rw[Kc hb hc]
  intro w hw
  have:=aap _ t hb w hw
  exact⟨this.1,by omega⟩
 have hle:(aS.iK t [32] 49).length<=49:=by
  have h1:=Au 32 t
  by_cases L_:(aX 32 t).length<=49
  ·rw[Ph hb hc L_];exact L_
  ·rw[Xk hb hc (by omega) (by omega)]
   exact bZ _
 obtain⟨i,ws',ts',b',g1,_,_,_,g5⟩:=lu.aiN ((aS.iK t [32] 49).length+1) NN (aS.iK t [32] 49) [] hV (by omega) (by show _<4194304;omega) (by omega) (by simp)
 unfold tZ
 rw[e1]
 simp only[aQ]
 rw[g1]
 simp only[aQ]
 cases b' with
 |true=>rfl
 |false=>
  simp only[bP,bI]
  cases hr:rd ((aS.iK t [32] 49).length+1) (aS.iK t [32] 49)with
  |none=>rw[hr]at g5;simp at g5
  |some p=>
   obtain⟨tr,rest⟩:=p
   rw[hr]at g5
   rcases g5 with⟨q,_⟩|⟨_,rfl,g7,_⟩
   ·simp at q
   ·simp only[iA,iF]at g7
    subst g7
    cases ws' with
    |cons w ws=>rw[aj (by simp<;>omega)]
    |nil=>
     rw[ah (by simp)]
     have hll:=jy 0 tr
     rcases h tr hr with h12|⟨hs,hv⟩
     ·rw[many (by omega)]
      rfl
     ·by_cases h12:12<size tr
      ·rw[many (by omega)]
       rfl
      ·obtain⟨ss,k1,k2,k3⟩:=xQ tr [] [] ⟨rfl,λi hi=>by simp at hi⟩ hs
       simp only[iA,iF,jq]at k1 k3
       have hp:=size_pos tr
       obtain⟨c,hc1,hc2⟩:=QW k1 (by omega) (by rw[hll];exact k3) (n:=NN) (by decide) (by omega)
       rw[hc1]
       have:c≠0:=λe=>hv ((zm tr 0 hs).1 (hc2.1 e))
       simp[this]
theorem aco{t:List Int}(hb:dD t)(hl:t.length<=1048576){tr:Tr}(h:rd ((aX 32 t).length+1) (aX 32 t)=some (tr,[]))(h12:size tr<=12)(hv:okV tr)(hs:kH tr):tZ NN t=some ((0,bD 0 tr,()),())/\xJ tr:=by
 have hc:(0:Int)<=32/\(32:Int)<256:=by omega
 have e1:CB NN t [32] 49=some (aS.iK t [32] 49,()):=Xi hl (by omega) (by omega)
 obtain⟨f0,used,f1,f2,f3,f4⟩:=rd_facts (wz hb) h
 rw[jf]at f1
 have hle:(aX 32 t).length<=49:=by rw[f1];omega
 have eV:aS.iK t [32] 49=aX 32 t:=Ph hb hc hle
 have hV:lu.okW (aX 32 t):=λw hw=>⟨wz hb w hw,vG (GM w hw) hl⟩
 obtain⟨i,ws',ts',b',g1,_,_,_,g5⟩:=lu.aiN ((aX 32 t).length+1) NN (aX 32 t) [] hV (by omega) (by show _<4194304;omega) (by omega) (by simp)
 refine⟨?_,f0⟩
 unfold tZ
 rw[e1]
 simp only[aQ]
 rw[eV,g1]
 simp only[aQ]
 rw[h]at g5
 rcases g5 with⟨_,q⟩|⟨rfl,rfl,g7,_⟩
 ·simp only[iF]at q
  omega
 ·simp only[iA,iF]at g7
  subst g7
  have hll:=jy 0 tr
  have hp:=size_pos tr
  obtain⟨ss,k1,k2,k3⟩:=xQ tr [] [] ⟨rfl,λi hi=>by simp at hi⟩ hs
  simp only[iA,iF,jq]at k1 k3
  obtain⟨c,hc1,hc2⟩:=QW k1 (by omega) (by rw[hll];exact k3) (n:=NN) (by decide) (by omega)
  have hc0:c=0:=hc2.2 ((zm tr 0 hs).2 hv)
  subst hc0
  have htx:=(Kk tr [] [] NN f0 hs (by omega) (by show _<4194304;omega)).1
  simp only[iA,iF,jf,jq]at htx
  have hj:[32].intercalate used=t:=by rw[<-f1];exact LU 32 t
  have ew:IntKind.i64.wrap (((bD 0 tr).length:Int)-1)=((size tr-1:Nat):Int):=by rw[hll,wrap_i64 (by omega) (by omega)];omega
  simp only[bP,bI]
  rw[ah (by simp),hc1]
  simp only[aQ,bY,gI,bP,bI,lu.nW,ew,htx]
  rw[<-f4,hj]
  simp
theorem ame{t:List Int}(hb:dD t)(hl:t.length<=1048576):(zQ NN t=some (Kr,())/\tZ NN t=some (Kr,()))\/
  ∃tr,rd ((aX 32 t).length+1) (aX 32 t)=some (tr,[])/\size tr<=12/\okV tr/\kH tr/\xJ tr/\zQ NN t=some ((0,bD 0 tr,()),())/\tZ NN t=some ((0,bD 0 tr,()),()):=by
 have hc:(0:Int)<=32/\(32:Int)<256:=by omega
 rcases ayj hb hl with⟨h1,h2⟩|⟨tr,h1,h2,h3,h4,h5⟩
 ·refine .inl ⟨h1,aqz hb hl λtr hr=>?_⟩
  by_cases h12:12<size tr
  ·exact .inl h12
  ·right
   have hV:∀w∈aS.iK t [32] 49,dD w:=by
    rw[Kc hb hc]
    exact λw hw=>(aap _ t hb w hw).1
   obtain⟨_,used,f1,_,f3,_⟩:=rd_facts hV hr
   rw[jf]at f1
   have hW:(aX 32 t).length<=49:=by
    have hlen:=congrArg List.length f1
    by_cases L_:(aX 32 t).length<=49
    ·exact L_
    ·rw[Xk hb hc (by omega) (by omega)]at hlen
     omega
   have eV:aS.iK t [32] 49=aX 32 t:=Ph hb hc hW
   rw[eV]at hr
   have hv:¬okV tr:=λhv=>h2 tr hr ⟨by omega,hv⟩
   have hWW:sD.okW (aX 32 t):=λw hw=>⟨wz hb w hw,vG (GM w hw) hl⟩
   obtain⟨i,at2,oO,b2,_,_,_,_,_,_,h7⟩:=ahh hWW (by omega) ((aX 32 t).length+1) NN 0 [] false 0 (dW _) (by omega) (by show _<4194304;omega) (by omega) (by simp) (by omega)
   have h7:=h7 rfl
   rw[vD,hr]at h7
   rcases h7 with⟨_,h8⟩|⟨_,FH,hs,_,_,rfl,_⟩
   ·simp only[iF]at h8
    omega
   ·exact⟨hs,hv⟩
 ·obtain⟨g1,g2⟩:=aco hb hl h1 h2 h3 h4
  exact .inr ⟨tr,h1,h2,h3,h4,g2,h5,g1⟩
end Go.Proofs.YtgppmpedglhhfaaGreatDoor.Zu
