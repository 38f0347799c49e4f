/- 'FnExactParseTerms': what it comes to. -/
import Derived.Test.YtgppmpedglhhfaaGreatDoorPtResMath
set_option linter.unusedVariables false
set_option linter.unusedSimpArgs false
namespace Go.Proofs.YtgppmpedglhhfaaGreatDoor.Tv
open Go Ow q9 qZ jY vv vB Au wU LC TC Tw
abbrev NN:Nat:=4194304
theorem BK:∀(tr:Tr) (base:Nat),rY tr->((∀t∈dD base tr,wU.aO t)↔okV tr)
 |.leaf t,base,_=>by simp[dD,okV]
 |.one a,base,h=>by
  have ih:=BK a base h
  simp only[dD,okV,<-ih,cZ,gW]
  refine⟨λh t ht=>h t (.inl ht),λh t ht=>?_⟩
  rcases ht with ht|rfl
  ·exact h t ht
  ·exact Qe (by simp)
 |.two k a b,base,h=>by
  obtain⟨hk,ha,hb⟩:=h
  have iha:=BK a base ha
  have ihb:=BK b (base+size a) hb
  simp only[dD,okV,<-iha,<-ihb,cZ,gW]
  refine⟨λh=>⟨λt ht=>h t (.inl (.inl ht)),λt ht=>h t (.inl (.inr ht))⟩,λh t ht=>?_⟩
  rcases ht with(ht|ht)|rfl
  ·exact h.1 t ht
  ·exact h.2 t ht
  ·exact Qe (by simp only[];omega)
theorem JN:∀(tr:Tr) (base:Nat),rY tr->xN tr->∀t∈dD base tr,tJ t
 |.leaf t,base,hs,ho,x,hx=>by
  simp only[dD,gW]at hx
  subst hx
  refine⟨hs.2.2.2.2.2.2,?_⟩
  obtain⟨_,_,_,_,_,_,h7,h8,_⟩:=ho
  by_cases h:x.1=8
  ·have:=(h7 h).1
   unfold big
   omega
  ·rw[h8 h]
   exact dY _
 |.one a,base,hs,ho,x,hx=>by
  simp only[dD,cZ,gW]at hx
  rcases hx with hx|rfl
  ·exact JN a base hs ho x hx
  ·exact⟨dY _,dY _⟩
 |.two k a b,base,hs,ho,x,hx=>by
  simp only[dD,cZ,gW]at hx
  rcases hx with(hx|hx)|rfl
  ·exact JN a base hs.2.1 ho.2.1 x hx
  ·exact JN b _ hs.2.2 ho.2.2 x hx
  ·exact⟨dY _,dY _⟩
theorem Ux{c:Int}:∀(k:Nat) (s:List Int),dN s->∀w∈gT c k s,dN w/\w.length<=s.length:=by
 intro k s
 induction s generalizing k with
 |nil=>intro _ w hw;cases k<;>simp[gT]at hw<;>subst hw<;>simp[dN]
 |cons x r ih=>
  intro hs w hw
  have ih:=λk=>ih k (λy hy=>hs y (by simp[hy]))
  cases k with
  |zero=>simp[gT]at hw;subst hw;exact⟨hs,by simp⟩
  |succ k=>
   unfold gT at hw
   split at hw
   ·rcases bH.1 hw with rfl|hw
    ·simp[dN]
    ·have:=ih k w hw
     exact⟨this.1,by simp;omega⟩
   ·have ih:=ih (k+1)
    cases hcn:gT c (k+1) r with
    |nil=>have:=Ie c (k+1) r;rw[hcn]at this;simp at this
    |cons a l=>
     rw[hcn]at hw ih
     simp only[glue,bH,iR,jq]at hw
     rcases hw with rfl|hw
     ·have:=ih a (by simp)
      refine⟨λb hb'=>?_,by simp;omega⟩
      rcases bH.1 hb' with rfl|hb'
      ·exact hs _ (by simp)
      ·exact this.1 b hb'
     ·have:=ih w (by simp[hw])
      exact⟨this.1,by simp;omega⟩
abbrev Q9:uz:=(5,[],())
theorem aoq{tr:Tr}(hs:rY tr)(hl:size tr<=1000000):∃c,yw NN (dD 0 tr)=some (c,())/\(c=0↔size tr<=12/\okV tr):=by
 obtain⟨ss,h1,h2,h3⟩:=Cq tr [] [] ⟨rfl,λi hi=>by simp at hi⟩ hs
 simp only[jq,jA,jN]at h1 h3
 have hlen:=lY 0 tr
 have hp:=size_pos tr
 obtain⟨c,hc1,hc2⟩:=al9 h1 (by omega) (by rw[hlen];exact h3) (n:=NN) (by decide) (by omega)
 refine⟨c,hc1,?_⟩
 rw[hc2,hlen,BK tr 0 hs]
theorem aos{t:List Int}(hb:dN t)(hl:t.length<=1048576) :
  (Ad NN t=some (Q9,())/\∀tr,rd ((aY 32 t).length+1) (aY 32 t)=some (tr,[])->¬(size tr<=12/\okV tr))\/
  ∃tr,rd ((aY 32 t).length+1) (aY 32 t)=some (tr,[])/\size tr<=12/\okV tr/\rY tr/\Ad NN t=some ((0,dD 0 tr,()),()):=by
 have hW:wU.okW (aY 32 t):=λw hw=>⟨v_ hb w hw,ve (Dt w hw) hl⟩
 have hlen:=yT 32 t
 obtain⟨i,at2,og,b2,h1,_,h3,_,h5,_,h7⟩:=Zo hW (by omega) ((aY 32 t).length+1) NN 0 [] false 0 (dY _) (by omega) (by show _<4194304;omega) (by omega) (by simp) (by omega)
 have h7:=h7 rfl
 unfold Ad K4
 rw[PG hl (by decide)]
 simp only[bf]
 have h1':wG NN (aY 32 t,(0:Int),[],false,()) 0=some (i,(aY 32 t,(at2:Int),og,b2,()),()):=h1
 rw[h1']
 simp only[bf]
 rw[u6]at h7
 rcases h7 with⟨rfl,h8⟩|⟨rfl,tr,hs,h9,_,h11⟩
 ·refine .inl ⟨rfl,λtr hr=>?_⟩
  rw[hr]at h8
  simp only[jA]at h8
  omega
 ·simp only[bY,bO]
  simp only[jq,jA]at h9 h11
  subst h9
  have hsz:size tr<=1000000\/1000000<size tr:=by omega
  have hll:=lY 0 tr
  simp only[jA]at h5
  by_cases hat:at2=(aY 32 t).length
  ·subst hat
   simp only[cB,iM,bY,bO]
   rcases hsz with hsz|hsz
   ·obtain⟨c,hc1,hc2⟩:=aoq hs hsz
    rw[hc1]
    simp only[bf]
    by_cases hc:c=0
    ·obtain⟨g1,g2⟩:=hc2.1 hc
     cases hr:rd ((aY 32 t).length+1) (aY 32 t)with
     |none=>rw[hr]at h11;exact absurd g2 h11
     |some p=>
      obtain⟨Co,rest⟩:=p
      rw[hr]at h11
      obtain⟨rfl,h12⟩:=h11
      rw[List.drop_length]at h12
      subst h12
      refine .inr ⟨tr,rfl,g1,g2,hs,?_⟩
      simp[hc]
    ·refine .inl ⟨by simp[hc],λCo hr hg=>?_⟩
     rw[hr]at h11
     obtain⟨rfl,_⟩:=h11
     exact hc (hc2.2 hg)
   ·
    have hF:yw NN (dD 0 tr)=some (2,()):=by
     unfold yw
     rw[aj (by rw[bN];omega),ak (by rw[bN];omega)]
    rw[hF]
    refine .inl ⟨rfl,λCo hr hg=>?_⟩
    rw[hr]at h11
    obtain⟨rfl,_⟩:=h11
    omega
  ·have hne:¬((at2:Int)=((aY 32 t).length:Int)):=by omega
   simp only[hne,dL,mq,bQ]
   refine .inl ⟨rfl,λCo hr _=>?_⟩
   rw[hr]at h11
   obtain⟨rfl,h12⟩:=h11
   have:=List.drop_eq_nil_iff.1 h12
   omega
theorem many{ts:List bn}(h:12<ts.length):z_ NN ts=some (2,()):=by
 unfold z_
 have h':¬(1<=(ts.length:Int)/\(ts.length:Int)<=12):=by omega
 simp only[nK.pG,bf,jY.within,h',dL,mq,bQ]
theorem aie{t:List Int}(hb:dN t)(hl:t.length<=1048576)(h:∀tr,rd ((aT.iy t [32] 49).length+1) (aT.iy t [32] 49)=some (tr,[])->12<size tr\/(rY tr/\¬okV tr)):wE NN t=some (Q9,()):=by
 have hc:(0:Int)<=32/\(32:Int)<256:=by omega
 have e1:Af NN t [32] 49=some (aT.iy t [32] 49,()):=QA hl (by omega) (by omega)
 have hV:nK.okW (aT.iy t [32] 49):=by
  rw[FL hb hc]
  intro w hw
  have:=Ux _ t hb w hw
  exact⟨this.1,by omega⟩
 have hle:(aT.iy t [32] 49).length<=49:=by
  have h1:=yT 32 t
  by_cases Im:(aY 32 t).length<=49
  ·rw[Kb hb hc Im];exact Im
  ·rw[QC hb hc (by omega) (by omega)]
   exact bT _
 obtain⟨i,ws',ts',b',g1,_,_,_,g5⟩:=nK.aaJ ((aT.iy t [32] 49).length+1) NN (aT.iy t [32] 49) [] hV (by omega) (by show _<4194304;omega) (by omega) (by simp)
 unfold wE
 rw[e1]
 simp only[bf]
 rw[g1]
 simp only[bf]
 cases b' with
 |true=>rfl
 |false=>
  simp only[bY,bO]
  cases hr:rd ((aT.iy t [32] 49).length+1) (aT.iy t [32] 49)with
  |none=>rw[hr]at g5;simp at g5
  |some p=>
   obtain⟨tr,rest⟩:=p
   rw[hr]at g5
   rcases g5 with⟨q,_⟩|⟨_,rfl,g7,_⟩
   ·simp at q
   ·simp only[jq,jA]at g7
    subst g7
    cases ws' with
    |cons w ws=>rw[ak (by simp<;>omega)]
    |nil=>
     rw[aj (by simp)]
     have hll:=lY 0 tr
     rcases h tr hr with h12|⟨hs,hv⟩
     ·rw[many (by omega)]
      rfl
     ·by_cases h12:12<size tr
      ·rw[many (by omega)]
       rfl
      ·obtain⟨ss,k1,k2,k3⟩:=Cq tr [] [] ⟨rfl,λi hi=>by simp at hi⟩ hs
       simp only[jq,jA,jN]at k1 k3
       have hp:=size_pos tr
       obtain⟨c,hc1,hc2⟩:=TD k1 (by omega) (by rw[hll];exact k3) (n:=NN) (by decide) (by omega)
       rw[hc1]
       have:c≠0:=λe=>hv ((BK tr 0 hs).1 (hc2.1 e))
       simp[this]
theorem aif{t:List Int}(hb:dN t)(hl:t.length<=1048576){tr:Tr}(h:rd ((aY 32 t).length+1) (aY 32 t)=some (tr,[]))(h12:size tr<=12)(hv:okV tr)(hs:rY tr):wE NN t=some ((0,dD 0 tr,()),())/\xN tr:=by
 have hc:(0:Int)<=32/\(32:Int)<256:=by omega
 have e1:Af NN t [32] 49=some (aT.iy t [32] 49,()):=QA hl (by omega) (by omega)
 obtain⟨f0,used,f1,f2,f3,f4⟩:=rd_facts (v_ hb) h
 rw[jJ]at f1
 have hle:(aY 32 t).length<=49:=by rw[f1];omega
 have eV:aT.iy t [32] 49=aY 32 t:=Kb hb hc hle
 have hV:nK.okW (aY 32 t):=λw hw=>⟨v_ hb w hw,ve (Dt w hw) hl⟩
 obtain⟨i,ws',ts',b',g1,_,_,_,g5⟩:=nK.aaJ ((aY 32 t).length+1) NN (aY 32 t) [] hV (by omega) (by show _<4194304;omega) (by omega) (by simp)
 refine⟨?_,f0⟩
 unfold wE
 rw[e1]
 simp only[bf]
 rw[eV,g1]
 simp only[bf]
 rw[h]at g5
 rcases g5 with⟨_,q⟩|⟨rfl,rfl,g7,_⟩
 ·simp only[jA]at q
  omega
 ·simp only[jq,jA]at g7
  subst g7
  have hll:=lY 0 tr
  have hp:=size_pos tr
  obtain⟨ss,k1,k2,k3⟩:=Cq tr [] [] ⟨rfl,λi hi=>by simp at hi⟩ hs
  simp only[jq,jA,jN]at k1 k3
  obtain⟨c,hc1,hc2⟩:=TD k1 (by omega) (by rw[hll];exact k3) (n:=NN) (by decide) (by omega)
  have hc0:c=0:=hc2.2 ((BK tr 0 hs).2 hv)
  subst hc0
  have htx:=(Kj tr [] [] NN f0 hs (by omega) (by show _<4194304;omega)).1
  simp only[jq,jA,jJ,jN]at htx
  have hj:[32].intercalate used=t:=by rw[<-f1];exact MC 32 t
  have ew:IntKind.i64.wrap (((dD 0 tr).length:Int)-1)=((size tr-1:Nat):Int):=by rw[hll,wrap_i64 (by omega) (by omega)];omega
  simp only[bY,bO]
  rw[aj (by simp),hc1]
  simp only[bf,cB,iM,bY,bO,nK.pG,ew,htx]
  rw[<-f4,hj]
  simp
theorem both{t:List Int}(hb:dN t)(hl:t.length<=1048576):∃c ts,Ad NN t=some ((c,ts,()),())/\wE NN t=some ((c,ts,()),())/\ts.length<=big/\∀x∈ts,tJ x:=by
 have hc:(0:Int)<=32/\(32:Int)<256:=by omega
 rcases aos hb hl with⟨h1,h2⟩|⟨tr,h1,h2,h3,h4,h5⟩
 ·refine⟨5,[],h1,aie hb hl λtr hr=>?_,dY _,λx hx=>by simp at hx⟩
  by_cases h12:12<size tr
  ·exact .inl h12
  ·right
   have hV:∀w∈aT.iy t [32] 49,dN w:=by
    rw[FL hb hc]
    exact λw hw=>(Ux _ t hb w hw).1
   obtain⟨_,used,f1,_,f3,_⟩:=rd_facts hV hr
   rw[jJ]at f1
   have hW:(aY 32 t).length<=49:=by
    have hlen:=congrArg List.length f1
    by_cases Im:(aY 32 t).length<=49
    ·exact Im
    ·rw[QC hb hc (by omega) (by omega)]at hlen
     omega
   have eV:aT.iy t [32] 49=aY 32 t:=Kb hb hc hW
   rw[eV]at hr
   have hv:¬okV tr:=λhv=>h2 tr hr ⟨by omega,hv⟩
   have hWW:wU.okW (aY 32 t):=λw hw=>⟨v_ hb w hw,ve (Dt w hw) hl⟩
   obtain⟨i,at2,og,b2,_,_,_,_,_,_,h7⟩:=Zo hWW (by omega) ((aY 32 t).length+1) NN 0 [] false 0 (dY _) (by omega) (by show _<4194304;omega) (by omega) (by simp) (by omega)
   have h7:=h7 rfl
   rw[u6,hr]at h7
   rcases h7 with⟨_,h8⟩|⟨_,Co,hs,_,_,rfl,_⟩
   ·simp only[jA]at h8
    omega
   ·exact⟨hs,hv⟩
 ·obtain⟨g1,g2⟩:=aif hb hl h1 h2 h3 h4
  exact⟨0,dD 0 tr,h5,g1,by rw[lY];unfold big;omega,JN tr 0 h4 g2⟩
theorem law{t:List Int}(hb:dN t):KZ NN t=some (true,()):=by
 unfold KZ
 by_cases h:(t.length:Int)>1048576
 ·rw[ak (by rw[bN];exact h)]
 ·rw[aj (by rw[bN];exact h)]
  obtain⟨c,ts,h1,h2,h3,h4⟩:=both hb (by omega)
  have hn:big<NN:=by unfold big;decide
  obtain⟨k1,k2⟩:=ag0 (n:=NN) (c:=c) h3 h4 hn
  simp only[h1,h2,bf,afE h3 h4 hn,iM,bY,bO,amS h3 h4 hn,k1,show ¬(kT 1 ts ts.length<0) by omega,dL,cB]
theorem all:∀(N:Nat) (c:Cont (kin BX)),JK BX c->FP BX c<=N->∃n out,Sa.F n c=some out/\out.1=true:=by
 intro N c hc _
 refine⟨NN,(true,()),?_,rfl⟩
 exact law (t:=c.1) hc.1.2
end Go.Proofs.YtgppmpedglhhfaaGreatDoor.Tv
