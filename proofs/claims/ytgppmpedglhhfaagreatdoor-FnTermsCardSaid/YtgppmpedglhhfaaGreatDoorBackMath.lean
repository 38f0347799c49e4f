/- The text of a right tree of terms is read back. -/
import Derived.Test.YtgppmpedglhhfaaGreatDoorGFaultMath
namespace Go.Proofs.YtgppmpedglhhfaaGreatDoor.XM
open Go Ow nL nM aI uo jC sF vB oW vK sD Ai
theorem aiU{v:Int}(h0:0<=v)(h1:v<10000):fP (kD v)=v:=by
 obtain⟨k,rfl⟩:=KY h0
 have e:kD (k:Int)=ints (Lib.decDigits k):=by
  unfold kD
  rw[amr,Lib.itoa,ah (by omega),iw]
 rw[e]
 exact aiT (by omega)
theorem R9{v:Int}(h0:0<=v)(h1:v<=999):kK (eT v)=v:=by
 unfold kK eT
 by_cases h:v=0
 ·simp[h]
 ·rw[ah h,aiU h0 (by omega),ah,aj (by omega)]
  intro e
  have:=(w9 h0 (show v<10000 by omega)).1 42 (by rw[e];simp)
  omega
theorem R4{v:Int}(h0:0<=v)(h1:v<=999):∀b∈eT v,b≠58:=by
 intro b hb
 unfold eT at hb
 split at hb
 ·simp at hb;omega
 ·have:=(w9 h0 (show v<10000 by omega)).1 b hb
  omega
theorem axk{r:aB}(h:kE r):pS (rT r)=some r:=by
 obtain⟨a,b,u⟩:=r
 obtain⟨⟨a1,a2⟩,a3,a4⟩:=h
 simp only at a1 a2 a3 a4
 unfold pS rT
 simp only
 by_cases e:a=b
 ·subst e
  rw[aj rfl,Ar (R4 a1 a2)]
  simp only[iy,iF,List.getD_cons_zero,jq,Ad,R9 a1 a2]
  rw[ah (by omega)]
 ·rw[ah e,show eT a++([58]++eT b)=eT a++58 :: eT b from rfl,GL (R4 a1 a2),Ar (R4 a3 a4)]
  simp only[iy,iF,List.getD_cons_zero,List.getD_cons_succ,jq,Nat.reduceAdd,Nat.reduceSub,R9 a1 a2,R9 a3 a4]
  rw[ah (by omega)]
theorem ZK:∀{l:List aB},(∀r∈l,kE r)->gT pS (l.map rT)=some l
 | [],_=>rfl
 |r :: l,h=>by
  have ih:=ZK (l:=l) λx hx=>h x (by simp[hx])
  simp only[jo,gT,axk (h r (by simp)),ih,aQ,gq]
theorem ayc{l:List aB}(h:fR l=0):oW.bO ([44].intercalate (l.map rT))=some l:=by
 obtain⟨h1,h2⟩:=yK h
 unfold oW.bO
 rw[RQ (by intro e;have:=congrArg List.length e;rw[oq,iF]at this;omega) (by
  intro x hx b hb
  obtain⟨r,hr,rfl⟩:=d_.1 hx
  exact((Fg (h2 r hr)).1 b hb).1),ZK h2]
 simp[h1.2]
theorem ayG{c:Int}(h:iP c)(rest:List Int):utf (enc c++rest)=(c,((enc c).length:Int)):=by
 obtain⟨⟨h0,h1⟩,hs⟩:=h
 unfold enc
 by_cases c1:c<128
 ·rw[aj c1]
  unfold utf
  simp[c1]
 ·rw[ah c1]
  by_cases c2:c<2048
  ·rw[aj c2]
   unfold utf more
   simp only[gX,iA,List.getD_cons_zero,List.getD_cons_succ,iy]
   rw[ah (by omega),aj (by rw[aj (by omega)];omega),aj (by omega)]
   refine Prod.ext ?_ rfl
   show(192+c / 64-192)*64+(128+c%64-128)=c
   omega
  ·rw[ah c2]
   unfold utf more
   simp only[gX,iA,List.getD_cons_zero,List.getD_cons_succ,iy]
   have e1:(128+c / 64%64-128:Int)=c / 64%64:=by omega
   have e2:(128+c%64-128:Int)=c%64:=by omega
   have ev:(224+c / 4096-224)*4096+c / 64%64*64+c%64=c:=by omega
   rw[ah (by omega),ah (by omega),aj (c:=1<_/\_) (by omega),aj (c:=2<_/\_) (by omega),e1,e2,ev,aj ⟨⟨⟨by omega,by omega⟩,by omega,by omega⟩,by omega,⟨h0,h1⟩,hs⟩]
   rfl
theorem anT(c:Int):0<(enc c).length:=by
 unfold enc
 split
 ·simp
 ·split<;>simp
theorem aax:∀{cs:List Int} {m:Nat},(∀c∈cs,iP c)->(cs.flatMap enc).length<=m->iG m (cs.flatMap enc)=some cs
 | [],m,_,_=>by cases m<;>simp[iG]
 |c :: cs,m,h,hm=>by
  have hp:=anT c
  simp only[kP,dI]at hm ⊢
  obtain⟨m,rfl⟩:∃j,m=j+1:=⟨m-1,by omega⟩
  unfold iG
  rw[ah (by intro e;have:=congrArg List.length e;rw[dI,iF]at this;omega),ayG (h c (by simp))]
  simp only
  rw[ah (by omega),iw,List.drop_left,aax (λx hx=>h x (by simp[hx])) (by omega)]
  rfl
theorem aaK{c:Int}(h:33<=c/\c<=65535):∀b∈enc c,33<=b/\b<256:=by
 intro b hb
 unfold enc at hb
 split at hb
 ·simp at hb;omega
 ·split at hb
  ·simp at hb;omega
  ·simp at hb;omega
def tw(t:aa):List Int:=if t.1=2 then tF t.2.1.toNat else if t.1=8 then [44].intercalate (t.2.2.2.1.map rT)else if t.1=6\/t.1=7 then t.2.2.1.flatMap enc else kD t.2.1
def qy:Tr->List (List Int)
 |.leaf t=>if t.1=1 then [wd t.1]else [wd t.1,tw t]
 |.one a=>wd 9 :: qy a
 |.two k a b=>wd k :: (qy a++qy b)
theorem aoC{A:Type}(a:List A){x y:List (List A)}(h:0<x.length):glue a (x++y)=glue a x++y:=by
 cases x with
 |nil=>simp at h
 |cons u x=>rfl
theorem aao{c:Int}:∀(x y:List Int),aX c (x++c :: y)=aX c x++aX c y
 | [],y=>by simp[aX]
 |u :: x,y=>by
  rw[gX,aX,aao x y]
  conv=>rhs;rw[aX]
  split
  ·rfl
  ·exact aoC _ (qM c x)
theorem Pz(k:Int):∀b∈wd k,b≠32:=by
 unfold wd
 by_cases h:(k-1).toNat<11
 ·exact(show ∀i,i<11->∀b∈WD.getD i [],b≠32 by decide) _ h
 ·rw[eP,pY (by show 11<=_;omega)]
  simp
theorem OU{t:aa}(hk:3<=t.1/\t.1<=5)(h:aN t):0<=t.2.1/\t.2.1<10000:=by
 by_cases c:t.1=5
 ·have:=(OQ c).1 h;omega
 ·have:=(OP (t:=t) (by omega)).1 h;omega
theorem ayB{t:aa}(hk:2<=t.1/\t.1<=8)(h:aN t):∀b∈tw t,b≠32:=by
 intro b hb
 unfold tw at hb
 split at hb
 ·rename_i c2
  rcases(BL c2).1 h with e|e|e|e<;>rw[e]at hb<;>exact(show ∀b∈tF _,b≠32 by decide +kernel) b hb
 ·split at hb
  ·rename_i c8
   obtain⟨_,h2⟩:=yK ((tu c8).1 h)
   have:∀(l:List (List Int)),(∀x∈l,∀b∈x,b≠32)->∀b∈[44].intercalate l,b≠32:=by
    intro l
    induction l with
    |nil=>intro _ b hb;simp[List.intercalate]at hb
    |cons x l ih=>
     intro hx b hb
     cases l with
     |nil=>rw[List.intercalate_singleton]at hb;exact hx x (by simp) b hb
     |cons y l=>
      rw[List.intercalate_cons_cons,eG,dh]at hb
      rcases hb with hb|hb
      ·exact hx x (by simp) b hb
      ·rcases dh.1 hb with hb|hb
       ·simp only[gY]at hb;omega
       ·exact ih (λz hz=>hx z (by simp[hz])) b hb
   refine this _ (λx hx b hb=>?_) b hb
   obtain⟨r,hr,rfl⟩:=d_.1 hx
   obtain⟨⟨a1,a2⟩,a3,a4⟩:=h2 r hr
   have he:∀v:Int,0<=v->v<=999->∀b∈eT v,b≠32:=by
    intro v h0 h1 b hb
    unfold eT at hb
    split at hb
    ·simp at hb;omega
    ·have:=(w9 h0 (show v<10000 by omega)).1 b hb
     omega
   unfold rT at hb
   split at hb
   ·exact he _ a1 a2 b hb
   ·simp only[dh,gY]at hb
    rcases hb with hb|hb|hb
    ·exact he _ a1 a2 b hb
    ·omega
    ·exact he _ a3 a4 b hb
  ·split at hb
   ·rename_i c6
    have hc:=((BM c6).1 h).2
    obtain⟨c,hc1,hc2⟩:=mW.1 hb
    obtain⟨⟨⟨_,g2⟩,_⟩,g3,_⟩:=hc c hc1
    have:=aaK ⟨g3,g2⟩ b hc2
    omega
   ·obtain⟨h0,h1⟩:=OU (t:=t) (by omega) h
    have:=(w9 h0 h1).1 b hb
    omega
theorem LW:∀(tr:Tr),kH tr->okV tr->aX 32 (txt tr)=qy tr
 |.leaf t,hs,ho=>by
  obtain⟨hk,_⟩:=hs
  unfold txt qy tX
  by_cases c1:t.1=1
  ·rw[aj c1,aj c1,jf,Ar (Pz _)]
  ·rw[ah c1,ah c1]
   show aX 32 (wd t.1++32 :: tw t)=_
   rw[GL (Pz _),Ar (ayB (by omega) ho)]
 |.one a,hs,ho=>by
  unfold txt qy
  rw[show wd 9++([32]++txt a)=wd 9++32 :: txt a from rfl,GL (Pz _),LW a hs ho]
 |.two k a b,hs,ho=>by
  unfold txt qy
  rw[show wd k++((([32]++txt a)++[32])++txt b)=wd k++32 :: (txt a++32 :: txt b) by simp,GL (Pz _),aao,LW a hs.2.1 ho.1,LW b hs.2.2 ho.2]
theorem agz{k:Int}(h:1<=k/\k<=11):kd (wd k)=k.toNat:=by
 have:=OD (k-1).toNat (by omega)
 unfold wd
 rw[this]
 omega
theorem awm{t:aa}(hs:sL t)(hk:t.1≠1)(ho:aN t):jW t.1.toNat (tw t)=some t:=by
 obtain⟨⟨k1,k2⟩,s1,s2,s3,s4,s5,_⟩:=hs
 obtain⟨k,num,cs,rs,l,r,u⟩:=t
 unfold jW tw
 simp only at k1 k2 s1 s2 s3 s4 s5 hk ⊢
 subst s4 s5
 by_cases c2:k=2
 ·subst c2
  rw[s2 (by omega),s3 (by omega)]
  rcases(BL rfl).1 ho with e|e|e|e<;>simp only at e<;>subst e<;>rfl
 ·rw[ah (by omega),ah c2]
  by_cases c8:k=8
  ·subst c8
   rw[s1 (by omega),s2 (by omega)]
   have:=ayc ((tu rfl).1 ho)
   simp only at this
   rw[aj (by decide),aj rfl,this]
   rfl
  ·rw[ah (by omega),ah c8]
   by_cases c6:k=6\/k=7
   ·have hc:=((BM (t:=(k,num,cs,rs,0,0,u)) c6).1 ho).2
    rw[s1 (by omega),s3 (by omega),aj (by omega),aj c6,aax (λc hc'=>(hc c hc').1) (bZ _)]
    simp only[gq]
    rw[show((k.toNat:Nat):Int)=k by omega]
   ·obtain⟨h0,h1⟩:=OU (t:=(k,num,cs,rs,0,0,u)) (by show 3<=k/\k<=5;omega) ho
    simp only at h0 h1
    rw[s2 c6,s3 c8,ah (by omega),ah c6,aiU h0 h1,aj h0,show((k.toNat:Nat):Int)=k by omega]
theorem O7:∀(tr:Tr) (k:Nat) (rest:List (List Int)),kH tr->okV tr->(qy tr).length<k->rd k (qy tr++rest)=some (tr,rest)
 |.leaf t,k,rest,hs,ho,hk=>by
  obtain⟨k,rfl⟩:∃j,k=j+1:=⟨k-1,by omega⟩
  have hk8:=hs.1
  unfold qy
  by_cases c1:t.1=1
  ·rw[aj c1]
   obtain⟨_,s1,s2,s3,s4,s5,_⟩:=hs
   obtain⟨q,num,cs,rs,l,r,u⟩:=t
   simp only at c1 s1 s2 s3 s4 s5
   subst c1 s4 s5
   simp only[gX,iA,rd]
   rw[ah (by decide),aj (by decide),s1 (by omega),s2 (by omega),s3 (by omega)]
  ·rw[ah c1]
   have ek:=agz (k:=t.1) (by omega)
   simp only[gX,iA,rd,ek]
   rw[ah (by omega),ah (by omega),ah (by omega),ah (by omega),awm hs c1 ho]
   rfl
 |.one a,k,rest,hs,ho,hk=>by
  obtain⟨k,rfl⟩:∃j,k=j+1:=⟨k-1,by omega⟩
  simp only[qy,iy]at hk
  simp only[qy,gX,rd]
  rw[ah (by decide),ah (by decide),aj (by decide),O7 a k rest hs ho (by omega)]
  rfl
 |.two q a b,k,rest,hs,ho,hk=>by
  obtain⟨k,rfl⟩:∃j,k=j+1:=⟨k-1,by omega⟩
  simp only[qy,iy,dI]at hk
  obtain⟨hq,ha,hb⟩:=hs
  have ek:kd (wd (q:Int))=q:=by rw[agz (by omega)];omega
  simp only[qy,gX,rd,ek]
  rw[ah (by omega),ah (by omega),ah (by omega),aj (by omega),eG,O7 a k _ ha ho.1 (by omega)]
  simp only[aQ]
  rw[O7 b k rest hb ho.2 (by omega)]
  rfl
theorem axF{tr:Tr}(hs:kH tr)(ho:okV tr):rd ((aX 32 (txt tr)).length+1) (aX 32 (txt tr))=some (tr,[]):=by
 rw[LW tr hs ho]
 have:=O7 tr ((qy tr).length+1) [] hs ho (by omega)
 rw[jf]at this
 exact this
end Go.Proofs.YtgppmpedglhhfaaGreatDoor.XM
