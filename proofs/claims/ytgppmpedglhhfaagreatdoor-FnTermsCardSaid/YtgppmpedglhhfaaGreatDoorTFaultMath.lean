/- The faults of terms: both sides tell the same of what was read. -/
import Derived.Test.YtgppmpedglhhfaaGreatDoorSReadMath
set_option linter.unusedVariables false
set_option linter.unusedSimpArgs false
namespace Go.Proofs.YtgppmpedglhhfaaGreatDoor.Ai
open Go Ow nL nM aI uo jC sF vB oW vK sD
def node(ts:List aa)(ss:List Nat)(i:Nat):Prop:=
 (sL (ts.getD i aA)/\ss.getD i 0=1)\/
 (1<=i/\ts.getD i aA=(9,0,[],[],((i-1:Nat):Int),0,())/\ss.getD i 0=ss.getD (i-1) 0+1)\/
 (2<=i/\(∃k:Nat,(k=10\/k=11)/\ts.getD i aA=((k:Int),0,[],[],((i-1-ss.getD (i-1) 0:Nat):Int),((i-1:Nat):Int),()))/\ss.getD (i-1) 0<i/\ss.getD i 0=ss.getD (i-1) 0+ss.getD (i-1-ss.getD (i-1) 0) 0+1)
def Str(ts:List aa)(ss:List Nat):Prop:=ss.length=ts.length/\∀i,i<ts.length->node ts ss i
theorem o_{A:Type}{a b:List A}{i:Nat}{d:A}(h:i<a.length):(a++b).getD i d=a.getD i d:=by
 simp only[eP,vE h]
theorem pq{A:Type}{a b:List A}{x d:A}:(a++x :: b).getD a.length d=x:=by
 simp[eP]
theorem aw4{ts oO:List aa}{ss ss2:List Nat}{i:Nat}(h1:i<ts.length)(h2:ss.length=ts.length):node (ts++oO) (ss++ss2) i↔node ts ss i:=by
 unfold node
 rw[o_ h1,o_ (show i<ss.length by omega),o_ (show i-1<ss.length by omega),o_ (show i-1-ss.getD (i-1) 0<ss.length by omega)]
theorem Str.snoc{ts:List aa}{ss:List Nat}{t:aa}{s:Nat}(h:Str ts ss)(hn:node (ts++[t]) (ss++[s]) ts.length):Str (ts++[t]) (ss++[s]):=by
 obtain⟨h1,h2⟩:=h
 refine⟨by simp[h1],λi hi=>?_⟩
 by_cases e:i=ts.length
 ·rw[e];exact hn
 ·have hi':i<ts.length:=by simp at hi;omega
  exact(aw4 hi' h1).2 (h2 i hi')
theorem xQ:∀(tr:Tr) (ts:List aa) (ss:List Nat),Str ts ss->kH tr->∃ss',Str (ts++bD ts.length tr) (ss++ss')/\ss'.length=size tr/\(ss++ss').getD (ss.length+size tr-1) 0=size tr
 |.leaf t,ts,ss,h,hs=>by
  refine⟨[1],h.snoc (.inl ⟨?_,?_⟩),rfl,?_⟩
  ·rw[pq];exact hs
  ·rw[<-h.1,pq]
  ·show(ss++[1]).getD (ss.length+1-1) 0=1
   rw[Nat.add_sub_cancel,pq]
 |.one a,ts,ss,h,hs=>by
  obtain⟨s1,h1,h2,h3⟩:=xQ a ts ss h hs
  have hp:=size_pos a
  have hlen:(ts++bD ts.length a).length=ts.length+size a:=by rw[dI,jy]
  have sQ:(ss++s1).length=ts.length+size a:=by rw[dI,h.1,h2]
  refine⟨s1++[size a+1],?_,by simp[h2,size],?_⟩
  ·simp only[bD]
   rw[<-eG,<-eG]
   refine h1.snoc (.inr (.inl ⟨by omega,?_,?_⟩))
   ·rw[pq,hlen]
   ·conv=>lhs;rw[hlen,<-sQ,pq]
    rw[hlen,o_ (by omega),<-h.1,h3]
  ·rw[<-eG]
   have:ss.length+size (.one a)-1=(ss++s1).length:=by rw[sQ,h.1];simp only[size];omega
   rw[this,pq]
   rfl
 |.two k a b,ts,ss,h,hs=>by
  obtain⟨hk,hsa,hsb⟩:=hs
  obtain⟨s1,h1,h2,h3⟩:=xQ a ts ss h hsa
  obtain⟨s2,k1,k2,k3⟩:=xQ b _ _ h1 hsb
  have hpa:=size_pos a
  have hpb:=size_pos b
  have hlen:(ts++bD ts.length a).length=ts.length+size a:=by rw[dI,jy]
  have sQ:(ss++s1).length=ts.length+size a:=by rw[dI,h.1,h2]
  rw[hlen]at k1
  have hlen3:(ts++bD ts.length a++bD (ts.length+size a) b).length=ts.length+size a+size b:=by rw[dI,hlen,jy]
  have abN:(ss++s1++s2).length=ts.length+size a+size b:=by rw[dI,sQ,k2]
  have e1:(ss++s1++s2).getD (ts.length+size a+size b-1) 0=size b:=by rw[<-sQ];exact k3
  have e2:(ss++s1++s2).getD (ts.length+size a-1) 0=size a:=by rw[o_ (by omega),<-h.1];exact h3
  refine⟨s1++s2++[size a+size b+1],?_,by simp[h2,k2,size];omega,?_⟩
  ·have ea:ts++bD ts.length (.two k a b)=ts++bD ts.length a++bD (ts.length+size a) b++[((k:Int),0,[],[],((ts.length+size a-1:Nat):Int),((ts.length+size a+size b-1:Nat):Int),())]:=by simp only[bD,eG]
   have eb:ss++(s1++s2++[size a+size b+1])=ss++s1++s2++[size a+size b+1]:=by simp only[eG]
   rw[ea,eb]
   have g1:(ss++s1++s2++[size a+size b+1]).getD (ts.length+size a+size b-1) 0=size b:=by rw[o_ (by omega),e1]
   have g2:(ss++s1++s2++[size a+size b+1]).getD (ts.length+size a+size b-1-size b) 0=size a:=by
    rw[o_ (by omega),show ts.length+size a+size b-1-size b=ts.length+size a-1 by omega,e2]
   have g3:(ss++s1++s2++[size a+size b+1]).getD (ts.length+size a+size b) 0=size a+size b+1:=by rw[<-abN,pq]
   refine k1.snoc (.inr (.inr ⟨by omega,⟨k,hk,?_⟩,?_,?_⟩))
   ·rw[pq,hlen3,g1,show ts.length+size a+size b-1-size b=ts.length+size a-1 by omega]
   ·rw[hlen3,g1];omega
   ·rw[hlen3,g1,g2,g3];omega
  ·rw[<-eG,<-eG]
   have:ss.length+size (.two k a b)-1=(ss++s1++s2).length:=by rw[abN,h.1];simp only[size];omega
   rw[this,pq]
   rfl
theorem Str.bound{ts:List aa}{ss:List Nat}(h:Str ts ss):∀(k i:Nat),i<k->i<ts.length->1<=ss.getD i 0/\ss.getD i 0<=i+1:=by
 intro k
 induction k with
 |zero=>intro i h1;omega
 |succ k ih=>
  intro i h1 h2
  rcases h.2 i h2 with⟨_,h3⟩|⟨h3,_,h4⟩|⟨h3,_,h4,h5⟩
  ·omega
  ·have:=ih (i-1) (by omega) (by omega)
   omega
  ·have a1:=ih (i-1) (by omega) (by omega)
   have a2:=ih (i-1-ss.getD (i-1) 0) (by omega) (by omega)
   omega
theorem Str.pos{ts:List aa}{ss:List Nat}(h:Str ts ss){i:Nat}(hi:i<ts.length):1<=ss.getD i 0/\ss.getD i 0<=i+1:=h.bound (i+1) i (by omega) hi
theorem agB{ts:List aa}{ss:List Nat}(h:Str ts ss)(hl:ts.length<=1000):∀(k i n:Nat),i<k->i<n->i<ts.length->vo n ts (i:Int)=some (((i+1-ss.getD i 0:Nat):Int),()):=by
 intro k
 induction k with
 |zero=>intro i n h1;omega
 |succ k ih=>
  intro i n h1 h2 h3
  obtain⟨n,rfl⟩:∃j,n=j+1:=⟨n-1,by omega⟩
  unfold vo
  rw[aj (fu h3),iw]
  rcases h.2 i h3 with⟨h4,h5⟩|⟨h4,h5,h6⟩|⟨h4,⟨c,hc,h5⟩,h6,h7⟩
  ·rw[ah (by rw[bF];have:=h4.1;omega),h5]
   simp
  ·rw[h5,aj (by show decide ((9:Int)>=9)=true;decide),aj (fu h3)]
   simp only[]
   rw[ih (i-1) n (by omega) (by omega) (by omega)]
   simp only[aQ]
   rw[h6]
   congr 3
   omega
  ·rw[h5,aj (by rw[bF];simp only[];omega),aj (fu h3)]
   simp only[]
   rw[ih (i-1-ss.getD (i-1) 0) n (by omega) (by omega) (by omega)]
   simp only[aQ]
   rw[h7]
   have:=h.pos (show i-1-ss.getD (i-1) 0<ts.length by omega)
   congr 3
   omega
theorem av5{ts:List aa}{ss:List Nat}(h:Str ts ss)(hl:ts.length<=1000){i n:Nat}(hn:1000<n)(hi:i<ts.length):Cw n ts (i:Int)=some (true,()):=by
 unfold Cw
 rw[aj (fu hi),iw]
 have ew:1<=i->IntKind.i64.wrap ((i:Int)-1)=((i-1:Nat):Int):=λh=>by rw[wrap_i64 (by omega) (by omega)];omega
 rcases h.2 i hi with⟨h4,h5⟩|⟨h4,h5,h6⟩|⟨h4,⟨c,hc,h5⟩,h6,h7⟩
 ·rw[ah (by rw[bF];have:=h4.1;omega),wu]
  have:¬((ts.getD i aA).1=10\/(ts.getD i aA).1=11):=by have:=h4.1;omega
  simp only[this,dm,aQ,kr,bL]
 ·rw[h5,aj (by show decide ((9:Int)=9)=true;decide),aj (by rw[bF];omega),ew h4]
  simp
 ·have hp:=h.pos (show i-1<ts.length by omega)
  have e2:((c:Int)=10\/(c:Int)=11):=by omega
  have ef:=agB h hl i (i-1) n (by omega) (by omega) (by omega)
  rw[h5,ah (by rw[bF];simp only[];omega),wu]
  simp only[aQ,e2,bY,gI,bP,bI]
  rw[aj (by rw[bF];omega),ew (by omega),aj (by simp),ef]
  simp only[aQ]
  rw[aj (by rw[bF];omega),wrap_i64 (by omega) (by omega)]
  congr 2
  rw[bF]
  omega
theorem OE{n:Nat}(k:Int):F7 n k=some (decide (k=6\/k=7),()):=by
 unfold F7
 by_cases h:k=6<;>simp[h]
theorem av8{ts:List aa}{ss:List Nat}(h:Str ts ss){i n:Nat}(hi:i<ts.length):Cy n (ts.getD i aA)=some (true,()):=by
 unfold Cy
 rcases h.2 i hi with⟨h4,h5⟩|⟨h4,h5,h6⟩|⟨h4,⟨c,hc,h5⟩,h6,h7⟩
 ·generalize ts.getD i aA=t at h4
  obtain⟨k,num,cs,rs,l,r,_⟩:=t
  obtain⟨a1,a2,a3,a4,a5,a6,_⟩:=h4
  simp only at a1 a2 a3 a4 a5 a6
  subst a5 a6
  have b1:1<=k/\k<=11:=by omega
  have b2:¬(k=10\/k=11):=by omega
  have b3:¬(k>=9):=by omega
  simp only[jC.uK,OE,wu,aQ,b1,and_self,bY,gI,bP,bI,b2,b3,dm,bL]
  by_cases c1:2<=k/\k<=5
  ·have c2:¬(k=6\/k=7):=by omega
   have c3:k≠8:=by omega
   rw[a3 c2,a4 c3]
   simp[c1,c2,c3]
  ·rw[a2 c1]
   by_cases c2:k=6\/k=7
   ·have c3:k≠8:=by omega
    rw[a4 c3]
    simp[c1,c2,c3]
   ·rw[a3 c2]
    by_cases c3:k=8
    ·subst c3;simp
    ·rw[a4 c3]
     simp[c1,c2,c3]
 ·rw[h5]
  simp[jC.uK,OE,wu]
 ·rw[h5]
  rcases hc with rfl|rfl<;>simp[jC.uK,OE,wu]
theorem LK{cs:List Int}:(∀c∈cs,iP c/\33<=c/\c≠127)↔∀i,i<cs.length->iP (cs.getD i 0)/\33<=cs.getD i 0/\cs.getD i 0≠127:=by
 constructor
 ·intro h i hi
  rw[eP,fG hi]
  exact h _ (om hi)
 ·intro h c hc
  obtain⟨i,hi,rfl⟩:=List.getElem_of_mem hc
  have:=h i hi
  rw[eP,fG hi]at this
  exact this
def good(c:Int):Prop:=iP c/\33<=c/\c≠127
instance (c:Int):Decidable (good c):=by unfold good;infer_instance
theorem av6{n:Nat}{cs:List Int}(hl:cs.length<=1048576)(hn:1048600<n):zW n cs=some (decide (uQ cs),()):=by
 unfold zW
 refine(qp (λi=>(cs,(i:Int),())) (λi=>if ¬good (cs.getD i 0)then some (some (false,()))else none) (some (decide (1<=cs.length/\cs.length<=20),())) (m:=cs.length) rfl (by omega) ?_ ?_).trans ?_
 ·intro L i hi _
  have hg:cs.getD i 0=cs[i]:=by simp[eP,hi]
  simp only[qC,hi,bY,bL,fu hi,uB hi,hg,mR hi (by omega),jC.agF,aQ]
  unfold good
  by_cases c1:iP cs[i]
  ·by_cases c2:cs[i]<33
   ·have:¬33<=cs[i]:=by omega
    simp[c1,c2,this]
   ·have:33<=cs[i]:=by omega
    by_cases c3:cs[i]=127
    ·simp[c1,c2,c3]
    ·simp[c1,c2,c3,this]
  ·simp[c1]
 ·intro L _
  simp only[z8,dm,bP,bI,jC.uK,aQ]
  congr 2
  exact uA.2 (by omega)
 ·rcases AL (p:=λi=>¬good (cs.getD i 0)) (r:=λ_:Nat=>some (false,())) (fin:=some (decide (1<=cs.length/\cs.length<=20),())) (m:=cs.length) (i:=0)with⟨j,_,h2,h3,h4⟩|⟨h1,h2⟩
  ·rw[h4]
   congr 2
   symm
   rw[decide_eq_false_iff_not]
   intro h
   exact h3 (LK.1 h.2 j (by omega))
  ·rw[h2]
   congr 2
   refine uA.2 ⟨λh=>⟨h,LK.2 λi hi=>Classical.not_not.1 (h1 i (dW _) (by omega))⟩,λh=>h.1⟩
def vC(t:aa):Int:=if aN t then 0 else if t.1=8 then fR t.2.2.2.1 else 3
theorem Ca(t:aa):vC t=0↔aN t:=by
 unfold vC
 by_cases h:aN t
 ·simp[h]
 ·rw[ah h]
  refine⟨λh2=>?_,λh2=>absurd h2 h⟩
  split at h2
  ·rename_i h8
   exfalso
   apply h
   refine⟨λh=>?_,λh=>?_,λh=>?_,λh=>?_,λ_=>h2⟩<;>omega
  ·omega
theorem BL{t:aa}(h:t.1=2):aN t↔(t.2.1=1\/t.2.1=2\/t.2.1=4\/t.2.1=8):=
 ⟨λk=>k.1 h,λk=>⟨λ_=>k,λh'=>by omega,λh'=>by omega,λh'=>by omega,λh'=>by omega⟩⟩
theorem OP{t:aa}(h:t.1=3\/t.1=4):aN t↔(0<=t.2.1/\t.2.1<=9999):=
 ⟨λk=>k.2.1 h,λk=>⟨λh'=>by omega,λ_=>k,λh'=>by omega,λh'=>by omega,λh'=>by omega⟩⟩
theorem OQ{t:aa}(h:t.1=5):aN t↔(0<=t.2.1/\t.2.1<=400):=
 ⟨λk=>k.2.2.1 h,λk=>⟨λh'=>by omega,λh'=>by omega,λ_=>k,λh'=>by omega,λh'=>by omega⟩⟩
theorem BM{t:aa}(h:t.1=6\/t.1=7):aN t↔uQ t.2.2.1:=
 ⟨λk=>k.2.2.2.1 h,λk=>⟨λh'=>by omega,λh'=>by omega,λh'=>by omega,λ_=>k,λh'=>by omega⟩⟩
theorem tu{t:aa}(h:t.1=8):aN t↔fR t.2.2.2.1=0:=
 ⟨λk=>k.2.2.2.2 h,λk=>⟨λh'=>by omega,λh'=>by omega,λh'=>by omega,λh'=>by omega,λ_=>k⟩⟩
theorem OT{t:aa}(h:¬(2<=t.1/\t.1<=8)):aN t:=
 ⟨λh'=>by omega,λh'=>by omega,λh'=>by omega,λh'=>by omega,λh'=>by omega⟩
theorem agE{n:Nat}(hn:1048600<n){t:aa}(hl:t.2.2.1.length<=1048576):KU n t=some (vC t,()):=by
 unfold KU
 by_cases c2:t.1=2
 ·rw[aj (by simp[c2])]
  unfold vC
  simp only[BL c2]
  by_cases d1:t.2.1=1
  ·simp[d1]
  ·by_cases d2:t.2.1=2
   ·simp[d2]
   ·by_cases d3:t.2.1=4
    ·simp[d3]
    ·by_cases d4:t.2.1=8<;>simp[d1,d2,d3,d4,c2]
 ·rw[ah (by simp[c2])]
  by_cases c3:t.1=3\/t.1=4
  ·have e:vC t=if 0<=t.2.1/\t.2.1<=9999 then 0 else 3:=by
    unfold vC
    simp only[OP c3,show ¬(t.1=8) by omega,bI]
   rw[e]
   rcases c3 with c|c<;>by_cases d:0<=t.2.1/\t.2.1<=9999<;>simp[c,d,jC.uK]
  ·by_cases c5:t.1=5
   ·have e:vC t=if 0<=t.2.1/\t.2.1<=400 then 0 else 3:=by
     unfold vC
     simp only[OQ c5,show ¬(t.1=8) by omega,bI]
    rw[e]
    by_cases d:0<=t.2.1/\t.2.1<=400<;>simp[c5,d,jC.uK]
   ·by_cases c6:t.1=6\/t.1=7
    ·have e:vC t=if uQ t.2.2.1 then 0 else 3:=by
      unfold vC
      simp only[BM c6,show ¬(t.1=8) by omega,bI]
     rw[e]
     rcases c6 with c|c<;>by_cases d:uQ t.2.2.1<;>simp[c,d,av6 hl hn]
    ·by_cases c8:t.1=8
     ·have e:vC t=fR t.2.2.2.1:=by
       unfold vC
       simp only[tu c8,c8,bL]
       split
       ·rename_i h;exact h.symm
       ·rfl
      rw[e]
      simp[c8,oW.av3 (n:=n) (by omega)]
     ·have e:vC t=0:=(Ca t).2 (OT (by omega))
      rw[e]
      simp only[not_or]at c3 c6
      simp[c3,c5,c6,c8]
theorem aiP{ts:List aa}(x:Int):∃c,nT (λi=>if ¬aN (ts.getD i aA)then some (some (vC (ts.getD i aA),()))else none) (some (x,())) ts.length 0=some (c,())/\(x=0->(c=0↔∀t∈ts,aN t)):=by
 rcases AL (p:=λi=>¬aN (ts.getD i aA)) (r:=λi:Nat=>some (vC (ts.getD i aA),())) (fin:=some (x,())) (m:=ts.length) (i:=0)with⟨j,_,h2,h3,h4⟩|⟨h1,h2⟩
 ·refine⟨_,h4,λ_=>⟨λh=>absurd ((Ca _).1 h) h3,λh=>?_⟩⟩
  exfalso
  apply h3
  rw[eP,fG (by omega)]
  exact h _ (om _)
 ·refine⟨_,h2,λhx=>⟨λ_ t ht=>?_,λ_=>hx⟩⟩
  obtain⟨i,hi,rfl⟩:=List.getElem_of_mem ht
  have:=h1 i (dW _) (by omega)
  rw[eP,fG hi]at this
  exact Classical.not_not.1 this
theorem Str.codes{ts:List aa}{ss:List Nat}(h:Str ts ss){i:Nat}(hi:i<ts.length):(ts.getD i aA).2.2.1.length<=1048576:=by
 rcases h.2 i hi with⟨h4,h5⟩|⟨h4,h5,h6⟩|⟨h4,⟨c,hc,h5⟩,h6,h7⟩
 ·exact h4.2.2.2.2.2.2
 ·rw[h5];exact dW _
 ·rw[h5];exact dW _
theorem av7{ts:List aa}{ss:List Nat}(h:Str ts ss)(h0:0<ts.length)(hlast:ss.getD (ts.length-1) 0=ts.length){n:Nat}(hn:1048600<n)(hl:ts.length<=1000000):∃c,vk n ts=some (c,())/\(c=0↔ts.length<=12/\∀t∈ts,aN t):=by
 unfold vk
 rw[ah (by rw[bF];omega)]
 by_cases h12:12<ts.length
 ·rw[aj (by rw[bF];omega)]
  exact⟨2,rfl,by omega⟩
 ·rw[ah (by rw[bF];omega)]
  obtain⟨c,hc1,hc2⟩:=aiP (ts:=ts) 0
  refine⟨c,Eq.trans (qp (λi=>(ts,(i:Int),())) (λi=>if ¬aN (ts.getD i aA)then some (some (vC (ts.getD i aA),()))else none) (some (0,())) (m:=ts.length) rfl (by omega) ?_ ?_) hc1,by rw[hc2 rfl];exact⟨λh=>⟨by omega,h⟩,λh=>h.2⟩⟩
  ·intro L i hi _
   simp only[qC,hi,bY,bL,fu hi,iw,av8 h hi,aQ,gI,bP,bI,agE hn (h.codes hi),av5 h (by omega) (show 1000<n by omega) hi,mR hi (by omega)]
   by_cases ho:aN (ts.getD i aA)
   ·have:=(Ca _).2 ho
    simp only[this,ho,not_true_eq_false,bI,bY,gI,bP]
   ·have:vC (ts.getD i aA)≠0:=λh=>ho ((Ca _).1 h)
    simp only[this,dm,kr,bL,ho,not_false_eq_true]
  ·intro L _
   simp only[z8,dm,bP,bI]
   rw[show IntKind.i64.wrap ((ts.length:Int)-1)=((ts.length-1:Nat):Int) by rw[wrap_i64 (by omega) (by omega)];omega,agB h (by omega) ts.length (ts.length-1) n (by omega) (by omega) (by omega),hlast]
   simp only[aQ]
   rw[show ts.length-1+1-ts.length=0 by omega]
   rfl
theorem aqG{ts:List aa}{ss:List Nat}(h:Str ts ss){i n:Nat}(hi:i<ts.length):Cs n (ts.getD i aA)=some (true,()):=by
 unfold Cs
 simp only[lu.hasNum,lu.yP,aQ]
 rcases h.2 i hi with⟨h4,h5⟩|⟨h4,h5,h6⟩|⟨h4,⟨c,hc,h5⟩,h6,h7⟩
 ·generalize ts.getD i aA=t at h4
  obtain⟨k,num,cs,rs,l,r,_⟩:=t
  obtain⟨a1,a2,a3,a4,a5,a6,_⟩:=h4
  simp only at a1 a2 a3 a4 a5 a6
  subst a5 a6
  have b3:¬(k>=10):=by omega
  have b9:¬(k=9):=by omega
  by_cases c1:2<=k/\k<=5
  ·have c2:¬(k=6\/k=7):=by omega
   have c3:k≠8:=by omega
   rw[a3 c2,a4 c3]
   simp[c1,c2,c3,b9]
  ·rw[a2 c1]
   by_cases c2:k=6\/k=7
   ·have c3:k≠8:=by omega
    rw[a4 c3]
    simp[c1,c2,c3,b9]
   ·rw[a3 c2]
    by_cases c3:k=8
    ·subst c3;simp
    ·rw[a4 c3]
     simp[c1,c2,c3,b9]
 ·rw[h5]
  simp
 ·rw[h5]
  rcases hc with rfl|rfl<;>simp
def zq(t:aa):Prop:=(t.1=2->t.2.1=1\/t.2.1=2\/t.2.1=4\/t.2.1=8)/\((t.1=3\/t.1=4)->0<=t.2.1/\t.2.1<=9999)/\(t.1=5->0<=t.2.1/\t.2.1<=400)
instance (t:aa):Decidable (zq t):=by unfold zq;infer_instance
def yF(t:aa):Prop:=(t.1=6\/t.1=7)->uQ t.2.2.1
instance (t:aa):Decidable (yF t):=by unfold yF;infer_instance
theorem EZ(t:aa):aN t↔zq t/\yF t/\(t.1=8->fR t.2.2.2.1=0):=by
 unfold sD.aN zq yF
 exact⟨λh=>⟨⟨h.1,h.2.1,h.2.2.1⟩,h.2.2.2.1,h.2.2.2.2⟩,λh=>⟨h.1.1,h.1.2.1,h.1.2.2,h.2.1,h.2.2⟩⟩
theorem isNum{n:Nat}(t:aa):KG n t=some (decide (zq t),()):=by
 unfold KG KL zq
 simp only[jC.within,aQ]
 by_cases c2:t.1=2
 ·by_cases d1:t.2.1=1
  ·simp[c2,d1]
  ·by_cases d2:t.2.1=2
   ·simp[c2,d2]
   ·by_cases d3:t.2.1=4<;>simp[c2,d1,d2,d3]
 ·by_cases c3:t.1=3
  ·simp[c3]
  ·by_cases c4:t.1=4
   ·simp[c4]
   ·by_cases c5:t.1=5
    ·simp[c5]
    ·simp[c2,c3,c4,c5]
theorem al6{n:Nat}(c:Int):FR n c=some (decide (¬good c),()):=by
 unfold FR good
 simp only[jC.acy,aQ]
 by_cases c1:iP c
 ·by_cases c2:c<33
  ·have:¬33<=c:=by omega
   simp[c1,c2,this]
  ·have:33<=c:=by omega
   by_cases c3:c=127<;>simp[c1,c2,c3,this]
 ·simp[c1]
theorem alT{n:Nat}{cs:List Int}(hl:cs.length<n)(hl2:cs.length<=1048576):KN n cs=some (decide (¬∀c∈cs,good c),()):=by
 unfold KN Qp
 have e:=qp (B:=λL1 (v1:(List Int)×aB)=>(if decide (v1.2.2.1<v1.2.1)=true then(if aZ v1.2.2.1 v1.1.length then((FR n (v1.1.getD v1.2.2.1.toNat (0:Int))).bind λr2=>(if r2.1=true then some (v1.2.2.1,())else L1 (v1.1,v1.2.1,IntKind.i64.wrap (v1.2.2.1+(1:Int)),())))else none)else some ((-1:Int),()))) (n:=n) (v0:=(cs,(cs.length:Int),(0:Int),())) (λi=>(cs,(cs.length:Int),(i:Int),())) (λi=>if ¬good (cs.getD i 0)then some (some ((i:Int),()))else none) (some (-1,())) (m:=cs.length) rfl (by omega) (by
  intro L i hi _
  simp only[qC,hi,bY,bL,fu hi,iw,mR hi (by omega),al6,aQ,bF]
  split<;>rfl) (by intro L _;simp)
 rw[e]
 rcases AL (p:=λi=>¬good (cs.getD i 0)) (r:=λi:Nat=>some ((i:Int),())) (fin:=some ((-1:Int),())) (m:=cs.length) (i:=0)with⟨j,_,h2,h3,h4⟩|⟨h1,h2⟩
 ·rw[h4]
  simp only[aQ]
  congr 2
  refine uA.2 ⟨λ_ h=>h3 (LK.1 h j (by omega)),λ_=>by omega⟩
 ·rw[h2]
  simp only[aQ]
  congr 2
  refine uA.2 ⟨λh=>absurd h (by decide),λh=>absurd (LK.2 λi hi=>Classical.not_not.1 (h1 i (dW _) (by omega))) h⟩
theorem ZU{n:Nat}{t:aa}(hl:t.2.2.1.length<=1048576)(hn:1048600<n):KF n t=some (decide (yF t),()):=by
 unfold KF yF Ql
 simp only[lu.yP,jC.within,aQ,alT (n:=n) (cs:=t.2.2.1) (by omega) hl]
 by_cases h:t.1=6\/t.1=7
 ·simp only[h,bY,gI,bP,bI,true_implies]
  by_cases h2:1<=t.2.2.1.length/\t.2.2.1.length<=20
  ·have h2':1<=(t.2.2.1.length:Int)/\(t.2.2.1.length:Int)<=20:=by omega
   simp only[h2',and_self,bY,bL]
   congr 2
   unfold uQ
   simp only[h2,and_self,true_and,decide_not,Bool.not_not]
   rfl
  ·have h2':¬(1<=(t.2.2.1.length:Int)/\(t.2.2.1.length:Int)<=20):=by omega
   simp only[h2',dm,bP,bI]
   congr 2
   symm
   rw[decide_eq_false_iff_not]
   exact λh3=>h2 h3.1
 ·simp[h]
def sz(ss:List Nat)(i:Nat):List Int:=(ss.take i).map λn:Nat=>(n:Int)
theorem aiE{ss:List Nat}{i:Nat}(h:i<=ss.length):(sz ss i).length=i:=by unfold sz;simp;omega
theorem Pm{ss:List Nat}{i j:Nat}(h:j<i)(h2:i<=ss.length):(sz ss i).getD j 0=(ss.getD j 0:Int):=by
 unfold sz
 rw[eP,eP,CJ,Gl h,fG (show j<ss.length by omega)]
 rfl
theorem ayt{ss:List Nat}{i:Nat}(h:i<ss.length):sz ss (i+1)=sz ss i++[(ss.getD i 0:Int)]:=by
 unfold sz
 rw[Gp h,Aa,eP,fG h]
 rfl
theorem QW{ts:List aa}{ss:List Nat}(h:Str ts ss)(h0:0<ts.length)(hlast:ss.getD (ts.length-1) 0=ts.length){n:Nat}(hn:1048600<n)(hl:ts.length<=12):∃c,rY n ts=some (c,())/\(c=0↔∀t∈ts,aN t):=by
 unfold rY
 have h1:1<=(ts.length:Int)/\(ts.length:Int)<=12:=by omega
 simp only[lu.nW,aQ,jC.within,h1,and_self,bY,gI,bP,bI]
 obtain⟨c,hc1,hc2⟩:=aiP (ts:=ts) 0
 have hsl:=h.1
 refine⟨c,Eq.trans (qp (λi=>(ts,ts,(ts.length:Int),(i:Int),sz ss i,())) (λi=>if ¬aN (ts.getD i aA)then some (some (vC (ts.getD i aA),()))else none) (some (0,())) (m:=ts.length) rfl (by omega) ?_ ?_) hc1,hc2 rfl⟩
 ·intro L i hi _
  have hk:1<=(ts.getD i aA).1/\(ts.getD i aA).1<=11:=by
   rcases h.2 i hi with⟨h4,h5⟩|⟨h4,h5,h6⟩|⟨h4,⟨c,hc,h5⟩,h6,h7⟩
   ·have:=h4.1;omega
   ·rw[h5];simp
   ·rw[h5];simp;omega
  have hlen:(sz ss i).length=i:=aiE (by omega)
  simp only[qC,hi,bY,bL,fu hi,iw,hk,and_self,aQ,gI,bP,bI,aqG h hi,isNum,ZU (h.codes hi) hn,mR hi (by omega),oW.QL (n:=n) (by omega)]
  have tail:aN (ts.getD i aA)->(if decide ((ts.getD i aA).1=(9:Int))=true then(if decide ((i:Int)=(0:Int))=true then some ((1:Int),())else(if(!decide ((ts.getD i aA).2.2.2.2.1=(IntKind.i64.wrap ((i:Int)-(1:Int)))))=true then some ((1:Int),())else(if aZ (IntKind.i64.wrap ((i:Int)-(1:Int))) (sz ss i).length then(if((sz ss i).length+[IntKind.i64.wrap ((1:Int)+((sz ss i).getD (IntKind.i64.wrap ((i:Int)-(1:Int))).toNat (0:Int)))].length)*8<=140737488355328 then L (ts,ts,(ts.length:Int),((i+1:Nat):Int),sz ss i++[IntKind.i64.wrap ((1:Int)+((sz ss i).getD (IntKind.i64.wrap ((i:Int)-(1:Int))).toNat (0:Int)))],())else none)else none)))else(if decide ((ts.getD i aA).1>(9:Int))=true then(if decide ((i:Int)<(2:Int))=true then some ((1:Int),())else(if(!decide ((ts.getD i aA).2.2.2.2.2.1=(IntKind.i64.wrap ((i:Int)-(1:Int)))))=true then some ((1:Int),())else(if decide ((ts.getD i aA).2.2.2.2.1<(0:Int))=true then some ((1:Int),())else(if aZ (IntKind.i64.wrap ((i:Int)-(1:Int))) (sz ss i).length then(if(!decide ((ts.getD i aA).2.2.2.2.1=(IntKind.i64.wrap ((IntKind.i64.wrap ((i:Int)-(1:Int)))-((sz ss i).getD (IntKind.i64.wrap ((i:Int)-(1:Int))).toNat (0:Int))))))=true then some ((1:Int),())else(if aZ (IntKind.i64.wrap ((i:Int)-(1:Int))) (sz ss i).length then(if aZ ((ts.getD i aA).2.2.2.2.1) (sz ss i).length then(if((sz ss i).length+[IntKind.i64.wrap ((1:Int)+(IntKind.i64.wrap (((sz ss i).getD (IntKind.i64.wrap ((i:Int)-(1:Int))).toNat (0:Int))+((sz ss i).getD ((ts.getD i aA).2.2.2.2.1).toNat (0:Int)))))].length)*8<=140737488355328 then L (ts,ts,(ts.length:Int),((i+1:Nat):Int),sz ss i++[IntKind.i64.wrap ((1:Int)+(IntKind.i64.wrap (((sz ss i).getD (IntKind.i64.wrap ((i:Int)-(1:Int))).toNat (0:Int))+((sz ss i).getD ((ts.getD i aA).2.2.2.2.1).toNat (0:Int)))))],())else none)else none)else none))else none))))else(if((sz ss i).length+[(1:Int)].length)*8<=140737488355328 then L (ts,ts,(ts.length:Int),((i+1:Nat):Int),sz ss i++[(1:Int)],())else none)))=L (ts,ts,(ts.length:Int),((i+1:Nat):Int),sz ss (i+1),()):=by
   intro _
   rw[ayt (show i<ss.length by omega)]
   have ew:1<=i->IntKind.i64.wrap ((i:Int)-1)=((i-1:Nat):Int):=λh=>by rw[wrap_i64 (by omega) (by omega)];omega
   rcases h.2 i hi with⟨h4,h5⟩|⟨h4,h5,h6⟩|⟨h4,⟨c,hc,h5⟩,h6,h7⟩
   ·have:=h4.1
    rw[ah (by rw[bF];omega),ah (by rw[bF];omega),aj (by rw[hlen];simp;omega),h5]
    rfl
   ·have hb:=h.pos (show i-1<ts.length by omega)
    have ev:IntKind.i64.wrap ((1:Int)+(ss.getD (i-1) 0:Int))=(ss.getD i 0:Int):=by rw[wrap_i64 (by omega) (by omega)];omega
    rw[h5,aj (by show decide ((9:Int)=9)=true;decide),ah (by rw[bF];omega),ew h4,ah (by simp),iw,Pm (show i-1<i by omega) (by omega),ev,aj (by rw[hlen];exact fu (by omega)),aj (by rw[hlen];simp;omega)]
   ·have hb:=h.pos (show i-1<ts.length by omega)
    have hb2:=h.pos (show i-1-ss.getD (i-1) 0<ts.length by omega)
    have ev:IntKind.i64.wrap ((ss.getD (i-1) 0:Int)+(ss.getD (i-1-ss.getD (i-1) 0) 0:Int))=(((ss.getD (i-1) 0)+(ss.getD (i-1-ss.getD (i-1) 0) 0):Nat):Int):=by rw[wrap_i64 (by omega) (by omega)];omega
    have sM:IntKind.i64.wrap ((1:Int)+(((ss.getD (i-1) 0)+(ss.getD (i-1-ss.getD (i-1) 0) 0):Nat):Int))=(ss.getD i 0:Int):=by rw[wrap_i64 (by omega) (by omega)];omega
    have el:IntKind.i64.wrap (((i-1:Nat):Int)-(ss.getD (i-1) 0:Int))=((i-1-ss.getD (i-1) 0:Nat):Int):=by rw[wrap_i64 (by omega) (by omega)];omega
    rw[h5,ah (by rw[bF];simp only[];omega),aj (by rw[bF];simp only[];omega),ah (by rw[bF];omega),ew (by omega)]
    simp only[iw,Pm (show i-1<i by omega) (show i<=ss.length by omega),Pm (show i-1-ss.getD (i-1) 0<i by omega) (show i<=ss.length by omega),el,ev,sM]
    rw[ah (by simp),ah (by rw[bF];omega),aj (by rw[hlen];exact fu (by omega)),ah (by simp),aj (by rw[hlen];exact fu (by omega)),aj (by rw[hlen];exact fu (by omega)),aj (by rw[hlen];simp;omega)]
  by_cases hn1:zq (ts.getD i aA)
  ·by_cases hc1:yF (ts.getD i aA)
   ·simp only[hn1,hc1,bY,gI,bP,bI]
    by_cases c8:(ts.getD i aA).1=8
    ·simp only[c8,bY,bL]
     by_cases hf:fR (ts.getD i aA).2.2.2.1=0
     ·have ho:aN (ts.getD i aA):=(tu c8).2 hf
      have Bd:=tail ho
      simp only[c8]at Bd
      simp only[hf,bY,gI,bP,bI,ho,not_true_eq_false]
      exact Bd
     ·have ho:¬aN (ts.getD i aA):=λh=>hf ((tu c8).1 h)
      have e:vC (ts.getD i aA)=fR (ts.getD i aA).2.2.2.1:=by unfold vC;rw[ah ho,aj c8]
      simp only[hf,dm,kr,bL,ho,not_false_eq_true,e]
    ·have ho:aN (ts.getD i aA):=(EZ _).2 ⟨hn1,hc1,λh=>absurd h c8⟩
     have Bd:=tail ho
     simp only[c8,dm,bP,bI,ho,not_true_eq_false]
     exact Bd
   ·have ho:¬aN (ts.getD i aA):=λh=>hc1 ((EZ _).1 h).2.1
    have c8:¬(ts.getD i aA).1=8:=λh=>hc1 λh2=>by omega
    have e:vC (ts.getD i aA)=3:=by unfold vC;rw[ah ho,ah c8]
    simp only[hn1,hc1,bY,dm,gI,kr,bP,bI,bL,ho,not_false_eq_true,e]
  ·have ho:¬aN (ts.getD i aA):=λh=>hn1 ((EZ _).1 h).1
   have c8:¬(ts.getD i aA).1=8:=λh=>hn1 ⟨λh2=>by omega,λh2=>by omega,λh2=>by omega⟩
   have e:vC (ts.getD i aA)=3:=by unfold vC;rw[ah ho,ah c8]
   simp only[hn1,dm,kr,bL,ho,not_false_eq_true,e]
 ·intro L _
  have hlen:(sz ss ts.length).length=ts.length:=aiE (by omega)
  have ew:IntKind.i64.wrap ((ts.length:Int)-1)=((ts.length-1:Nat):Int):=by rw[wrap_i64 (by omega) (by omega)];omega
  simp only[z8,dm,bP,bI,ew,iw,Pm (show ts.length-1<ts.length by omega) (show ts.length<=ss.length by omega),hlast,aQ,bY,gI]
  rw[aj (by rw[hlen];exact fu (by omega))]
end Go.Proofs.YtgppmpedglhhfaaGreatDoor.Ai
