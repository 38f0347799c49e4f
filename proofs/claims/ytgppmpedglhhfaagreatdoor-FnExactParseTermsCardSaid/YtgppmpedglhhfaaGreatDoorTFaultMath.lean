/- The faults of terms: both sides tell the same of what was read. -/
import Derived.Test.YtgppmpedglhhfaaGreatDoorSReadMath
set_option linter.unusedVariables false
set_option linter.unusedSimpArgs false
namespace Go.Proofs.YtgppmpedglhhfaaGreatDoor.LC
open Go Ow q9 qZ aD vg jY vv yB vB Au wU
def node(ts:List bn)(ss:List Nat)(i:Nat):Prop:=
 (sL (ts.getD i aJ)/\ss.getD i 0=1)\/
 (1<=i/\ts.getD i aJ=(9,0,[],[],((i-1:Nat):Int),0,())/\ss.getD i 0=ss.getD (i-1) 0+1)\/
 (2<=i/\(∃k:Nat,(k=10\/k=11)/\ts.getD i aJ=((k:Int),0,[],[],((i-1-ss.getD (i-1) 0:Nat):Int),((i-1:Nat):Int),()))/\ss.getD (i-1) 0<i/\ss.getD i 0=ss.getD (i-1) 0+ss.getD (i-1-ss.getD (i-1) 0) 0+1)
def Str(ts:List bn)(ss:List Nat):Prop:=ss.length=ts.length/\∀i,i<ts.length->node ts ss i
theorem xw{A:Type}{a b:List A}{i:Nat}{d:A}(h:i<a.length):(a++b).getD i d=a.getD i d:=by
 simp only[gy,uo h]
theorem rA{A:Type}{a b:List A}{x d:A}:(a++x :: b).getD a.length d=x:=by
 simp[gy]
theorem am7{ts og:List bn}{ss ss2:List Nat}{i:Nat}(h1:i<ts.length)(h2:ss.length=ts.length):node (ts++og) (ss++ss2) i↔node ts ss i:=by
 unfold node
 rw[xw h1,xw (show i<ss.length by omega),xw (show i-1<ss.length by omega),xw (show i-1-ss.getD (i-1) 0<ss.length by omega)]
theorem Str.snoc{ts:List bn}{ss:List Nat}{t:bn}{s:Nat}(h:Str ts ss)(hn:node (ts++[t]) (ss++[s]) ts.length):Str (ts++[t]) (ss++[s]):=by
 obtain⟨h1,h2⟩:=h
 refine⟨by simp[h1],λi hi=>?_⟩
 by_cases e:i=ts.length
 ·rw[e];exact hn
 ·have hi':i<ts.length:=by simp at hi;omega
  exact(am7 hi' h1).2 (h2 i hi')
theorem Cq:∀(tr:Tr) (ts:List bn) (ss:List Nat),Str ts ss->rY tr->∃ss',Str (ts++dD ts.length tr) (ss++ss')/\ss'.length=size tr/\(ss++ss').getD (ss.length+size tr-1) 0=size tr
 |.leaf t,ts,ss,h,hs=>by
  refine⟨[1],h.snoc (.inl ⟨?_,?_⟩),rfl,?_⟩
  ·rw[rA];exact hs
  ·rw[<-h.1,rA]
  ·show(ss++[1]).getD (ss.length+1-1) 0=1
   rw[Nat.add_sub_cancel,rA]
 |.one a,ts,ss,h,hs=>by
  obtain⟨s1,h1,h2,h3⟩:=Cq a ts ss h hs
  have hp:=size_pos a
  have hlen:(ts++dD ts.length a).length=ts.length+size a:=by rw[d_,lY]
  have vQ:(ss++s1).length=ts.length+size a:=by rw[d_,h.1,h2]
  refine⟨s1++[size a+1],?_,by simp[h2,size],?_⟩
  ·simp only[dD]
   rw[<-fH,<-fH]
   refine h1.snoc (.inr (.inl ⟨by omega,?_,?_⟩))
   ·rw[rA,hlen]
   ·conv=>lhs;rw[hlen,<-vQ,rA]
    rw[hlen,xw (by omega),<-h.1,h3]
  ·rw[<-fH]
   have:ss.length+size (.one a)-1=(ss++s1).length:=by rw[vQ,h.1];simp only[size];omega
   rw[this,rA]
   rfl
 |.two k a b,ts,ss,h,hs=>by
  obtain⟨hk,hsa,hsb⟩:=hs
  obtain⟨s1,h1,h2,h3⟩:=Cq a ts ss h hsa
  obtain⟨s2,k1,k2,k3⟩:=Cq b _ _ h1 hsb
  have hpa:=size_pos a
  have hpb:=size_pos b
  have hlen:(ts++dD ts.length a).length=ts.length+size a:=by rw[d_,lY]
  have vQ:(ss++s1).length=ts.length+size a:=by rw[d_,h.1,h2]
  rw[hlen]at k1
  have hlen3:(ts++dD ts.length a++dD (ts.length+size a) b).length=ts.length+size a+size b:=by rw[d_,hlen,lY]
  have VU:(ss++s1++s2).length=ts.length+size a+size b:=by rw[d_,vQ,k2]
  have e1:(ss++s1++s2).getD (ts.length+size a+size b-1) 0=size b:=by rw[<-vQ];exact k3
  have e2:(ss++s1++s2).getD (ts.length+size a-1) 0=size a:=by rw[xw (by omega),<-h.1];exact h3
  refine⟨s1++s2++[size a+size b+1],?_,by simp[h2,k2,size];omega,?_⟩
  ·have ea:ts++dD ts.length (.two k a b)=ts++dD ts.length a++dD (ts.length+size a) b++[((k:Int),0,[],[],((ts.length+size a-1:Nat):Int),((ts.length+size a+size b-1:Nat):Int),())]:=by simp only[dD,fH]
   have eb:ss++(s1++s2++[size a+size b+1])=ss++s1++s2++[size a+size b+1]:=by simp only[fH]
   rw[ea,eb]
   have g1:(ss++s1++s2++[size a+size b+1]).getD (ts.length+size a+size b-1) 0=size b:=by rw[xw (by omega),e1]
   have g2:(ss++s1++s2++[size a+size b+1]).getD (ts.length+size a+size b-1-size b) 0=size a:=by
    rw[xw (by omega),show ts.length+size a+size b-1-size b=ts.length+size a-1 by omega,e2]
   have g3:(ss++s1++s2++[size a+size b+1]).getD (ts.length+size a+size b) 0=size a+size b+1:=by rw[<-VU,rA]
   refine k1.snoc (.inr (.inr ⟨by omega,⟨k,hk,?_⟩,?_,?_⟩))
   ·rw[rA,hlen3,g1,show ts.length+size a+size b-1-size b=ts.length+size a-1 by omega]
   ·rw[hlen3,g1];omega
   ·rw[hlen3,g1,g2,g3];omega
  ·rw[<-fH,<-fH]
   have:ss.length+size (.two k a b)-1=(ss++s1++s2).length:=by rw[VU,h.1];simp only[size];omega
   rw[this,rA]
   rfl
theorem Str.bound{ts:List bn}{ss:List Nat}(h:Str ts ss):∀(k i:Nat),i<k->i<ts.length->1<=ss.getD i 0/\ss.getD i 0<=i+1:=by
 intro k
 induction k with
 |zero=>intro i h1;omega
 |succ k ih=>
  intro i h1 h2
  rcases h.2 i h2 with⟨_,h3⟩|⟨h3,_,h4⟩|⟨h3,_,h4,h5⟩
  ·omega
  ·have:=ih (i-1) (by omega) (by omega)
   omega
  ·have a1:=ih (i-1) (by omega) (by omega)
   have a2:=ih (i-1-ss.getD (i-1) 0) (by omega) (by omega)
   omega
theorem Str.pos{ts:List bn}{ss:List Nat}(h:Str ts ss){i:Nat}(hi:i<ts.length):1<=ss.getD i 0/\ss.getD i 0<=i+1:=h.bound (i+1) i (by omega) hi
theorem YI{ts:List bn}{ss:List Nat}(h:Str ts ss)(hl:ts.length<=1000):∀(k i n:Nat),i<k->i<n->i<ts.length->yx n ts (i:Int)=some (((i+1-ss.getD i 0:Nat):Int),()):=by
 intro k
 induction k with
 |zero=>intro i n h1;omega
 |succ k ih=>
  intro i n h1 h2 h3
  obtain⟨n,rfl⟩:∃j,n=j+1:=⟨n-1,by omega⟩
  unfold yx
  rw[ak (ig h3),kJ]
  rcases h.2 i h3 with⟨h4,h5⟩|⟨h4,h5,h6⟩|⟨h4,⟨c,hc,h5⟩,h6,h7⟩
  ·rw[aj (by rw[bN];have:=h4.1;omega),h5]
   simp
  ·rw[h5,ak (by show decide ((9:Int)>=9)=true;decide),ak (ig h3)]
   simp only[]
   rw[ih (i-1) n (by omega) (by omega) (by omega)]
   simp only[bf]
   rw[h6]
   congr 3
   omega
  ·rw[h5,ak (by rw[bN];simp only[];omega),ak (ig h3)]
   simp only[]
   rw[ih (i-1-ss.getD (i-1) 0) n (by omega) (by omega) (by omega)]
   simp only[bf]
   rw[h7]
   have:=h.pos (show i-1-ss.getD (i-1) 0<ts.length by omega)
   congr 3
   omega
theorem al7{ts:List bn}{ss:List Nat}(h:Str ts ss)(hl:ts.length<=1000){i n:Nat}(hn:1000<n)(hi:i<ts.length):Gy n ts (i:Int)=some (true,()):=by
 unfold Gy
 rw[ak (ig hi),kJ]
 have ew:1<=i->IntKind.i64.wrap ((i:Int)-1)=((i-1:Nat):Int):=λh=>by rw[wrap_i64 (by omega) (by omega)];omega
 rcases h.2 i hi with⟨h4,h5⟩|⟨h4,h5,h6⟩|⟨h4,⟨c,hc,h5⟩,h6,h7⟩
 ·rw[aj (by rw[bN];have:=h4.1;omega),BJ]
  have:¬((ts.getD i aJ).1=10\/(ts.getD i aJ).1=11):=by have:=h4.1;omega
  simp only[this,dL,bf,mq,bQ]
 ·rw[h5,ak (by show decide ((9:Int)=9)=true;decide),ak (by rw[bN];omega),ew h4]
  simp
 ·have hp:=h.pos (show i-1<ts.length by omega)
  have e2:((c:Int)=10\/(c:Int)=11):=by omega
  have ef:=YI h hl i (i-1) n (by omega) (by omega) (by omega)
  rw[h5,aj (by rw[bN];simp only[];omega),BJ]
  simp only[bf,e2,cB,iM,bY,bO]
  rw[ak (by rw[bN];omega),ew (by omega),ak (by simp),ef]
  simp only[bf]
  rw[ak (by rw[bN];omega),wrap_i64 (by omega) (by omega)]
  congr 2
  rw[bN]
  omega
theorem PI{n:Nat}(k:Int):CP n k=some (decide (k=6\/k=7),()):=by
 unfold CP
 by_cases h:k=6<;>simp[h]
theorem al_{ts:List bn}{ss:List Nat}(h:Str ts ss){i n:Nat}(hi:i<ts.length):Gz n (ts.getD i aJ)=some (true,()):=by
 unfold Gz
 rcases h.2 i hi with⟨h4,h5⟩|⟨h4,h5,h6⟩|⟨h4,⟨c,hc,h5⟩,h6,h7⟩
 ·generalize ts.getD i aJ=t at h4
  obtain⟨k,num,cs,rs,l,r,_⟩:=t
  obtain⟨a1,a2,a3,a4,a5,a6,_⟩:=h4
  simp only at a1 a2 a3 a4 a5 a6
  subst a5 a6
  have b1:1<=k/\k<=11:=by omega
  have b2:¬(k=10\/k=11):=by omega
  have b3:¬(k>=9):=by omega
  simp only[jY.uM,PI,BJ,bf,b1,and_self,cB,iM,bY,bO,b2,b3,dL,bQ]
  by_cases c1:2<=k/\k<=5
  ·have c2:¬(k=6\/k=7):=by omega
   have c3:k≠8:=by omega
   rw[a3 c2,a4 c3]
   simp[c1,c2,c3]
  ·rw[a2 c1]
   by_cases c2:k=6\/k=7
   ·have c3:k≠8:=by omega
    rw[a4 c3]
    simp[c1,c2,c3]
   ·rw[a3 c2]
    by_cases c3:k=8
    ·subst c3;simp
    ·rw[a4 c3]
     simp[c1,c2,c3]
 ·rw[h5]
  simp[jY.uM,PI,BJ]
 ·rw[h5]
  rcases hc with rfl|rfl<;>simp[jY.uM,PI,BJ]
theorem H_{cs:List Int}:(∀c∈cs,iP c/\33<=c/\c≠127)↔∀i,i<cs.length->iP (cs.getD i 0)/\33<=cs.getD i 0/\cs.getD i 0≠127:=by
 constructor
 ·intro h i hi
  rw[gy,gK hi]
  exact h _ (nM hi)
 ·intro h c hc
  obtain⟨i,hi,rfl⟩:=List.getElem_of_mem hc
  have:=h i hi
  rw[gy,gK hi]at this
  exact this
def good(c:Int):Prop:=iP c/\33<=c/\c≠127
instance (c:Int):Decidable (good c):=by unfold good;infer_instance
theorem al8{n:Nat}{cs:List Int}(hl:cs.length<=1048576)(hn:1048600<n):yu n cs=some (decide (wu cs),()):=by
 unfold yu
 refine(pK (λi=>(cs,(i:Int),())) (λi=>if ¬good (cs.getD i 0)then some (some (false,()))else none) (some (decide (1<=cs.length/\cs.length<=20),())) (m:=cs.length) rfl (by omega) ?_ ?_).trans ?_
 ·intro L i hi _
  have hg:cs.getD i 0=cs[i]:=by simp[gy,hi]
  simp only[ou,hi,cB,bQ,ig hi,o9 hi,hg,kY hi (by omega),jY.YK,bf]
  unfold good
  by_cases c1:iP cs[i]
  ·by_cases c2:cs[i]<33
   ·have:¬33<=cs[i]:=by omega
    simp[c1,c2,this]
   ·have:33<=cs[i]:=by omega
    by_cases c3:cs[i]=127
    ·simp[c1,c2,c3]
    ·simp[c1,c2,c3,this]
  ·simp[c1]
 ·intro L _
  simp only[K9,dL,bY,bO,jY.uM,bf]
  congr 2
  exact uE.2 (by omega)
 ·rcases y7 (p:=λi=>¬good (cs.getD i 0)) (r:=λ_:Nat=>some (false,())) (fin:=some (decide (1<=cs.length/\cs.length<=20),())) (m:=cs.length) (i:=0)with⟨j,_,h2,h3,h4⟩|⟨h1,h2⟩
  ·rw[h4]
   congr 2
   symm
   rw[decide_eq_false_iff_not]
   intro h
   exact h3 (H_.1 h.2 j (by omega))
  ·rw[h2]
   congr 2
   refine uE.2 ⟨λh=>⟨h,H_.2 λi hi=>Classical.not_not.1 (h1 i (dY _) (by omega))⟩,λh=>h.1⟩
def vC(t:bn):Int:=if aO t then 0 else if t.1=8 then fR t.2.2.2.1 else 3
theorem Km(t:bn):vC t=0↔aO t:=by
 unfold vC
 by_cases h:aO t
 ·simp[h]
 ·rw[aj h]
  refine⟨λh2=>?_,λh2=>absurd h2 h⟩
  split at h2
  ·rename_i h8
   exfalso
   apply h
   refine⟨λh=>?_,λh=>?_,λh=>?_,λh=>?_,λ_=>h2⟩<;>omega
  ·omega
theorem ana{t:bn}(h:t.1=2):aO t↔(t.2.1=1\/t.2.1=2\/t.2.1=4\/t.2.1=8):=
 ⟨λk=>k.1 h,λk=>⟨λ_=>k,λh'=>by omega,λh'=>by omega,λh'=>by omega,λh'=>by omega⟩⟩
theorem anb{t:bn}(h:t.1=3\/t.1=4):aO t↔(0<=t.2.1/\t.2.1<=9999):=
 ⟨λk=>k.2.1 h,λk=>⟨λh'=>by omega,λ_=>k,λh'=>by omega,λh'=>by omega,λh'=>by omega⟩⟩
theorem anc{t:bn}(h:t.1=5):aO t↔(0<=t.2.1/\t.2.1<=400):=
 ⟨λk=>k.2.2.1 h,λk=>⟨λh'=>by omega,λh'=>by omega,λ_=>k,λh'=>by omega,λh'=>by omega⟩⟩
theorem ane{t:bn}(h:t.1=6\/t.1=7):aO t↔wu t.2.2.1:=
 ⟨λk=>k.2.2.2.1 h,λk=>⟨λh'=>by omega,λh'=>by omega,λh'=>by omega,λ_=>k,λh'=>by omega⟩⟩
theorem Qc{t:bn}(h:t.1=8):aO t↔fR t.2.2.2.1=0:=
 ⟨λk=>k.2.2.2.2 h,λk=>⟨λh'=>by omega,λh'=>by omega,λh'=>by omega,λh'=>by omega,λ_=>k⟩⟩
theorem Qe{t:bn}(h:¬(2<=t.1/\t.1<=8)):aO t:=
 ⟨λh'=>by omega,λh'=>by omega,λh'=>by omega,λh'=>by omega,λh'=>by omega⟩
theorem ama{n:Nat}(hn:1048600<n){t:bn}(hl:t.2.2.1.length<=1048576):GG n t=some (vC t,()):=by
 unfold GG
 by_cases c2:t.1=2
 ·rw[ak (by simp[c2])]
  unfold vC
  simp only[ana c2]
  by_cases d1:t.2.1=1
  ·simp[d1]
  ·by_cases d2:t.2.1=2
   ·simp[d2]
   ·by_cases d3:t.2.1=4
    ·simp[d3]
    ·by_cases d4:t.2.1=8<;>simp[d1,d2,d3,d4,c2]
 ·rw[aj (by simp[c2])]
  by_cases c3:t.1=3\/t.1=4
  ·have e:vC t=if 0<=t.2.1/\t.2.1<=9999 then 0 else 3:=by
    unfold vC
    simp only[anb c3,show ¬(t.1=8) by omega,bO]
   rw[e]
   rcases c3 with c|c<;>by_cases d:0<=t.2.1/\t.2.1<=9999<;>simp[c,d,jY.uM]
  ·by_cases c5:t.1=5
   ·have e:vC t=if 0<=t.2.1/\t.2.1<=400 then 0 else 3:=by
     unfold vC
     simp only[anc c5,show ¬(t.1=8) by omega,bO]
    rw[e]
    by_cases d:0<=t.2.1/\t.2.1<=400<;>simp[c5,d,jY.uM]
   ·by_cases c6:t.1=6\/t.1=7
    ·have e:vC t=if wu t.2.2.1 then 0 else 3:=by
      unfold vC
      simp only[ane c6,show ¬(t.1=8) by omega,bO]
     rw[e]
     rcases c6 with c|c<;>by_cases d:wu t.2.2.1<;>simp[c,d,al8 hl hn]
    ·by_cases c8:t.1=8
     ·have e:vC t=fR t.2.2.2.1:=by
       unfold vC
       simp only[Qc c8,c8,bQ]
       split
       ·rename_i h;exact h.symm
       ·rfl
      rw[e]
      simp[c8,vB.al5 (n:=n) (by omega)]
     ·have e:vC t=0:=(Km t).2 (Qe (by omega))
      rw[e]
      simp only[not_or]at c3 c6
      simp[c3,c5,c6,c8]
theorem aaK{ts:List bn}(x:Int):∃c,ny (λi=>if ¬aO (ts.getD i aJ)then some (some (vC (ts.getD i aJ),()))else none) (some (x,())) ts.length 0=some (c,())/\(x=0->(c=0↔∀t∈ts,aO t)):=by
 rcases y7 (p:=λi=>¬aO (ts.getD i aJ)) (r:=λi:Nat=>some (vC (ts.getD i aJ),())) (fin:=some (x,())) (m:=ts.length) (i:=0)with⟨j,_,h2,h3,h4⟩|⟨h1,h2⟩
 ·refine⟨_,h4,λ_=>⟨λh=>absurd ((Km _).1 h) h3,λh=>?_⟩⟩
  exfalso
  apply h3
  rw[gy,gK (by omega)]
  exact h _ (nM _)
 ·refine⟨_,h2,λhx=>⟨λ_ t ht=>?_,λ_=>hx⟩⟩
  obtain⟨i,hi,rfl⟩:=List.getElem_of_mem ht
  have:=h1 i (dY _) (by omega)
  rw[gy,gK hi]at this
  exact Classical.not_not.1 this
theorem Str.codes{ts:List bn}{ss:List Nat}(h:Str ts ss){i:Nat}(hi:i<ts.length):(ts.getD i aJ).2.2.1.length<=1048576:=by
 rcases h.2 i hi with⟨h4,h5⟩|⟨h4,h5,h6⟩|⟨h4,⟨c,hc,h5⟩,h6,h7⟩
 ·exact h4.2.2.2.2.2.2
 ·rw[h5];exact dY _
 ·rw[h5];exact dY _
theorem al9{ts:List bn}{ss:List Nat}(h:Str ts ss)(h0:0<ts.length)(hlast:ss.getD (ts.length-1) 0=ts.length){n:Nat}(hn:1048600<n)(hl:ts.length<=1000000):∃c,yw n ts=some (c,())/\(c=0↔ts.length<=12/\∀t∈ts,aO t):=by
 unfold yw
 rw[aj (by rw[bN];omega)]
 by_cases h12:12<ts.length
 ·rw[ak (by rw[bN];omega)]
  exact⟨2,rfl,by omega⟩
 ·rw[aj (by rw[bN];omega)]
  obtain⟨c,hc1,hc2⟩:=aaK (ts:=ts) 0
  refine⟨c,Eq.trans (pK (λi=>(ts,(i:Int),())) (λi=>if ¬aO (ts.getD i aJ)then some (some (vC (ts.getD i aJ),()))else none) (some (0,())) (m:=ts.length) rfl (by omega) ?_ ?_) hc1,by rw[hc2 rfl];exact⟨λh=>⟨by omega,h⟩,λh=>h.2⟩⟩
  ·intro L i hi _
   simp only[ou,hi,cB,bQ,ig hi,kJ,al_ h hi,bf,iM,bY,bO,ama hn (h.codes hi),al7 h (by omega) (show 1000<n by omega) hi,kY hi (by omega)]
   by_cases ho:aO (ts.getD i aJ)
   ·have:=(Km _).2 ho
    simp only[this,ho,not_true_eq_false,bO,cB,iM,bY]
   ·have:vC (ts.getD i aJ)≠0:=λh=>ho ((Km _).1 h)
    simp only[this,dL,mq,bQ,ho,not_false_eq_true]
  ·intro L _
   simp only[K9,dL,bY,bO]
   rw[show IntKind.i64.wrap ((ts.length:Int)-1)=((ts.length-1:Nat):Int) by rw[wrap_i64 (by omega) (by omega)];omega,YI h (by omega) ts.length (ts.length-1) n (by omega) (by omega) (by omega),hlast]
   simp only[bf]
   rw[show ts.length-1+1-ts.length=0 by omega]
   rfl
theorem ain{ts:List bn}{ss:List Nat}(h:Str ts ss){i n:Nat}(hi:i<ts.length):Gb n (ts.getD i aJ)=some (true,()):=by
 unfold Gb
 simp only[nK.hasNum,nK.ze,bf]
 rcases h.2 i hi with⟨h4,h5⟩|⟨h4,h5,h6⟩|⟨h4,⟨c,hc,h5⟩,h6,h7⟩
 ·generalize ts.getD i aJ=t at h4
  obtain⟨k,num,cs,rs,l,r,_⟩:=t
  obtain⟨a1,a2,a3,a4,a5,a6,_⟩:=h4
  simp only at a1 a2 a3 a4 a5 a6
  subst a5 a6
  have b3:¬(k>=10):=by omega
  have b9:¬(k=9):=by omega
  by_cases c1:2<=k/\k<=5
  ·have c2:¬(k=6\/k=7):=by omega
   have c3:k≠8:=by omega
   rw[a3 c2,a4 c3]
   simp[c1,c2,c3,b9]
  ·rw[a2 c1]
   by_cases c2:k=6\/k=7
   ·have c3:k≠8:=by omega
    rw[a4 c3]
    simp[c1,c2,c3,b9]
   ·rw[a3 c2]
    by_cases c3:k=8
    ·subst c3;simp
    ·rw[a4 c3]
     simp[c1,c2,c3,b9]
 ·rw[h5]
  simp
 ·rw[h5]
  rcases hc with rfl|rfl<;>simp
def zL(t:bn):Prop:=(t.1=2->t.2.1=1\/t.2.1=2\/t.2.1=4\/t.2.1=8)/\((t.1=3\/t.1=4)->0<=t.2.1/\t.2.1<=9999)/\(t.1=5->0<=t.2.1/\t.2.1<=400)
instance (t:bn):Decidable (zL t):=by unfold zL;infer_instance
def yP(t:bn):Prop:=(t.1=6\/t.1=7)->wu t.2.2.1
instance (t:bn):Decidable (yP t):=by unfold yP;infer_instance
theorem Qd(t:bn):aO t↔zL t/\yP t/\(t.1=8->fR t.2.2.2.1=0):=by
 unfold wU.aO zL yP
 exact⟨λh=>⟨⟨h.1,h.2.1,h.2.2.1⟩,h.2.2.2.1,h.2.2.2.2⟩,λh=>⟨h.1.1,h.1.2.1,h.1.2.2,h.2.1,h.2.2⟩⟩
theorem isNum{n:Nat}(t:bn):Ga n t=some (decide (zL t),()):=by
 unfold Ga Gg zL
 simp only[jY.within,bf]
 by_cases c2:t.1=2
 ·by_cases d1:t.2.1=1
  ·simp[c2,d1]
  ·by_cases d2:t.2.1=2
   ·simp[c2,d2]
   ·by_cases d3:t.2.1=4<;>simp[c2,d1,d2,d3]
 ·by_cases c3:t.1=3
  ·simp[c3]
  ·by_cases c4:t.1=4
   ·simp[c4]
   ·by_cases c5:t.1=5
    ·simp[c5]
    ·simp[c2,c3,c4,c5]
theorem adZ{n:Nat}(c:Int):Cz n c=some (decide (¬good c),()):=by
 unfold Cz good
 simp only[jY.WH,bf]
 by_cases c1:iP c
 ·by_cases c2:c<33
  ·have:¬33<=c:=by omega
   simp[c1,c2,this]
  ·have:33<=c:=by omega
   by_cases c3:c=127<;>simp[c1,c2,c3,this]
 ·simp[c1]
theorem adL{n:Nat}{cs:List Int}(hl:cs.length<n)(hl2:cs.length<=1048576):Gw n cs=some (decide (¬∀c∈cs,good c),()):=by
 unfold Gw K3
 have e:=pK (B:=λL1 (v1:(List Int)×ay)=>(if decide (v1.2.2.1<v1.2.1)=true then(if aX v1.2.2.1 v1.1.length then((Cz n (v1.1.getD v1.2.2.1.toNat (0:Int))).bind λr2=>(if r2.1=true then some (v1.2.2.1,())else L1 (v1.1,v1.2.1,IntKind.i64.wrap (v1.2.2.1+(1:Int)),())))else none)else some ((-1:Int),()))) (n:=n) (v0:=(cs,(cs.length:Int),(0:Int),())) (λi=>(cs,(cs.length:Int),(i:Int),())) (λi=>if ¬good (cs.getD i 0)then some (some ((i:Int),()))else none) (some (-1,())) (m:=cs.length) rfl (by omega) (by
  intro L i hi _
  simp only[ou,hi,cB,bQ,ig hi,kJ,kY hi (by omega),adZ,bf,bN]
  split<;>rfl) (by intro L _;simp)
 rw[e]
 rcases y7 (p:=λi=>¬good (cs.getD i 0)) (r:=λi:Nat=>some ((i:Int),())) (fin:=some ((-1:Int),())) (m:=cs.length) (i:=0)with⟨j,_,h2,h3,h4⟩|⟨h1,h2⟩
 ·rw[h4]
  simp only[bf]
  congr 2
  refine uE.2 ⟨λ_ h=>h3 (H_.1 h j (by omega)),λ_=>by omega⟩
 ·rw[h2]
  simp only[bf]
  congr 2
  refine uE.2 ⟨λh=>absurd h (by decide),λh=>absurd (H_.2 λi hi=>Classical.not_not.1 (h1 i (dY _) (by omega))) h⟩
theorem adQ{n:Nat}{t:bn}(hl:t.2.2.1.length<=1048576)(hn:1048600<n):F_ n t=some (decide (yP t),()):=by
 unfold F_ yP KY
 simp only[nK.ze,jY.within,bf,adL (n:=n) (cs:=t.2.2.1) (by omega) hl]
 by_cases h:t.1=6\/t.1=7
 ·simp only[h,cB,iM,bY,bO,true_implies]
  by_cases h2:1<=t.2.2.1.length/\t.2.2.1.length<=20
  ·have h2':1<=(t.2.2.1.length:Int)/\(t.2.2.1.length:Int)<=20:=by omega
   simp only[h2',and_self,cB,bQ]
   congr 2
   unfold wu
   simp only[h2,and_self,true_and,decide_not,Bool.not_not]
   rfl
  ·have h2':¬(1<=(t.2.2.1.length:Int)/\(t.2.2.1.length:Int)<=20):=by omega
   simp only[h2',dL,bY,bO]
   congr 2
   symm
   rw[decide_eq_false_iff_not]
   exact λh3=>h2 h3.1
 ·simp[h]
def sz(ss:List Nat)(i:Nat):List Int:=(ss.take i).map λn:Nat=>(n:Int)
theorem aaD{ss:List Nat}{i:Nat}(h:i<=ss.length):(sz ss i).length=i:=by unfold sz;simp;omega
theorem Kg{ss:List Nat}{i j:Nat}(h:j<i)(h2:i<=ss.length):(sz ss i).getD j 0=(ss.getD j 0:Int):=by
 unfold sz
 rw[gy,gy,CY,CZ h,gK (show j<ss.length by omega)]
 rfl
theorem aoB{ss:List Nat}{i:Nat}(h:i<ss.length):sz ss (i+1)=sz ss i++[(ss.getD i 0:Int)]:=by
 unfold sz
 rw[GX h,Aj,gy,gK h]
 rfl
theorem TD{ts:List bn}{ss:List Nat}(h:Str ts ss)(h0:0<ts.length)(hlast:ss.getD (ts.length-1) 0=ts.length){n:Nat}(hn:1048600<n)(hl:ts.length<=12):∃c,z_ n ts=some (c,())/\(c=0↔∀t∈ts,aO t):=by
 unfold z_
 have h1:1<=(ts.length:Int)/\(ts.length:Int)<=12:=by omega
 simp only[nK.pG,bf,jY.within,h1,and_self,cB,iM,bY,bO]
 obtain⟨c,hc1,hc2⟩:=aaK (ts:=ts) 0
 have hsl:=h.1
 refine⟨c,Eq.trans (pK (λi=>(ts,ts,(ts.length:Int),(i:Int),sz ss i,())) (λi=>if ¬aO (ts.getD i aJ)then some (some (vC (ts.getD i aJ),()))else none) (some (0,())) (m:=ts.length) rfl (by omega) ?_ ?_) hc1,hc2 rfl⟩
 ·intro L i hi _
  have hk:1<=(ts.getD i aJ).1/\(ts.getD i aJ).1<=11:=by
   rcases h.2 i hi with⟨h4,h5⟩|⟨h4,h5,h6⟩|⟨h4,⟨c,hc,h5⟩,h6,h7⟩
   ·have:=h4.1;omega
   ·rw[h5];simp
   ·rw[h5];simp;omega
  have hlen:(sz ss i).length=i:=aaD (by omega)
  simp only[ou,hi,cB,bQ,ig hi,kJ,hk,and_self,bf,iM,bY,bO,ain h hi,isNum,adQ (h.codes hi) hn,kY hi (by omega),vB.Ty (n:=n) (by omega)]
  have tail:aO (ts.getD i aJ)->(if decide ((ts.getD i aJ).1=(9:Int))=true then(if decide ((i:Int)=(0:Int))=true then some ((1:Int),())else(if(!decide ((ts.getD i aJ).2.2.2.2.1=(IntKind.i64.wrap ((i:Int)-(1:Int)))))=true then some ((1:Int),())else(if aX (IntKind.i64.wrap ((i:Int)-(1:Int))) (sz ss i).length then(if((sz ss i).length+[IntKind.i64.wrap ((1:Int)+((sz ss i).getD (IntKind.i64.wrap ((i:Int)-(1:Int))).toNat (0:Int)))].length)*8<=140737488355328 then L (ts,ts,(ts.length:Int),((i+1:Nat):Int),sz ss i++[IntKind.i64.wrap ((1:Int)+((sz ss i).getD (IntKind.i64.wrap ((i:Int)-(1:Int))).toNat (0:Int)))],())else none)else none)))else(if decide ((ts.getD i aJ).1>(9:Int))=true then(if decide ((i:Int)<(2:Int))=true then some ((1:Int),())else(if(!decide ((ts.getD i aJ).2.2.2.2.2.1=(IntKind.i64.wrap ((i:Int)-(1:Int)))))=true then some ((1:Int),())else(if decide ((ts.getD i aJ).2.2.2.2.1<(0:Int))=true then some ((1:Int),())else(if aX (IntKind.i64.wrap ((i:Int)-(1:Int))) (sz ss i).length then(if(!decide ((ts.getD i aJ).2.2.2.2.1=(IntKind.i64.wrap ((IntKind.i64.wrap ((i:Int)-(1:Int)))-((sz ss i).getD (IntKind.i64.wrap ((i:Int)-(1:Int))).toNat (0:Int))))))=true then some ((1:Int),())else(if aX (IntKind.i64.wrap ((i:Int)-(1:Int))) (sz ss i).length then(if aX ((ts.getD i aJ).2.2.2.2.1) (sz ss i).length then(if((sz ss i).length+[IntKind.i64.wrap ((1:Int)+(IntKind.i64.wrap (((sz ss i).getD (IntKind.i64.wrap ((i:Int)-(1:Int))).toNat (0:Int))+((sz ss i).getD ((ts.getD i aJ).2.2.2.2.1).toNat (0:Int)))))].length)*8<=140737488355328 then L (ts,ts,(ts.length:Int),((i+1:Nat):Int),sz ss i++[IntKind.i64.wrap ((1:Int)+(IntKind.i64.wrap (((sz ss i).getD (IntKind.i64.wrap ((i:Int)-(1:Int))).toNat (0:Int))+((sz ss i).getD ((ts.getD i aJ).2.2.2.2.1).toNat (0:Int)))))],())else none)else none)else none))else none))))else(if((sz ss i).length+[(1:Int)].length)*8<=140737488355328 then L (ts,ts,(ts.length:Int),((i+1:Nat):Int),sz ss i++[(1:Int)],())else none)))=L (ts,ts,(ts.length:Int),((i+1:Nat):Int),sz ss (i+1),()):=by
   intro _
   rw[aoB (show i<ss.length by omega)]
   have ew:1<=i->IntKind.i64.wrap ((i:Int)-1)=((i-1:Nat):Int):=λh=>by rw[wrap_i64 (by omega) (by omega)];omega
   rcases h.2 i hi with⟨h4,h5⟩|⟨h4,h5,h6⟩|⟨h4,⟨c,hc,h5⟩,h6,h7⟩
   ·have:=h4.1
    rw[aj (by rw[bN];omega),aj (by rw[bN];omega),ak (by rw[hlen];simp;omega),h5]
    rfl
   ·have hb:=h.pos (show i-1<ts.length by omega)
    have ev:IntKind.i64.wrap ((1:Int)+(ss.getD (i-1) 0:Int))=(ss.getD i 0:Int):=by rw[wrap_i64 (by omega) (by omega)];omega
    rw[h5,ak (by show decide ((9:Int)=9)=true;decide),aj (by rw[bN];omega),ew h4,aj (by simp),kJ,Kg (show i-1<i by omega) (by omega),ev,ak (by rw[hlen];exact ig (by omega)),ak (by rw[hlen];simp;omega)]
   ·have hb:=h.pos (show i-1<ts.length by omega)
    have hb2:=h.pos (show i-1-ss.getD (i-1) 0<ts.length by omega)
    have ev:IntKind.i64.wrap ((ss.getD (i-1) 0:Int)+(ss.getD (i-1-ss.getD (i-1) 0) 0:Int))=(((ss.getD (i-1) 0)+(ss.getD (i-1-ss.getD (i-1) 0) 0):Nat):Int):=by rw[wrap_i64 (by omega) (by omega)];omega
    have ry:IntKind.i64.wrap ((1:Int)+(((ss.getD (i-1) 0)+(ss.getD (i-1-ss.getD (i-1) 0) 0):Nat):Int))=(ss.getD i 0:Int):=by rw[wrap_i64 (by omega) (by omega)];omega
    have el:IntKind.i64.wrap (((i-1:Nat):Int)-(ss.getD (i-1) 0:Int))=((i-1-ss.getD (i-1) 0:Nat):Int):=by rw[wrap_i64 (by omega) (by omega)];omega
    rw[h5,aj (by rw[bN];simp only[];omega),ak (by rw[bN];simp only[];omega),aj (by rw[bN];omega),ew (by omega)]
    simp only[kJ,Kg (show i-1<i by omega) (show i<=ss.length by omega),Kg (show i-1-ss.getD (i-1) 0<i by omega) (show i<=ss.length by omega),el,ev,ry]
    rw[aj (by simp),aj (by rw[bN];omega),ak (by rw[hlen];exact ig (by omega)),aj (by simp),ak (by rw[hlen];exact ig (by omega)),ak (by rw[hlen];exact ig (by omega)),ak (by rw[hlen];simp;omega)]
  by_cases hn1:zL (ts.getD i aJ)
  ·by_cases hc1:yP (ts.getD i aJ)
   ·simp only[hn1,hc1,cB,iM,bY,bO]
    by_cases c8:(ts.getD i aJ).1=8
    ·simp only[c8,cB,bQ]
     by_cases hf:fR (ts.getD i aJ).2.2.2.1=0
     ·have ho:aO (ts.getD i aJ):=(Qc c8).2 hf
      have zy:=tail ho
      simp only[c8]at zy
      simp only[hf,cB,iM,bY,bO,ho,not_true_eq_false]
      exact zy
     ·have ho:¬aO (ts.getD i aJ):=λh=>hf ((Qc c8).1 h)
      have e:vC (ts.getD i aJ)=fR (ts.getD i aJ).2.2.2.1:=by unfold vC;rw[aj ho,ak c8]
      simp only[hf,dL,mq,bQ,ho,not_false_eq_true,e]
    ·have ho:aO (ts.getD i aJ):=(Qd _).2 ⟨hn1,hc1,λh=>absurd h c8⟩
     have zy:=tail ho
     simp only[c8,dL,bY,bO,ho,not_true_eq_false]
     exact zy
   ·have ho:¬aO (ts.getD i aJ):=λh=>hc1 ((Qd _).1 h).2.1
    have c8:¬(ts.getD i aJ).1=8:=λh=>hc1 λh2=>by omega
    have e:vC (ts.getD i aJ)=3:=by unfold vC;rw[aj ho,aj c8]
    simp only[hn1,hc1,cB,dL,iM,mq,bY,bO,bQ,ho,not_false_eq_true,e]
  ·have ho:¬aO (ts.getD i aJ):=λh=>hn1 ((Qd _).1 h).1
   have c8:¬(ts.getD i aJ).1=8:=λh=>hn1 ⟨λh2=>by omega,λh2=>by omega,λh2=>by omega⟩
   have e:vC (ts.getD i aJ)=3:=by unfold vC;rw[aj ho,aj c8]
   simp only[hn1,dL,mq,bQ,ho,not_false_eq_true,e]
 ·intro L _
  have hlen:(sz ss ts.length).length=ts.length:=aaD (by omega)
  have ew:IntKind.i64.wrap ((ts.length:Int)-1)=((ts.length-1:Nat):Int):=by rw[wrap_i64 (by omega) (by omega)];omega
  simp only[K9,dL,bY,bO,ew,kJ,Kg (show ts.length-1<ts.length by omega) (show ts.length<=ss.length by omega),hlast,bf,cB,iM]
  rw[ak (by rw[hlen];exact ig (by omega))]
end Go.Proofs.YtgppmpedglhhfaaGreatDoor.LC
