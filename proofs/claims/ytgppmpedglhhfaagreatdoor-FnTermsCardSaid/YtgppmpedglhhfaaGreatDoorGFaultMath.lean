/- The faults of any terms: both sides tell the same code; without a fault they are a tree's. -/
import Derived.Test.YtgppmpedglhhfaaGreatDoorPtLibMath
namespace Go.Proofs.YtgppmpedglhhfaaGreatDoor.YK
open Go Ow nL nM jC oW vK sD Ai
def lV(m:Nat)(ts:List aa)(ss:List Nat):Prop:=ss.length=m/\m<=ts.length/\∀i,i<m->node ts ss i
theorem lV.bound{m:Nat}{ts:List aa}{ss:List Nat}(h:lV m ts ss):∀(k i:Nat),i<k->i<m->1<=ss.getD i 0/\ss.getD i 0<=i+1:=by
 intro k
 induction k with
 |zero=>intro i h1;omega
 |succ k ih=>
  intro i h1 h2
  rcases h.2.2 i h2 with⟨_,h3⟩|⟨h3,_,h4⟩|⟨h3,_,h4,h5⟩
  ·omega
  ·have:=ih (i-1) (by omega) (by omega)
   omega
  ·have a1:=ih (i-1) (by omega) (by omega)
   have a2:=ih (i-1-ss.getD (i-1) 0) (by omega) (by omega)
   omega
theorem lV.pos{m:Nat}{ts:List aa}{ss:List Nat}(h:lV m ts ss){i:Nat}(hi:i<m):1<=ss.getD i 0/\ss.getD i 0<=i+1:=h.bound (i+1) i (by omega) hi
theorem aaZ{m:Nat}{ts:List aa}{ss:List Nat}(h:lV m ts ss):∀(k i n:Nat),i<k->i<n->i<m->vo n ts (i:Int)=some (((i+1-ss.getD i 0:Nat):Int),()):=by
 intro k
 induction k with
 |zero=>intro i n h1;omega
 |succ k ih=>
  intro i n h1 h2 h3
  obtain⟨n,rfl⟩:∃j,n=j+1:=⟨n-1,by omega⟩
  have hlt:i<ts.length:=by have:=h.2.1;omega
  unfold vo
  rw[aj (fu hlt),iw]
  rcases h.2.2 i h3 with⟨h4,h5⟩|⟨h4,h5,h6⟩|⟨h4,⟨c,hc,h5⟩,h6,h7⟩
  ·rw[ah (by rw[bF];have:=h4.1;omega),h5]
   simp
  ·rw[h5,aj (by show decide ((9:Int)>=9)=true;decide),aj (fu hlt)]
   simp only[]
   rw[ih (i-1) n (by omega) (by omega) (by omega)]
   simp only[aQ]
   rw[h6]
   congr 3
   omega
  ·rw[h5,aj (by rw[bF];simp only[];omega),aj (fu hlt)]
   simp only[]
   rw[ih (i-1-ss.getD (i-1) 0) n (by omega) (by omega) (by omega)]
   simp only[aQ]
   rw[h7]
   have:=h.pos (show i-1-ss.getD (i-1) 0<m by omega)
   congr 3
   omega
theorem aw5{ts:List aa}{ss:List Nat}{s i:Nat}(h1:i<ss.length):node ts (ss++[s]) i↔node ts ss i:=by
 unfold node
 rw[o_ (show i<ss.length by omega),o_ (show i-1<ss.length by omega),o_ (show i-1-ss.getD (i-1) 0<ss.length by omega)]
theorem lV.snoc{m:Nat}{ts:List aa}{ss:List Nat}{s:Nat}(h:lV m ts ss)(hm:m<ts.length)(hn:node ts (ss++[s]) m):lV (m+1) ts (ss++[s]):=by
 obtain⟨h1,h2,h3⟩:=h
 refine⟨by simp[h1],hm,λi hi=>?_⟩
 by_cases e:i=m
 ·rw[e];exact hn
 ·exact(aw5 (by omega)).2 (h3 i (by omega))
def BO(t:aa):Prop:=((2<=t.1/\t.1<=5)\/t.2.1=0)/\((t.1=6\/t.1=7)\/t.2.2.1=[])/\(t.1=8\/t.2.2.2.1=[])/\(t.1>=9\/t.2.2.2.2.1=0)/\(t.1>=10\/t.2.2.2.2.2.1=0)
instance (t:aa):Decidable (BO t):=by unfold BO;infer_instance
def vU(t:aa):Prop:=(1<=t.1/\t.1<=11)/\BO t
instance (t:aa):Decidable (vU t):=by unfold vU;infer_instance
theorem awr{A:Type}{l:List A}:((l.length:Int)=0)↔l=[]:=by
 cases l<;>simp<;>omega
theorem aws{A:Type}{l:List A}:((l.length:Int)>0)↔l≠[]:=by
 cases l<;>simp<;>omega
theorem axe{n:Nat}(t:aa):Cs n t=some (decide (BO t),()):=by
 unfold Cs
 obtain⟨k,num,cs,rs,l,r,_⟩:=t
 simp only[lu.hasNum,lu.yP,aQ,bF,awr]
 unfold BO
 simp only
 by_cases c1:2<=k/\k<=5
 ·have e2:¬(k=6\/k=7):=by omega
  have e3:¬k=8:=by omega
  have e4:¬k>=10:=by omega
  have e5:¬k=9:=by omega
  have e6:¬k>=9:=by omega
  by_cases d1:cs=[]<;>by_cases d2:rs=[]<;>by_cases d3:l=0<;>simp[c1,e2,e3,e4,e5,e6,d1,d2,d3]
 ·by_cases c2:k=6\/k=7
  ·have e3:¬k=8:=by omega
   have e4:¬k>=10:=by omega
   have e5:¬k=9:=by omega
   have e6:¬k>=9:=by omega
   by_cases d1:num=0<;>by_cases d2:rs=[]<;>by_cases d3:l=0<;>simp[c1,c2,e3,e4,e5,e6,d1,d2,d3]
  ·by_cases c3:k=8
   ·subst c3
    by_cases d1:num=0<;>by_cases d2:cs=[]<;>by_cases d3:l=0<;>simp[d1,d2,d3]
   ·by_cases c4:k>=10
    ·have e6:k>=9:=by omega
     by_cases d1:num=0<;>by_cases d2:cs=[]<;>by_cases d3:rs=[]<;>simp[c1,c2,c3,c4,e6,d1,d2,d3]
    ·by_cases c5:k=9
     ·subst c5
      by_cases d1:num=0<;>by_cases d2:cs=[]<;>by_cases d3:rs=[]<;>simp[d1,d2,d3]
     ·have e6:¬k>=9:=by omega
      by_cases d1:num=0<;>by_cases d2:cs=[]<;>by_cases d3:rs=[]<;>by_cases d4:l=0<;>simp[c1,c2,c3,c4,c5,e6,d1,d2,d3,d4]
theorem aos{n:Nat}(t:aa):Cy n t=some (decide (vU t),()):=by
 unfold Cy
 obtain⟨k,num,cs,rs,l,r,_⟩:=t
 simp only[jC.uK,OE,wu,aQ,bF,aws]
 unfold vU BO
 simp only
 by_cases c0:1<=k/\k<=11
 ·by_cases c1:2<=k/\k<=5
  ·have e2:¬(k=6\/k=7):=by omega
   have e3:¬k=8:=by omega
   have e4:¬k>=10:=by omega
   have e5:¬(k=10\/k=11):=by omega
   have e6:¬k>=9:=by omega
   by_cases d1:cs=[]<;>by_cases d2:rs=[]<;>by_cases d3:r=0<;>simp[c0,c1,e2,e3,e4,e5,e6,d1,d2,d3]
  ·by_cases c2:k=6\/k=7
   ·have e3:¬k=8:=by omega
    have e4:¬k>=10:=by omega
    have e5:¬(k=10\/k=11):=by omega
    have e6:¬k>=9:=by omega
    by_cases d1:num=0<;>by_cases d2:rs=[]<;>by_cases d3:r=0<;>simp[c0,c1,c2,e3,e4,e5,e6,d1,d2,d3]
   ·by_cases c3:k=8
    ·subst c3
     by_cases d1:num=0<;>by_cases d2:cs=[]<;>by_cases d3:r=0<;>simp[d1,d2,d3]
    ·by_cases c4:k>=10
     ·have e5:k=10\/k=11:=by omega
      have e6:k>=9:=by omega
      by_cases d1:num=0<;>by_cases d2:cs=[]<;>by_cases d3:rs=[]<;>simp[c0,c1,c2,c3,c4,e5,e6,d1,d2,d3]
     ·by_cases c5:k=9
      ·subst c5
       by_cases d1:num=0<;>by_cases d2:cs=[]<;>by_cases d3:rs=[]<;>by_cases d4:r=0<;>simp[d1,d2,d3,d4]
      ·have e5:¬(k=10\/k=11):=by omega
       have e6:¬k>=9:=by omega
       by_cases d1:num=0<;>by_cases d2:cs=[]<;>by_cases d3:rs=[]<;>by_cases d4:r=0<;>simp[c0,c1,c2,c3,c4,e5,e6,d1,d2,d3,d4]
 ·simp[c0]
theorem ayr{ts:List aa}{ss:List Nat}(h:Str ts ss):∀(k i:Nat),i<k->i<ts.length->∃tr,kH tr/\size tr=ss.getD i 0/\(ts.take (i+1)).drop (i+1-ss.getD i 0)=bD (i+1-ss.getD i 0) tr:=by
 intro k
 induction k with
 |zero=>intro i h1;omega
 |succ k ih=>
  intro i h1 h2
  have hp:=h.pos h2
  have hcut:∀a,a<=i->(ts.take (i+1)).drop a=(ts.take i).drop a++[ts.getD i aA]:=by
   intro a ha
   rw[Gp h2,List.drop_append_of_le_length (by simp;omega),eP,fG h2]
   rfl
  rcases h.2 i h2 with⟨h4,h5⟩|⟨h4,h5,h6⟩|⟨h4,⟨c,hc,h5⟩,h6,h7⟩
  ·refine⟨.leaf (ts.getD i aA),h4,h5.symm,?_⟩
   rw[h5,hcut _ (by omega)]
   simp[bD]
  ·obtain⟨tr,g1,g2,g3⟩:=ih (i-1) (by omega) (by omega)
   have hp1:=h.pos (show i-1<ts.length by omega)
   refine⟨.one tr,g1,by simp only[size];omega,?_⟩
   have ea:i+1-ss.getD i 0=i-1+1-ss.getD (i-1) 0:=by omega
   rw[hcut _ (by omega),ea,show ts.take i=ts.take (i-1+1) by rw[Nat.sub_add_cancel h4],g3,h5]
   simp only[bD]
   rw[show i-1+1-ss.getD (i-1) 0+size tr-1=i-1 by omega]
  ·have hp1:=h.pos (show i-1<ts.length by omega)
   have hp2:=h.pos (show i-1-ss.getD (i-1) 0<ts.length by omega)
   obtain⟨tb,g1,g2,g3⟩:=ih (i-1) (by omega) (by omega)
   obtain⟨ta,k1,k2,k3⟩:=ih (i-1-ss.getD (i-1) 0) (by omega) (by omega)
   refine⟨.two c ta tb,⟨hc,k1,g1⟩,by simp only[size];omega,?_⟩
   have ea:i+1-ss.getD i 0=i-1-ss.getD (i-1) 0+1-ss.getD (i-1-ss.getD (i-1) 0) 0:=by omega
   have eb:i-1+1-ss.getD (i-1) 0=i+1-ss.getD i 0+size ta:=by omega
   have ew:(ts.take i).drop (i+1-ss.getD i 0)=bD (i+1-ss.getD i 0) ta++bD (i+1-ss.getD i 0+size ta) tb:=by
    rw[<-eb,<-g3,show i-1+1=i by omega]
    rw[ea,<-k3]
    rw[<-ea]
    have e1:ts.take (i-1-ss.getD (i-1) 0+1)=(ts.take i).take (i-ss.getD (i-1) 0):=by
     rw[List.take_take,Nat.min_eq_left (by omega)]
     congr 1
     omega
    rw[e1]
    have hd:i+1-ss.getD i 0<=i-ss.getD (i-1) 0:=by omega
    conv=>lhs;rw[<-Ab (i-ss.getD (i-1) 0) (ts.take i)]
    rw[List.drop_append_of_le_length (by rw[wP,wP];omega)]
   rw[hcut _ (by omega),ew,h5]
   simp only[bD]
   rw[show i+1-ss.getD i 0+size ta-1=i-1-ss.getD (i-1) 0 by omega,show i+1-ss.getD i 0+size ta+size tb-1=i-1 by omega]
theorem axO{ts:List aa}{ss:List Nat}(h:Str ts ss)(h0:0<ts.length)(hlast:ss.getD (ts.length-1) 0=ts.length):∃tr,kH tr/\size tr=ts.length/\ts=bD 0 tr:=by
 obtain⟨tr,g1,g2,g3⟩:=ayr h ts.length (ts.length-1) (by omega) (by omega)
 refine⟨tr,g1,by omega,?_⟩
 rw[hlast,show ts.length-1+1=ts.length by omega,Ad,QG,vD]at g3
 exact g3
theorem nd{p:Prop}[Decidable p](h:p):¬((!decide p)=true):=by simp[h]
theorem pd{p:Prop}[Decidable p](h:¬p):(!decide p)=true:=by simp[h]
theorem nf{p:Prop}[Decidable p](h:¬p):¬(decide p=true):=by simp[h]
def jX(t:aa)(ss:List Nat)(i:Nat):Prop:=vU t/\aN t/\(t.1=9->1<=i/\t.2.2.2.2.1=(i:Int)-1)/\
 (t.1>=10->2<=i/\t.2.2.2.2.2.1=(i:Int)-1/\0<=t.2.2.2.2.1/\t.2.2.2.2.1=(i:Int)-1-(ss.getD (i-1) 0:Int))
instance (t:aa)(ss:List Nat)(i:Nat):Decidable (jX t ss i):=by unfold jX;infer_instance
def cI(t:aa):Int:=if ¬vU t then 1 else if ¬aN t then vC t else 1
def sI(t:aa)(ss:List Nat)(i:Nat):Nat:=if t.1=9 then ss.getD (i-1) 0+1 else if t.1>9 then ss.getD (i-1) 0+ss.getD (i-1-ss.getD (i-1) 0) 0+1 else 1
theorem amu(t:aa):cI t≠0:=by
 unfold cI
 split
 ·decide
 ·split
  ·rename_i h;exact λe=>h ((Ca _).1 e)
  ·decide
def qX(ss:List Nat):List Int:=ss.map λn:Nat=>(n:Int)
theorem aiG(ss:List Nat):(qX ss).length=ss.length:=by simp[qX]
theorem aiF{ss:List Nat}{j:Nat}:(qX ss).getD j 0=(ss.getD j 0:Int):=by
 unfold qX
 rw[eP,eP,CJ]
 cases ss[j]? <;> rfl
theorem ayu(ss:List Nat)(s:Nat):qX (ss++[s])=qX ss++[(s:Int)]:=by simp[qX]
theorem aw8{ts:List aa}{ss:List Nat}{i:Nat}(h:lV i ts ss)(hi:i<ts.length)(hcs:(ts.getD i aA).2.2.1.length<=1048576)(ho:jX (ts.getD i aA) ss i):lV (i+1) ts (ss++[sI (ts.getD i aA) ss i]):=by
 refine h.snoc hi ?_
 have hl:=h.1
 have e0:(ss++[sI (ts.getD i aA) ss i]).getD i 0=sI (ts.getD i aA) ss i:=by rw[<-hl,pq]
 unfold node
 rw[e0]
 obtain⟨⟨hk,o1,o2,o3,o4,o5⟩,hv,h9,h10⟩:=ho
 generalize ts.getD i aA=t at *
 obtain⟨k,num,cs,rs,l,r,_⟩:=t
 unfold sI
 simp only at *
 by_cases c9:k=9
 ·obtain⟨i1,i2⟩:=h9 c9
  refine .inr (.inl ⟨i1,?_,?_⟩)
  ·subst c9
   rw[o1.resolve_left (by omega),o2.resolve_left (by omega),o3.resolve_left (by omega),o5.resolve_left (by omega),i2]
   congr 5
   omega
  ·rw[o_ (show i-1<ss.length by omega),aj c9]
 ·by_cases c10:k>=10
  ·obtain⟨i1,i2,i3,i4⟩:=h10 c10
   have hp:=h.pos (show i-1<i by omega)
   refine .inr (.inr ⟨i1,⟨k.toNat,by omega,?_⟩,?_,?_⟩)
   ·rw[o1.resolve_left (by omega),o2.resolve_left (by omega),o3.resolve_left (by omega),o_ (show i-1<ss.length by omega),i2,i4]
    rw[show((k.toNat:Nat):Int)=k by omega,show(i:Int)-1-(ss.getD (i-1) 0:Int)=((i-1-ss.getD (i-1) 0:Nat):Int) by omega,show(i:Int)-1=((i-1:Nat):Int) by omega]
   ·rw[o_ (show i-1<ss.length by omega)];omega
   ·rw[o_ (show i-1<ss.length by omega),o_ (show i-1-ss.getD (i-1) 0<ss.length by omega),ah c9,aj (by omega)]
  ·refine .inl ⟨⟨by show 1<=k/\k<=8;omega,λh=>o1.resolve_left h,λh=>o2.resolve_left h,λh=>o3.resolve_left h,o4.resolve_left (by omega),o5.resolve_left (by omega),hcs⟩,by rw[ah c9,ah (by omega)]⟩
theorem al9{ts:List aa}{ss:List Nat}{i n:Nat}(h:lV i ts ss)(hi:i<ts.length)(hl:ts.length<=12)(hn:100<n)(hk:(ts.getD i aA).1<=11) :
  Cw n ts (i:Int)=some (decide (((ts.getD i aA).1=9->1<=i/\(ts.getD i aA).2.2.2.2.1=(i:Int)-1)/\((ts.getD i aA).1>=10->2<=i/\(ts.getD i aA).2.2.2.2.2.1=(i:Int)-1/\0<=(ts.getD i aA).2.2.2.2.1/\(ts.getD i aA).2.2.2.2.1=(i:Int)-1-(ss.getD (i-1) 0:Int))),()):=by
 unfold Cw
 rw[aj (fu hi),iw,wu]
 have ew:1<=i->IntKind.i64.wrap ((i:Int)-1)=(i:Int)-1:=λh=>wrap_i64 (by omega) (by omega)
 have ef:1<=i->vo n ts ((i:Int)-1)=some (((i-ss.getD (i-1) 0:Nat):Int),()):=λh1=>by
  have:=aaZ h i (i-1) n (by omega) (by omega) (by omega)
  rw[show((i-1:Nat):Int)=(i:Int)-1 by omega,show i-1+1=i by omega]at this
  exact this
 generalize ts.getD i aA=t at *
 by_cases c9:t.1=9
 ·have n10:¬t.1>=10:=by omega
  rw[aj (by simp[c9])]
  by_cases i1:1<=i
  ·rw[aj (by rw[bF];omega),ew i1]
   simp[c9,i1]
  ·rw[ah (by rw[bF];omega)]
   simp[c9,i1]
 ·rw[ah (by simp[c9])]
  by_cases c10:t.1>=10
  ·have e2:t.1=10\/t.1=11:=by omega
   simp only[aQ,e2,bY,gI,bP,bI]
   by_cases i1:2<=i
   ·have hp:=h.pos (show i-1<i by omega)
    rw[aj (by rw[bF];omega),ew (by omega),ef (by omega)]
    simp only[aQ]
    by_cases d1:t.2.2.2.2.2.1=(i:Int)-1
    ·rw[aj (by simp[d1])]
     by_cases d2:((i-ss.getD (i-1) 0:Nat):Int)>0
     ·rw[aj (by simpa using d2),wrap_i64 (by omega) (by omega)]
      congr 2
      refine uA.2 ⟨λe=>⟨λh=>absurd h c9,λ_=>⟨i1,d1,by omega,by omega⟩⟩,λe=>by have:=(e.2 c10).2.2;omega⟩
     ·rw[ah (by simpa using d2)]
      congr 2
      symm
      rw[decide_eq_false_iff_not]
      intro e
      have:=(e.2 c10).2.2
      omega
    ·rw[ah (by simp[d1])]
     congr 2
     symm
     rw[decide_eq_false_iff_not]
     exact λe=>d1 (e.2 c10).2.1
   ·rw[ah (by rw[bF];omega)]
    congr 2
    symm
    rw[decide_eq_false_iff_not]
    exact λe=>i1 (e.2 c10).1
  ·have e2:¬(t.1=10\/t.1=11):=by omega
   simp only[aQ,e2,dm,kr,bL]
   congr 2
   symm
   rw[bF]
   exact⟨λh=>absurd h c9,λh=>absurd h c10⟩
theorem amg{ts:List aa}(hcs:∀i,i<ts.length->(ts.getD i aA).2.2.1.length<=1048576){B1:(List aa×Int×Unit->Option (Int×Unit))->List aa×Int×Unit->Option (Int×Unit)}
  {B2:(List aa×List aa×Int×Int×List Int×Unit->Option (Int×Unit))->List aa×List aa×Int×Int×List Int×Unit->Option (Int×Unit)}
  (hA:∀L i ss,lV i ts ss->i<ts.length->B1 L (ts,(i:Int),())=if jX (ts.getD i aA) ss i then L (ts,((i+1:Nat):Int),())else some (cI (ts.getD i aA),()))
  (sO:∀L ss,lV ts.length ts ss->B1 L (ts,(ts.length:Int),())=some (if ss.getD (ts.length-1) 0=ts.length then 0 else 1,()))
  (hB:∀L i ss,lV i ts ss->i<ts.length->B2 L (ts,ts,(ts.length:Int),(i:Int),qX ss,())=if jX (ts.getD i aA) ss i then L (ts,ts,(ts.length:Int),((i+1:Nat):Int),qX (ss++[sI (ts.getD i aA) ss i]),())else some (cI (ts.getD i aA),()))
  (hB0:∀L ss,lV ts.length ts ss->B2 L (ts,ts,(ts.length:Int),(ts.length:Int),qX ss,())=some (if ss.getD (ts.length-1) 0=ts.length then 0 else 1,())) :
  ∀(e i N1 N2:Nat) (ss:List Nat),i+e=ts.length->e<N1->e<N2->lV i ts ss->∃c,rounds B1 N1 (ts,(i:Int),())=some (c,())/\rounds B2 N2 (ts,ts,(ts.length:Int),(i:Int),qX ss,())=some (c,())/\
   (c=0->∃ss',lV ts.length ts ss'/\ss'.getD (ts.length-1) 0=ts.length/\∀j,i<=j->j<ts.length->aN (ts.getD j aA)):=by
 intro e
 induction e with
 |zero=>
  intro i N1 N2 ss h1 h2 h3 h4
  obtain⟨N1,rfl⟩:∃j,N1=j+1:=⟨N1-1,by omega⟩
  obtain⟨N2,rfl⟩:∃j,N2=j+1:=⟨N2-1,by omega⟩
  obtain rfl:i=ts.length:=by omega
  refine⟨_,sO _ ss h4,hB0 _ ss h4,λhc=>⟨ss,h4,?_,λj h5 h6=>by omega⟩⟩
  split at hc
  ·assumption
  ·simp at hc
 |succ e ih=>
  intro i N1 N2 ss h1 h2 h3 h4
  obtain⟨N1,rfl⟩:∃j,N1=j+1:=⟨N1-1,by omega⟩
  obtain⟨N2,rfl⟩:∃j,N2=j+1:=⟨N2-1,by omega⟩
  have hi:i<ts.length:=by omega
  show ∃c,B1 (rounds B1 N1) _=_/\B2 (rounds B2 N2) _=_/\_
  rw[hA _ i ss h4 hi,hB _ i ss h4 hi]
  by_cases ho:jX (ts.getD i aA) ss i
  ·rw[aj ho,aj ho]
   obtain⟨c,k1,k2,k3⟩:=ih (i+1) N1 N2 _ (by omega) (by omega) (by omega) (aw8 h4 hi (hcs i hi) ho)
   refine⟨c,k1,k2,λhc=>?_⟩
   obtain⟨ss',j1,j2,j3⟩:=k3 hc
   refine⟨ss',j1,j2,λj h5 h6=>?_⟩
   by_cases ej:j=i
   ·subst ej;exact ho.2.1
   ·exact j3 j (by omega) h6
  ·rw[ah ho,ah ho]
   exact⟨_,rfl,rfl,λhc=>absurd hc (amu _)⟩
theorem OJ:∀(tr:Tr) (base:Nat),kH tr->(∀t∈bD base tr,aN t)->okV tr
 |.leaf t,base,_,h=>h t (by simp[bD])
 |.one a,base,hs,h=>OJ a base hs λt ht=>h t (by simp[bD,ht])
 |.two k a b,base,hs,h=>⟨OJ a base hs.2.1 λt ht=>h t (by simp[bD,ht]),OJ b (base+size a) hs.2.2 λt ht=>h t (by simp[bD,ht])⟩
theorem amf{ts:List aa}(hcs:∀i,i<ts.length->(ts.getD i aA).2.2.1.length<=1048576){B1:(List aa×Int×Unit->Option (Int×Unit))->List aa×Int×Unit->Option (Int×Unit)}
  {B2:(List aa×List aa×Int×Int×List Int×Unit->Option (Int×Unit))->List aa×List aa×Int×Int×List Int×Unit->Option (Int×Unit)}
  (hA:∀L i ss,lV i ts ss->i<ts.length->B1 L (ts,(i:Int),())=if jX (ts.getD i aA) ss i then L (ts,((i+1:Nat):Int),())else some (cI (ts.getD i aA),()))
  (sO:∀L ss,lV ts.length ts ss->B1 L (ts,(ts.length:Int),())=some (if ss.getD (ts.length-1) 0=ts.length then 0 else 1,()))
  (hB:∀L i ss,lV i ts ss->i<ts.length->B2 L (ts,ts,(ts.length:Int),(i:Int),qX ss,())=if jX (ts.getD i aA) ss i then L (ts,ts,(ts.length:Int),((i+1:Nat):Int),qX (ss++[sI (ts.getD i aA) ss i]),())else some (cI (ts.getD i aA),()))
  (hB0:∀L ss,lV ts.length ts ss->B2 L (ts,ts,(ts.length:Int),(ts.length:Int),qX ss,())=some (if ss.getD (ts.length-1) 0=ts.length then 0 else 1,())) {n:Nat} (hn:ts.length<n) (h0:0<ts.length) (hl:ts.length<=12) :
  ∃c,rounds B2 n (ts,ts,(ts.length:Int),(0:Int),[],())=some (c,())/\rounds B1 n (ts,(0:Int),())=some (c,())/\(c=0->∃tr,kH tr/\size tr<=12/\ts=bD 0 tr/\okV tr):=by
 obtain⟨c,k1,k2,k3⟩:=amg hcs hA sO hB hB0 ts.length 0 n n [] (by omega) (by omega) (by omega) ⟨rfl,dW _,λi hi=>by omega⟩
 refine⟨c,k2,k1,λhc=>?_⟩
 obtain⟨ss,j1,j2,j3⟩:=k3 hc
 obtain⟨tr,g1,g2,g3⟩:=axO ⟨j1.1,j1.2.2⟩ h0 j2
 refine⟨tr,g1,by omega,g3,OJ tr 0 g1 λt ht=>?_⟩
 rw[<-g3]at ht
 obtain⟨j,hj,rfl⟩:=List.getElem_of_mem ht
 have:=j3 j (dW _) hj
 rw[eP,fG hj]at this
 exact this
theorem faults{ts:List aa}(hcs:∀i,i<ts.length->(ts.getD i aA).2.2.1.length<=1048576){n:Nat}(hn:1048600<n) :
  ∃c,rY n ts=some (c,())/\vk n ts=some (c,())/\(c=0->∃tr,kH tr/\size tr<=12/\ts=bD 0 tr/\okV tr):=by
 unfold rY vk
 simp only[lu.nW,aQ,jC.within]
 by_cases h1:1<=(ts.length:Int)/\(ts.length:Int)<=12
 ·rw[ah (by simp[h1]),ah (by rw[bF];omega),ah (by rw[bF];omega)]
  have hl:ts.length<=12:=by omega
  refine amf hcs ?_ ?_ ?_ ?_ (by omega) (by omega) hl
  ·intro L i ss h hi
   simp only[qC,hi,bY,bL,fu hi,iw,aos,aQ,agE hn (hcs i hi),mR hi (by omega)]
   by_cases hf:vU (ts.getD i aA)
   ·rw[al9 h hi hl (by omega) hf.1.2]
    generalize ts.getD i aA=t at *
    by_cases ho:aN t
    ·have hv:=(Ca t).2 ho
     simp only[hf,hv,bY,gI,bP,bI,aQ]
     have e:jX t ss i↔((t.1=9->1<=i/\t.2.2.2.2.1=(i:Int)-1)/\(t.1>=10->2<=i/\t.2.2.2.2.2.1=(i:Int)-1/\0<=t.2.2.2.2.1/\t.2.2.2.2.1=(i:Int)-1-(ss.getD (i-1) 0:Int))):=⟨λh=>h.2.2,λh=>⟨hf,ho,h⟩⟩
     have ec:cI t=1:=by unfold cI;rw[ah (by simp[hf]),ah (by simp[ho])]
     simp only[<-e]
     by_cases hk:jX t ss i<;>simp[hk,ec]
    ·have hv:vC t≠0:=λe=>ho ((Ca t).1 e)
     have hk:¬jX t ss i:=λh=>ho h.2.1
     have ec:cI t=vC t:=by unfold cI;rw[ah (by simp[hf]),aj ho]
     simp[hf,hv,hk,ec]
   ·have hk:¬jX (ts.getD i aA) ss i:=λh=>hf h.1
    have ec:cI (ts.getD i aA)=1:=by unfold cI;rw[aj hf]
    rw[ah hk,ec]
    simp only[hf,dm,kr,bL]
  ·intro L ss h
   simp only[z8,dm,bP,bI]
   have hp:=h.pos (show ts.length-1<ts.length by omega)
   rw[show IntKind.i64.wrap ((ts.length:Int)-1)=((ts.length-1:Nat):Int) by rw[wrap_i64 (by omega) (by omega)];omega,aaZ h ts.length (ts.length-1) n (by omega) (by omega) (by omega)]
   simp only[aQ]
   by_cases he:ss.getD (ts.length-1) 0=ts.length
   ·rw[aj he,ah (by rw[he];simp;omega)]
   ·rw[ah he,aj (by simp only[jN,decide_eq_false_iff_not];omega)]
  ·intro L i ss h hi
   simp only[qC,hi,bY,bL,fu hi,iw,axe,aQ,isNum,ZU (hcs i hi) hn,mR hi (by omega),oW.QL (n:=n) (by omega),aiG,h.1,aiF,ayu]
   have ew:1<=i->IntKind.i64.wrap ((i:Int)-1)=((i-1:Nat):Int):=λh=>by rw[wrap_i64 (by omega) (by omega)];omega
   have hpos:=λj (hj:j<i)=>h.pos hj
   have hts:ts.length<=12:=hl
   by_cases hk:1<=(ts.getD i aA).1/\(ts.getD i aA).1<=11
   ·by_cases ho:BO (ts.getD i aA)
    ·have hf:vU (ts.getD i aA):=⟨hk,ho⟩
     by_cases v1:zq (ts.getD i aA)
     ·by_cases v2:yF (ts.getD i aA)
      ·simp only[hk,and_self,ho,v1,v2,bY,gI,bP,bI]
       by_cases c8:(ts.getD i aA).1=8
       ·have n9:¬(ts.getD i aA).1=9:=by omega
        have g9:¬(ts.getD i aA).1>9:=by omega
        by_cases hr:fR (ts.getD i aA).2.2.2.1=0
        ·have hok:jX (ts.getD i aA) ss i:=⟨hf,(tu c8).2 hr,λh=>absurd h n9,λh=>by omega⟩
         have es:sI (ts.getD i aA) ss i=1:=by unfold sI;rw[ah n9,ah g9]
         rw[aj hok,es,aj (Dh c8),ah (nd hr),ah (nf n9),ah (nf g9),aj (by simp;omega)]
         rfl
        ·have hv:¬aN (ts.getD i aA):=λh=>hr ((tu c8).1 h)
         have ec:cI (ts.getD i aA)=fR (ts.getD i aA).2.2.2.1:=by unfold cI vC;rw[ah (λq=>q hf),aj hv,ah hv,aj c8]
         rw[ah (show ¬jX (ts.getD i aA) ss i from λh=>hv h.2.1),ec,aj (Dh c8),aj (pd hr)]
       ·have hv:aN (ts.getD i aA):=(EZ (ts.getD i aA)).2 ⟨v1,v2,λh=>absurd h c8⟩
        have ec:cI (ts.getD i aA)=1:=by unfold cI;rw[ah (λq=>q hf),ah (λq=>q hv)]
        rw[ah (nf c8),ec]
        by_cases c9:(ts.getD i aA).1=9
        ·rw[aj (Dh c9)]
         by_cases i1:1<=i
         ·have hp:=hpos (i-1) (by omega)
          rw[ah (by rw[bF];omega),ew i1]
          by_cases d1:(ts.getD i aA).2.2.2.2.1=(i:Int)-1
          ·have hok:jX (ts.getD i aA) ss i:=⟨hf,hv,λ_=>⟨i1,d1⟩,λh=>by omega⟩
           have es:sI (ts.getD i aA) ss i=ss.getD (i-1) 0+1:=by unfold sI;rw[aj c9]
           rw[aj hok,es,ah (nd (by omega)),aj (fu (by omega)),aj (by simp;omega),iw,wrap_i64 (by omega) (by omega)]
           congr 9
           omega
          ·rw[ah (show ¬jX (ts.getD i aA) ss i from λh=>d1 (h.2.2.1 c9).2),aj (pd (by omega))]
         ·rw[aj (by rw[bF];omega),ah (show ¬jX (ts.getD i aA) ss i from λh=>i1 (h.2.2.1 c9).1)]
        ·rw[ah (nf c9)]
         by_cases c10:(ts.getD i aA).1>9
         ·have yE:(ts.getD i aA).1>=10:=by omega
          rw[aj (Dh c10)]
          by_cases i1:2<=i
          ·have hp:=hpos (i-1) (by omega)
           have hp2:=hpos (i-1-ss.getD (i-1) 0) (by omega)
           rw[ah (by rw[bF];omega),ew (by omega)]
           by_cases d1:(ts.getD i aA).2.2.2.2.2.1=(i:Int)-1
           ·rw[ah (nd (by omega))]
            by_cases d2:(ts.getD i aA).2.2.2.2.1<0
            ·rw[aj (Dh d2),ah (show ¬jX (ts.getD i aA) ss i from λh=>by have:=(h.2.2.2 yE).2.2.1;omega)]
            ·rw[ah (nf d2),aj (fu (by omega)),iw,wrap_i64 (x:=((i-1:Nat):Int)-_) (by omega) (by omega)]
             by_cases d3:(ts.getD i aA).2.2.2.2.1=(i:Int)-1-(ss.getD (i-1) 0:Int)
             ·have hok:jX (ts.getD i aA) ss i:=⟨hf,hv,λh=>absurd h c9,λ_=>⟨i1,d1,by omega,d3⟩⟩
              have es:sI (ts.getD i aA) ss i=ss.getD (i-1) 0+ss.getD (i-1-ss.getD (i-1) 0) 0+1:=by unfold sI;rw[ah c9,aj c10]
              have ed:(ts.getD i aA).2.2.2.2.1=((i-1-ss.getD (i-1) 0:Nat):Int):=by omega
              rw[aj hok,es,ah (nd (by omega)),aj (fu (by omega)),ed,aj (fu (by omega)),aj (by simp;omega),iw]
              rw[wrap_i64 (x:=(ss.getD (i-1) 0:Int)+_) (by omega) (by omega),wrap_i64 (by omega) (by omega)]
              congr 9
              omega
             ·rw[ah (show ¬jX (ts.getD i aA) ss i from λh=>d3 (h.2.2.2 yE).2.2.2),aj (pd (by omega))]
           ·rw[aj (pd (by omega)),ah (show ¬jX (ts.getD i aA) ss i from λh=>d1 (h.2.2.2 yE).2.1)]
          ·rw[aj (by rw[bF];omega),ah (show ¬jX (ts.getD i aA) ss i from λh=>i1 (h.2.2.2 yE).1)]
         ·have hok:jX (ts.getD i aA) ss i:=⟨hf,hv,λh=>absurd h c9,λh=>by omega⟩
          have es:sI (ts.getD i aA) ss i=1:=by unfold sI;rw[ah c9,ah c10]
          rw[aj hok,es,ah (nf c10),aj (by simp;omega)]
          rfl
      ·have hv:¬aN (ts.getD i aA):=λh=>v2 ((EZ (ts.getD i aA)).1 h).2.1
       have c8:¬(ts.getD i aA).1=8:=λh=>v2 λh2=>by omega
       have ec:cI (ts.getD i aA)=3:=by unfold cI vC;rw[ah (λq=>q hf),aj hv,ah hv,ah c8]
       simp only[hk,and_self,ho,v1,v2,bY,gI,bP,bI,dm,kr,bL,ec]
       rw[ah (show ¬jX (ts.getD i aA) ss i from λh=>hv h.2.1)]
     ·have hv:¬aN (ts.getD i aA):=λh=>v1 ((EZ (ts.getD i aA)).1 h).1
      have c8:¬(ts.getD i aA).1=8:=λh=>v1 ⟨λh2=>by omega,λh2=>by omega,λh2=>by omega⟩
      have ec:cI (ts.getD i aA)=3:=by unfold cI vC;rw[ah (λq=>q hf),aj hv,ah hv,ah c8]
      simp only[hk,and_self,ho,v1,bY,gI,bP,bI,dm,kr,bL,ec]
      rw[ah (show ¬jX (ts.getD i aA) ss i from λh=>hv h.2.1)]
    ·have hf:¬vU (ts.getD i aA):=λh=>ho h.2
     have ec:cI (ts.getD i aA)=1:=by unfold cI;rw[aj hf]
     simp only[hk,and_self,ho,bY,gI,bP,bI,dm,kr,bL,ec]
     rw[ah (show ¬jX (ts.getD i aA) ss i from λh=>hf h.1)]
   ·have hf:¬vU (ts.getD i aA):=λh=>hk h.1
    have ec:cI (ts.getD i aA)=1:=by unfold cI;rw[aj hf]
    simp only[hk,dm,kr,bL,ec]
    rw[ah (show ¬jX (ts.getD i aA) ss i from λh=>hf h.1)]
  ·intro L ss h
   simp only[z8,dm,bP,bI,aiG,h.1,aiF,lu.nW,aQ]
   have hp:=h.pos (show ts.length-1<ts.length by omega)
   rw[show IntKind.i64.wrap ((ts.length:Int)-1)=((ts.length-1:Nat):Int) by rw[wrap_i64 (by omega) (by omega)];omega,aj (fu (by omega)),iw]
   by_cases he:ss.getD (ts.length-1) 0=ts.length
   ·rw[aj he,ah (by rw[he];simp)]
   ·rw[ah he,aj (by simp only[jN,decide_eq_false_iff_not];omega)]
 ·have h2:ts.length<1\/12<ts.length:=by omega
  rw[aj (by simp[h1])]
  refine⟨2,rfl,?_,λh=>by simp at h⟩
  rcases h2 with h2|h2
  ·rw[aj (by rw[bF];omega)]
  ·rw[ah (by rw[bF];omega),aj (by rw[bF];omega)]
end Go.Proofs.YtgppmpedglhhfaaGreatDoor.YK
