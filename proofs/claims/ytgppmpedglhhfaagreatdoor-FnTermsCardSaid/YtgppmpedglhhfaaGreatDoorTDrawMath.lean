/- The draws of terms: each comes to its end; what is drawn is a right tree, or such a one bent. -/
import Derived.Test.YtgppmpedglhhfaaGreatDoorChrMath
namespace Go.Proofs.YtgppmpedglhhfaaGreatDoor.Zz
open Go Ow nL nM jC sF vB oW vK sD Ai FO
theorem ranges{n:Nat}{s:j_}{m:Int}(hs:jQ s m)(hm:m<=549755813888)(hn:10<n):Y (rZ n s) (m+20) (λl=>fR l=0):=by
 unfold rZ
 refine(next hs (by omega) (by omega) (by omega)).bind λr s1 h1 hr=>?_
 obtain⟨k,rfl⟩:=KY hr.1
 have e0:IntKind.i64.wrap (1+(k:Int))=((k+1:Nat):Int):=by rw[wrap_i64 (by omega) (by omega)];omega
 simp only[e0]
 refine cnt (N:=n) (k:=k+1) (λj (v:Int×j_×List aB×Unit)=>v.1=(j:Int)/\j<=k+1/\jQ v.2.1 (m+1+5*((k+1:Nat)-j))/\(∀r∈v.2.2.1,kE r)/\v.2.2.1.length+j=k+1) (λo:Option (List aB×j_×Unit)=>Y o (m+20) (λl=>fR l=0)) ?_ (by omega) ⟨rfl,bZ _,h1.up (by omega),λr hr=>by simp at hr,by simp⟩
 intro j L v ⟨e1,e2,e3,e4,e5⟩ hL
 refine Y.ite (λhc=>?_) (λhc=>Y.ret (e3.up (by omega)) ?_)
 ·have hc:v.1>0:=by simpa using hc
  refine(next e3 (by omega) (by omega) (by omega)).bind λr3 s3 h3 q3=>(next h3 (by omega) (by omega) (by omega)).bind λr4 s4 h4 q4=>?_
  have w3:IntKind.i64.wrap (1+r3)=1+r3:=wrap_i64 (by omega) (by omega)
  have w4:IntKind.i64.wrap (1+r4)=1+r4:=wrap_i64 (by omega) (by omega)
  simp only[w3,w4]
  refine(pick h4 (by omega) (by simp) (by simp)).bind λa s5 h5 q5=>(next h5 (by omega) (by omega) (by omega)).bind λr6 s6 h6 q6=>?_
  have w6:IntKind.i64.wrap (1+r6)=1+r6:=wrap_i64 (by omega) (by omega)
  simp only[w6]
  refine(pick h6 (by omega) (by simp) (by simp)).bind λb s7 h7 q7=>?_
  have ha:0<=a/\a<=999:=by
   simp only[bM,vF,or_false]at q5
   omega
  have hb:0<=b/\b<=999:=by
   simp only[bM,vF,or_false]at q7
   omega
  refine Y.yes (by simp;omega) (hL _ (j-1) (by omega) ⟨?_,by omega,h7.up (by omega),λr hr=>?_,?_⟩)
  ·show IntKind.i64.wrap (v.1-1)=_
   rw[wrap_i64 (by omega) (by omega)];omega
  ·rcases dh.1 hr with hr|hr
   ·exact e4 r hr
   ·simp only[gY]at hr
    subst hr
    exact⟨ha,hb⟩
  ·show(v.2.2.1++[_]).length+(j-1)=k+1
   simp;omega
 ·have hc:¬v.1>0:=by simpa using hc
  unfold fR
  rw[aj (by omega),aj e4]
theorem aam{r:Int}(h:0<=r/\r<4):uQ ([[(97:Int)],[(104:Int),(69:Int)],[(1078:Int)],[(228:Int)]].getD r.toNat []):=by
 obtain⟨k,rfl⟩:=KY h.1
 rw[iw]
 have:k<4:=by omega
 exact(show ∀k,k<4->uQ ([[(97:Int)],[(104:Int),(69:Int)],[(1078:Int)],[(228:Int)]].getD k []) by decide) k this
def BS(tr:Tr):Prop:=kH tr/\okV tr
theorem JI{k num:Int}{cs:List Int}{rs:List aB}(hk:1<=k/\k<=8)(h1:¬(2<=k/\k<=5)->num=0)(h2:¬(k=6\/k=7)->cs=[])(h3:k≠8->rs=[])(h4:cs.length<=1048576)(ho:aN (k,num,cs,rs,0,0,())):BS (.leaf (k,num,cs,rs,0,0,())):=
 ⟨⟨hk,h1,h2,h3,rfl,rfl,h4⟩,ho⟩
def qG(list:List aa)(d:Nat)(r:List aa):Prop:=∃tr,r=list++bD list.length tr/\BS tr/\size tr<=2 ^ (d+1)-1
theorem awV{list:List aa}{d:Nat}{t:aa}(h:BS (.leaf t)):qG list d (list++[t]):=⟨.leaf t,rfl,h,by
 have:2<=2 ^ (d+1):=by rw[Nat.pow_succ];have:=Nat.one_le_two_pow (n:=d);omega
 simp only[size];omega⟩
def bN:Nat->Int
 |0=>100
 |d+1=>2*bN d+100
theorem Z0:∀d,100<=bN d
 |0=>by simp[bN]
 |d+1=>by have:=Z0 d;simp only[bN];omega
theorem axa{num:Int}{cs:List Int}{rs:List aB}{l r:Int}:aN (1,num,cs,rs,l,r,()):=OT (by show ¬(2<=(1:Int)/\(1:Int)<=8);decide)
theorem JH{list:List aa}{d:Nat}{m M:Int}{s:j_}{k num:Int}{cs:List Int}{rs:List aB}(hs:jQ s m)(hm:m<=M)(hl:list.length<=100)(h:BS (.leaf (k,num,cs,rs,0,0,()))) :
  Y (if(list.length+[((k,num,cs,rs,0,0,()):aa)].length)*80<=140737488355328 then some (list++[(k,num,cs,rs,0,0,())],s,())else none) M (qG list d):=
 Y.yes (by simp;omega) (Y.ret (hs.up hm) (awV h))
theorem axd{list:List aa}{d:Nat}{M:Int}{s:j_}{r:List aa}(hs:jQ s M)(hl:list.length<=100)(hd:d<=1)(h:qG list d r) :
  Y (if(r.length+[((9,0,[],[],IntKind.i64.wrap ((r.length:Int)-1),0,()):aa)].length)*80<=140737488355328 then some (r++[(9,0,[],[],IntKind.i64.wrap ((r.length:Int)-1),0,())],s,())else none) M (qG list (d+1)):=by
 obtain⟨tr,e,⟨h1,h2⟩,h3⟩:=h
 have hp:=size_pos tr
 have h8:2 ^ (d+1)<=4:=Nat.pow_le_pow_right (by decide) (show d+1<=2 by omega)
 have hlen:r.length=list.length+size tr:=by rw[e,dI,jy]
 have ew:IntKind.i64.wrap ((r.length:Int)-1)=((list.length+size tr-1:Nat):Int):=by rw[hlen,wrap_i64 (by omega) (by omega)];omega
 refine Y.yes (by simp;omega) (Y.ret hs ⟨.one tr,?_,⟨h1,h2⟩,?_⟩)
 ·rw[ew,e];simp only[bD,eG]
 ·have:2 ^ (d+1+1)=2 ^ (d+1)*2:=Nat.pow_succ ..
  simp only[size];omega
theorem ayD{list:List aa}{d k:Nat}{M:Int}{s:j_}{r q:List aa}(hk:k=10\/k=11)(hs:jQ s M)(hl:list.length<=100)(hd:d<=1)(h:qG list d r)(h':qG r d q) :
  Y (if(q.length+[(((k:Int),0,[],[],IntKind.i64.wrap ((r.length:Int)-1),IntKind.i64.wrap ((q.length:Int)-1),()):aa)].length)*80<=140737488355328 then some (q++[((k:Int),0,[],[],IntKind.i64.wrap ((r.length:Int)-1),IntKind.i64.wrap ((q.length:Int)-1),())],s,())else none) M (qG list (d+1)):=by
 obtain⟨ta,e,⟨h1,h2⟩,h3⟩:=h
 obtain⟨tb,e',⟨h1',h2'⟩,h3'⟩:=h'
 have hp:=size_pos ta
 have hp':=size_pos tb
 have h8:2 ^ (d+1)<=4:=Nat.pow_le_pow_right (by decide) (show d+1<=2 by omega)
 have hlen:r.length=list.length+size ta:=by rw[e,dI,jy]
 have hlen':q.length=list.length+size ta+size tb:=by rw[e',dI,jy,hlen]
 have ew:IntKind.i64.wrap ((r.length:Int)-1)=((list.length+size ta-1:Nat):Int):=by rw[hlen,wrap_i64 (by omega) (by omega)];omega
 have GU:IntKind.i64.wrap ((q.length:Int)-1)=((list.length+size ta+size tb-1:Nat):Int):=by rw[hlen',wrap_i64 (by omega) (by omega)];omega
 refine Y.yes (by simp;omega) (Y.ret hs ⟨.two k ta tb,?_,⟨⟨hk,h1,h1'⟩,h2,h2'⟩,?_⟩)
 ·rw[ew,GU,e',hlen,e];simp only[bD,eG]
 ·have:2 ^ (d+1+1)=2 ^ (d+1)*2:=Nat.pow_succ ..
  simp only[size];omega
theorem d1{list:List aa}{d:Nat}{m M:Int}{s:j_}(hs:jQ s m)(hM:m+50<=M)(hl:list.length<=100) :
  Y (if(list.length+[((1,0,[],[],0,0,()):aa)].length)*80<=140737488355328 then some (list++[(1,0,[],[],0,0,())],s,())else none) M (qG list d):=
 JH hs (by omega) hl (JI (by omega) (λ_=>rfl) (λ_=>rfl) (λ_=>rfl) (dW _) axa)
theorem d2{n:Nat}{list:List aa}{d:Nat}{m M:Int}{s:j_}(hs:jQ s m)(hm:m<=549755813888)(hM:m+50<=M)(hl:list.length<=100) :
  Y ((mh n s [1,2,4,8]).bind λr=>if(list.length+[((2,r.1,[],[],0,0,()):aa)].length)*80<=140737488355328 then some (list++[(2,r.1,[],[],0,0,())],r.2.1,())else none) M (qG list d):=
 (pick hs (by omega) (by simp) (by simp)).bind λf s2 h2 q=>JH h2 (by omega) hl (JI (by omega) (λh=>absurd (show(2:Int)<=2/\(2:Int)<=5 by omega) h) (λ_=>rfl) (λ_=>rfl) (dW _) ((BL rfl).2 (by simpa using q)))
theorem dn{n:Nat}{list:List aa}{d:Nat}{m M k:Int}{s:j_}(hk:3<=k/\k<=5)(hs:jQ s m)(hm:m<=549755813888)(hM:m+50<=M)(hl:list.length<=100) :
  Y ((iT n s 40).bind λr=>if(list.length+[((k,r.1,[],[],0,0,()):aa)].length)*80<=140737488355328 then some (list++[(k,r.1,[],[],0,0,())],r.2.1,())else none) M (qG list d):=
 (next hs (by omega) (by omega) (by omega)).bind λf s2 h2 q=>JH h2 (by omega) hl (JI (by omega) (λh=>absurd (show 2<=k/\k<=5 by omega) h) (λ_=>rfl) (λ_=>rfl) (dW _) (by
  by_cases h5:k=5
  ·exact(OQ h5).2 (by show 0<=f/\f<=400;omega)
  ·exact(OP (t:=(k,f,[],[],0,0,())) (by show k=3\/k=4;omega)).2 (by show 0<=f/\f<=9999;omega)))
theorem dc{n:Nat}{list:List aa}{d:Nat}{m M k:Int}{s:j_}(hk:k=6\/k=7)(hs:jQ s m)(hm:m<=549755813888)(hM:m+50<=M)(hl:list.length<=100) :
  Y ((iT n s 4).bind λr=>if aZ r.1 [[(97:Int)],[104,69],[1078],[228]].length then(if(list.length+[((k,0,[[97],[104,69],[1078],[228]].getD r.1.toNat [],[],0,0,()):aa)].length)*80<=140737488355328 then some (list++[(k,0,[[97],[104,69],[1078],[228]].getD r.1.toNat [],[],0,0,())],r.2.1,())else none)else none) M (qG list d):=
 (next hs (by omega) (by omega) (by omega)).bind λf s2 h2 q=>Y.yes ⟨q.1,q.2⟩ (JH h2 (by omega) hl (JI (by omega) (λ_=>rfl) (λh=>absurd hk h) (λ_=>rfl) (vG (aam q).1.2 (by decide)) ((BM hk).2 (aam q))))
theorem d8{n:Nat}{list:List aa}{d:Nat}{m M:Int}{s:j_}(hn:10<n)(hs:jQ s m)(hm:m<=549755813888)(hM:m+50<=M)(hl:list.length<=100) :
  Y ((rZ n s).bind λr=>if(list.length+[((8,0,[],r.1,0,0,()):aa)].length)*80<=140737488355328 then some (list++[(8,0,[],r.1,0,0,())],r.2.1,())else none) M (qG list d):=
 (ranges hs hm hn).bind λf s2 h2 q=>JH h2 (by omega) hl (JI (by omega) (λ_=>rfl) (λ_=>rfl) (λh=>absurd rfl h) (dW _) ((tu rfl).2 q))
set_option maxHeartbeats 1000000 in
theorem make:∀(d n:Nat) (s:j_) (list:List aa) (m:Int),jQ s m->m+10*bN d<=549755813888->d<=2->d+20<n->list.length+10*d<=60->Y (q9 n s list (d:Int)) (m+bN d) (qG list d):=by
 intro d
 induction d with
 |zero=>
  intro n s list m hs hm hd hn hl
  obtain⟨n,rfl⟩:∃j,n=j+1:=⟨n-1,by omega⟩
  simp only[bN]at hm ⊢
  unfold q9
  dsimp only
  refine(pick hs (by omega) (by simp) (by simp)).bind λk s1 h1 hk=>?_
  simp only[bM,vF,or_false]at hk
  rcases hk with rfl|rfl|rfl|rfl|rfl|rfl|rfl|rfl|rfl|rfl <;>
   simp only[wu,aQ,Int.reduceEq,Int.reduceGE,Int.reduceGT,or_self,bY,dm,bP,bL,bI,gt_iff_lt,z8,Int.natCast_zero,ge_iff_le,Int.reduceLE]
  ·exact d1 h1 (by omega) (by omega)
  ·exact d2 h1 (by omega) (by omega) (by omega)
  ·exact dn (by omega) h1 (by omega) (by omega) (by omega)
  ·exact dn (by omega) h1 (by omega) (by omega) (by omega)
  ·exact dn (by omega) h1 (by omega) (by omega) (by omega)
  ·exact dc (by omega) h1 (by omega) (by omega) (by omega)
  ·exact dc (by omega) h1 (by omega) (by omega) (by omega)
  ·exact d8 (by omega) h1 (by omega) (by omega) (by omega)
  ·exact dc (by omega) h1 (by omega) (by omega) (by omega)
  ·exact dc (by omega) h1 (by omega) (by omega) (by omega)
 |succ d ih=>
  intro n s list m hs hm hd hn hl
  obtain⟨n,rfl⟩:∃j,n=j+1:=⟨n-1,by omega⟩
  have hb:=Z0 d
  simp only[bN]at hm ⊢
  have ed:(((d+1:Nat):Int)>0):=by omega
  have ew:IntKind.i64.wrap (((d+1:Nat):Int)-1)=(d:Int):=by rw[wrap_i64 (by omega) (by omega)];omega
  unfold q9
  dsimp only
  refine(pick hs (by omega) (by simp) (by simp)).bind λk0 s1 h1 _=>?_
  simp only[ed,bY,bL,ew]
  refine(pick h1 (by omega) (by simp) (by simp)).bind λk s2 h2 hk=>?_
  simp only[bM,vF,or_false]at hk
  have two:∀k:Nat,k=10\/k=11->Y ((q9 n s2 list (d:Int)).bind λr=>(q9 n r.2.1 r.1 (d:Int)).bind λq=>if(q.1.length+[(((k:Int),0,[],[],IntKind.i64.wrap ((r.1.length:Int)-1),IntKind.i64.wrap ((q.1.length:Int)-1),()):aa)].length)*80<=140737488355328 then some (q.1++[((k:Int),0,[],[],IntKind.i64.wrap ((r.1.length:Int)-1),IntKind.i64.wrap ((q.1.length:Int)-1),())],q.2.1,())else none) (m+(2*bN d+100)) (qG list (d+1)):=by
   intro k hk
   refine(ih n s2 list (m+1+1) h2 (by omega) (by omega) (by omega) (by omega)).bind λr s3 h3 q3=>?_
   have hrl:r.length<=list.length+3:=by
    obtain⟨tr,e,_,hz⟩:=q3
    have h8:2 ^ (d+1)<=4:=Nat.pow_le_pow_right (by decide) (show d+1<=2 by omega)
    rw[e,dI,jy]
    omega
   refine(ih n s3 r _ h3 (by omega) (by omega) (by omega) (by omega)).bind λq s4 h4 q4=>?_
   exact ayD hk (h4.up (by omega)) (by omega) (by omega) q3 q4
  rcases hk with rfl|rfl|rfl|rfl|rfl <;>
   simp only[wu,aQ,Int.reduceEq,Int.reduceGE,Int.reduceGT,or_self,bY,dm,bP,bL,bI,gt_iff_lt,z8,ge_iff_le,Int.reduceLE,or_true,true_or]
  ·refine(ih n s2 list (m+1+1) h2 (by omega) (by omega) (by omega) (by omega)).bind λr s3 h3 q3=>?_
   exact axd (h3.up (by omega)) (by omega) (by omega) q3
  ·exact two 10 (.inl rfl)
  ·exact two 11 (.inr rfl)
  ·exact two 10 (.inl rfl)
  ·exact d2 h2 (by omega) (by omega) (by omega)
theorem aaD{n:Nat}{s:j_}{m:Int}(hs:jQ s m)(hm:m<=100000000000)(hn:30<n):Y (F6 n s) (m+1000) (λr=>∃tr,r=bD 0 tr/\BS tr/\size tr<=7):=by
 unfold F6
 refine(next hs (by omega) (by omega) (by omega)).bind λr s1 h1 hr=>?_
 obtain⟨k,rfl⟩:=KY hr.1
 have hk:k<=2:=by omega
 have hb:bN k<=700:=by
  have:∀k,k<=2->bN k<=700:=by decide
  exact this k hk
 refine(make k n s1 [] (m+1) h1 (by omega) hk (by omega) (by simp;omega)).bind λr s2 h2 ⟨tr,e,h3,h4⟩=>Y.ret (h2.up (by omega)) ⟨tr,by simpa using e,h3,?_⟩
 have:2 ^ (k+1)<=8:=Nat.pow_le_pow_right (by decide) (show k+1<=3 by omega)
 omega
theorem aoz{ts:List aa}{i j:Nat}{f:aa->aa}:(xO ts i aA f).getD j aA=if i=j/\i<ts.length then f (ts.getD i aA)else ts.getD j aA:=by
 unfold xO
 rw[eP,List.getElem?_set]
 by_cases h:i=j
 ·subst h
  by_cases hi:i<ts.length<;>simp[hi]
 ·simp[h]
theorem bent{n:Nat}{s:j_}{m:Int}(hs:jQ s m)(hm:m<=100000000000)(hn:30<n):Y (KS n s) (m+1010) (λr=>∀i,i<r.length->(r.getD i aA).2.2.1.length<=1048576):=by
 unfold KS
 refine(aaD hs hm hn).bind λts s1 h1 ⟨tr,e,⟨h2,_⟩,h3⟩=>?_
 have hp:=size_pos tr
 have hlen:ts.length=size tr:=by rw[e,jy]
 have hc:∀i,i<ts.length->(ts.getD i aA).2.2.1.length<=1048576:=by
  obtain⟨ss,k1,_⟩:=xQ tr [] [] ⟨rfl,λi hi=>by simp at hi⟩ h2
  simp only[iA,iF]at k1
  rw[<-e]at k1
  exact λi hi=>k1.codes hi
 dsimp only
 refine(next h1 (by omega) (by omega) (by omega)).bind λi s2 h4 hi=>(next h4 (by omega) (by omega) (by omega)).bind λc s3 h5 _=>?_
 dsimp only
 have hset:∀(i:Nat) (f:aa->aa),i<ts.length->(∀t,(f t).2.2.1.length<=1048576\/(f t).2.2.1=t.2.2.1)->∀j,j<(xO ts i aA f).length->((xO ts i aA f).getD j aA).2.2.1.length<=1048576:=by
  intro i f hi hf j hj
  rw[aoz]
  split
  ·rcases hf (ts.getD i aA)with h|h
   ·exact h
   ·rw[h];exact hc i hi
  ·exact hc j (by rw[xO,List.length_set]at hj;exact hj)
 have hin:aZ i ts.length:=⟨hi.1,hi.2⟩
 refine Y.ite (λ_=>(pick h5 (by omega) (by simp) (by simp)).bind λ_ s4 h6 _=>Y.yes hin (Y.ret (h6.up (by omega)) (hset _ _ (by omega) λt=>.inr rfl))) (λ_=>?_)
 refine Y.ite (λ_=>(pick h5 (by omega) (by simp) (by simp)).bind λ_ s4 h6 _=>Y.yes hin (Y.ret (h6.up (by omega)) (hset _ _ (by omega) λt=>.inr rfl))) (λ_=>?_)
 refine Y.ite (λ_=>(pick h5 (by omega) (by simp) (by simp)).bind λ_ s4 h6 _=>Y.yes hin (Y.ret (h6.up (by omega)) (hset _ _ (by omega) λt=>.inr rfl))) (λ_=>?_)
 refine Y.ite (λ_=>(pick h5 (by omega) (by simp) (by simp)).bind λ_ s4 h6 _=>Y.yes hin (Y.ret (h6.up (by omega)) (hset _ _ (by omega) λt=>.inl (by simp)))) (λ_=>?_)
 refine Y.ite (λ_=>Y.yes (by decide) (Y.ret (h5.up (by omega)) λj hj=>?_)) (λ_=>Y.ret (h5.up (by omega)) hc)
 have:∀j,j<13->((List.replicate (13:Int).toNat aA).getD j aA).2.2.1.length<=1048576:=by decide
 exact this j (by simpa using hj)
def GB(o:Option (List Int×Unit))(m:Nat):Prop:=G o (λr=>jR r.1/\r.1.length<=m)
theorem number{n:Nat}(hn:4<=n){v:Int}(h:0<=v/\v<=999):GB (zU n v) 4:=by
 unfold zU
 obtain⟨e1,e2⟩:=PM.digit hn h.1 (show v<10000 by omega)
 refine G.ite (λ_=>G.ret ⟨sG (by decide),by simp⟩) (λ_=>?_)
 rw[e1]
 exact G.ret ⟨λb hb=>by have:=(w9 h.1 (show v<10000 by omega)).1 b hb;omega,e2⟩
theorem axD{n:Nat}(hn:20<n){l:List aB}(h:fR l=0):GB (F5 n l) 80:=by
 obtain⟨⟨g1,g2⟩,g3⟩:=yK h
 unfold F5
 refine cnt (N:=n) (k:=l.length) (λj (v:List aB×List Int×Int×Unit)=>v.1=l/\0<=v.2.2.1/\v.2.2.1+j=(l.length:Int)/\jR v.2.1/\v.2.1.length+10*j<=10*l.length) (λo:Option (List Int×Unit)=>GB o 80) ?_ (by omega) ⟨rfl,by simp,by simp,yD,by simp⟩
 intro j L v ⟨e1,e2,e3,e4,e5⟩ hL
 obtain⟨l',out,i,u⟩:=v
 simp only at e1 e2 e3 e4 e5
 subst e1
 have w1:IntKind.i64.wrap (i+1)=i+1:=wrap_i64 (by omega) (by omega)
 simp only[w1,bF]
 refine G.ite (λhc=>?_) (λhc=>G.ret ⟨e4,by show out.length<=80;omega⟩)
 have hin:aZ i l'.length:=⟨e2,hc⟩
 have hr:kE (l'.getD i.toNat fJ):=by
  rw[eP,fG (show i.toNat<l'.length by omega)]
  exact g3 _ (om _)
 have go:∀o:List Int,jR o->o.length<=out.length+10->GB (L (l',o,i+1,())) 80:=λo h1 h2=>hL _ (j-1) (by omega) ⟨rfl,by show 0<=i+1;omega,by show i+1+((j-1:Nat):Int)=_;omega,h1,by show o.length+10*(j-1)<=_;omega⟩
 generalize l'.getD i.toNat fJ=r at *
 refine G.ite (λ_=>?_) (λ_=>?_)
 ·refine G.yes (by first|omega|(simp;omega)) (G.yes hin ((number (by omega) hr.1).bind λr2 h2=>G.yes (by first|omega|(simp;omega)) (G.yes hin (G.yes hin (G.ite (λ_=>G.yes (by first|omega|(simp;omega)) (G.yes hin ((number (by omega) hr.2).bind λr3 h3=>G.yes (by first|omega|(simp;omega)) (go _ (mG (mG (mG (mG e4 (sG (by decide))) h2.1) (sG (by decide))) h3.1) (by first|omega|(simp;omega)))))) (λ_=>go _ (mG (mG e4 (sG (by decide))) h2.1) (by first|omega|(simp;omega))))))))
 ·refine G.yes hin ((number (by omega) hr.1).bind λr2 h2=>G.yes (by first|omega|(simp;omega)) (G.yes hin (G.yes hin (G.ite (λ_=>G.yes (by first|omega|(simp;omega)) (G.yes hin ((number (by omega) hr.2).bind λr3 h3=>G.yes (by first|omega|(simp;omega)) (go _ (mG (mG (mG e4 h2.1) (sG (by decide))) h3.1) (by first|omega|(simp;omega)))))) (λ_=>go _ (mG e4 h2.1) (by first|omega|(simp;omega)))))))
theorem ahe{o:Option (List Int×Unit)}{m:Nat}(hm:m<=100000)(h:GB o m):GB (o.bind λr=>if [(32:Int)].length+r.1.length<=9223372036854775807 then some ([32]++r.1,())else none) (m+1):=
 h.bind λr hr=>G.yes (by first|omega|(simp;omega)) (G.ret ⟨mG (sG (by decide)) hr.1,by simp;omega⟩)
theorem two32{o p:Option (List Int×Unit)}{m q:Nat}(hm:m<=100000)(hq:q<=100000)(h:GB o m)(h':GB p q):GB (o.bind λr=>if [(32:Int)].length+r.1.length<=9223372036854775807 then(if([32]++r.1).length+[(32:Int)].length<=9223372036854775807 then(p.bind λz=>if(([32]++r.1)++[32]).length+z.1.length<=9223372036854775807 then some ((([32]++r.1)++[32])++z.1,())else none)else none)else none) (m+q+2):=
 h.bind λr hr=>G.yes (by first|omega|(simp;omega)) (G.yes (by first|omega|(simp;omega)) (h'.bind λz hz=>G.yes (by first|omega|(simp;omega)) (G.ret ⟨mG (mG (mG (sG (by decide)) hr.1) (sG (by decide))) hz.1,by simp;omega⟩)))
theorem XD{n:Nat}{k:Int}(h:1<=k/\k<=11):∃w,F8 n k=some (w,())/\jR w/\0<w.length/\w.length<=7:=by
 obtain⟨i,rfl⟩:∃i:Nat,k=((i+1:Nat):Int):=⟨(k-1).toNat,by omega⟩
 have hi:i<11:=by omega
 refine⟨_,ai2 hi,?_⟩
 have:∀i,i<11->(WD.getD i []).all (λx=>decide (0<=x)&&decide (x<=255))=true/\0<(WD.getD i []).length/\(WD.getD i []).length<=7:=by decide
 obtain⟨a,b,c⟩:=this i hi
 exact⟨sG a,b,c⟩
def GT(o:Option (List Int×Unit))(m:Nat):Prop:=G o (λr=>jR r.1/\r.1.length<=m/\0<r.1.length)
theorem ayw{n:Nat}{q:List aa->Int->Option mE}(hn:1048600<n){ts:List aa}{i:Nat}(hi:i<ts.length)(h:BS (.leaf (ts.getD i aA))):GB (xW q n ts (i:Int)) 900:=by
 unfold xW
 refine G.yes (fu hi) ?_
 rw[iw]
 obtain⟨hs,ho⟩:=h
 have hk:=hs.1
 generalize ts.getD i aA=t at *
 have up:∀{o:Option (List Int×Unit)} {m:Nat},m<=899->GB o m->GB (o.bind λr=>if [(32:Int)].length+r.1.length<=9223372036854775807 then some ([32]++r.1,())else none) 900:=λ{o m} hm h=>by
  obtain⟨a,e,h1,h2⟩:=ahe (by omega) h
  exact⟨a,e,h1,by omega⟩
 obtain⟨k,num,cs,rs,l,r,u⟩:=t
 simp only at hk ⊢
 have hc:k=1\/k=2\/(3<=k/\k<=5)\/(k=6\/k=7)\/k=8:=by omega
 rcases hc with rfl|rfl|h3|h6|rfl
 ·simp only[bY,bL]
  exact G.ret ⟨yD,by simp⟩
 ·have hf:=(BL rfl).1 ho
  simp only at hf
  simp only[Int.reduceEq,bY,dm,bP,bL,bI]
  refine up (m:=100) (by omega) ?_
  have:∀f:Nat,f<16->(tF f).all (λx=>decide (0<=x)&&decide (x<=255))=true/\(tF f).length<=100:=by decide +kernel
  obtain⟨f,rfl⟩:=KY (show 0<=num by omega)
  have SH:f<16:=by omega
  rw[aa2 (by omega) SH]
  exact G.ret ⟨sG (this f SH).1,(this f SH).2⟩
 ·have hv:0<=num/\num<10000:=by
   by_cases h5:k=5
   ·have:=(OQ h5).1 ho;simp only at this;omega
   ·have:=(OP (t:=(k,num,cs,rs,l,r,u)) (by show k=3\/k=4;omega)).1 ho;simp only at this;omega
  obtain⟨e1,e2⟩:=PM.digit (n:=n) (by omega) hv.1 hv.2
  have hd:GB (rq n num) 4:=by
   rw[e1]
   exact G.ret ⟨λb hb=>by have:=(w9 hv.1 hv.2).1 b hb;omega,e2⟩
  have n1:¬k=1:=by omega
  have n2:¬k=2:=by omega
  have n6:¬k=6:=by omega
  have n7:¬k=7:=by omega
  have n8:¬k=8:=by omega
  have n9:¬k=9:=by omega
  have n10:¬k=10:=by omega
  have n11:¬k=11:=by omega
  simp only[n1,n2,n6,n7,n8,n9,n10,n11,dm,bP,bI]
  exact up (by omega) hd
 ·have hcs:=(BM h6).1 ho
  simp only at hcs
  have ht:=text (n:=n) (cs:=4) (xs:=cs) (by have:=hcs.1;omega) (by unfold big;omega)
  rcases h6 with rfl|rfl<;>simp only[Int.reduceEq,bY,dm,bP,bL,bI]
  all_goals
   refine G.bind ht λr2 h2=>G.yes (by first|omega|(simp;omega)) (G.ret ⟨mG (sG (by decide)) h2.1,by simp;omega⟩)
 ·have hr:=(tu rfl).1 ho
  simp only at hr
  simp only[Int.reduceEq,bY,dm,bP,bL,bI]
  exact up (by omega) (axD (by omega) hr)
theorem Pg:∀(tr:Tr) (pre post:List aa) (n:Nat),BS tr->pre.length+size tr<=100->size tr+1048700<n->GT (qA n (pre++bD pre.length tr++post) ((pre.length+size tr-1:Nat):Int)) (1000*size tr)
 |.leaf t,pre,post,n,h,hz,hn=>by
  obtain⟨n,rfl⟩:∃j,n=j+1:=⟨n-1,by omega⟩
  simp only[size]at hz hn ⊢
  have e:(pre++bD pre.length (.leaf t)++post).getD pre.length aA=t:=by simp only[bD,eG,List.singleton_append];exact pq
  have hi:pre.length<(pre++bD pre.length (.leaf t)++post).length:=by simp[bD]
  rw[Nat.add_sub_cancel]
  unfold qA
  obtain⟨w,hw1,hw2,hw3,hw4⟩:=XD (n:=n) (k:=t.1) (by have:=h.1.1;omega)
  refine G.yes (fu hi) ?_
  rw[iw,e,hw1]
  simp only[aQ]
  refine(ayw (by omega) hi (by rw[e];exact h)).bind λr hr=>G.yes (by omega) (G.ret ⟨mG hw2 hr.1,by simp;omega,by simp;omega⟩)
 |.one a,pre,post,n,h,hz,hn=>by
  obtain⟨n,rfl⟩:∃j,n=j+1:=⟨n-1,by omega⟩
  simp only[size]at hn hz ⊢
  have hp:=size_pos a
  have el:pre++bD pre.length (.one a)++post=pre++bD pre.length a++((9,0,[],[],((pre.length+size a-1:Nat):Int),0,()) :: post):=by simp only[bD,eG,List.singleton_append]
  have hlen:(pre++bD pre.length a).length=pre.length+size a:=by rw[dI,jy]
  have ih:=Pg a pre ((9,0,[],[],((pre.length+size a-1:Nat):Int),0,()) :: post) n h (by omega) (by omega)
  have e:(pre++bD pre.length a++((9,0,[],[],((pre.length+size a-1:Nat):Int),0,()) :: post)).getD (pre.length+size a) aA=(9,0,[],[],((pre.length+size a-1:Nat):Int),0,()):=by
   rw[<-hlen,pq]
  rw[el,show pre.length+(size a+1)-1=pre.length+size a by omega]
  have hi:pre.length+size a<(pre++bD pre.length a++((9,0,[],[],((pre.length+size a-1:Nat):Int),0,()) :: post)).length:=by rw[dI,hlen];simp
  unfold qA
  obtain⟨w,hw1,hw2,hw3,hw4⟩:=XD (n:=n) (k:=9) (by omega)
  refine G.yes (fu hi) ?_
  rw[iw,e,hw1]
  have ih':GB (qA n (pre++bD pre.length a++((9,0,[],[],((pre.length+size a-1:Nat):Int),0,()) :: post)) ((pre.length+size a-1:Nat):Int)) (1000*size a):=by
   obtain⟨r,e,h1,h2,_⟩:=ih
   exact⟨r,e,h1,h2⟩
  have ht:GB (xW (λx0 x1=>qA n x0 x1) n (pre++bD pre.length a++((9,0,[],[],((pre.length+size a-1:Nat):Int),0,()) :: post)) ((pre.length+size a:Nat):Int)) (1000*size a+1):=by
   unfold xW
   refine G.yes (fu hi) ?_
   rw[iw,e]
   simp only[Int.reduceEq,bY,dm,bP,bL,bI]
   exact ahe (by omega) ih'
  exact ht.bind λr hr=>G.yes (by first|omega|(simp;omega)) (G.ret ⟨mG hw2 hr.1,by first|omega|(simp;omega),by first|omega|(simp;omega)⟩)
 |.two k a b,pre,post,n,h,hz,hn=>by
  obtain⟨n,rfl⟩:∃j,n=j+1:=⟨n-1,by omega⟩
  simp only[size]at hn hz ⊢
  obtain⟨⟨hk,sa,sb⟩,oa,ob⟩:=h
  have hpa:=size_pos a
  have hpb:=size_pos b
  have hlen:(pre++bD pre.length a).length=pre.length+size a:=by rw[dI,jy]
  have sQ:(pre++bD pre.length a++bD (pre.length+size a) b).length=pre.length+size a+size b:=by rw[dI,hlen,jy]
  generalize hx:(((k:Int),0,[],[],((pre.length+size a-1:Nat):Int),((pre.length+size a+size b-1:Nat):Int),()):aa)=x
  have el:pre++bD pre.length (.two k a b)++post=pre++bD pre.length a++(bD (pre.length+size a) b++(x :: post)):=by rw[<-hx];simp only[bD,eG,List.singleton_append]
  have GN:pre++bD pre.length a++(bD (pre.length+size a) b++(x :: post))=pre++bD pre.length a++bD (pre.length+size a) b++(x :: post):=by simp only[eG]
  have iha:=Pg a pre (bD (pre.length+size a) b++(x :: post)) n ⟨sa,oa⟩ (by omega) (by omega)
  have ihb:=Pg b (pre++bD pre.length a) (x :: post) n ⟨sb,ob⟩ (by omega) (by omega)
  rw[hlen]at ihb
  rw[GN]at iha
  rw[el,GN,show pre.length+(size a+size b+1)-1=pre.length+size a+size b by omega]
  have e:(pre++bD pre.length a++bD (pre.length+size a) b++(x :: post)).getD (pre.length+size a+size b) aA=x:=by
   rw[<-sQ,pq]
  have hi:pre.length+size a+size b<(pre++bD pre.length a++bD (pre.length+size a) b++(x :: post)).length:=by rw[dI,sQ];simp
  generalize pre++bD pre.length a++bD (pre.length+size a) b++(x :: post)=ts at *
  have hxk:x.1=(k:Int):=by rw[<-hx]
  have hxl:x.2.2.2.2.1=((pre.length+size a-1:Nat):Int):=by rw[<-hx]
  have hxr:x.2.2.2.2.2.1=((pre.length+size a+size b-1:Nat):Int):=by rw[<-hx]
  have aqx:GB (qA n ts ((pre.length+size a-1:Nat):Int)) (1000*size a):=by
   obtain⟨r,e,h1,h2,_⟩:=iha
   exact⟨r,e,h1,h2⟩
  have aqy:GB (qA n ts ((pre.length+size a+size b-1:Nat):Int)) (1000*size b):=by
   obtain⟨r,e,h1,h2,_⟩:=ihb
   exact⟨r,e,h1,h2⟩
  unfold qA
  obtain⟨w,hw1,hw2,hw3,hw4⟩:=XD (n:=n) (k:=(k:Int)) (by omega)
  refine G.yes (fu hi) ?_
  rw[iw,e,hxk,hw1]
  have ht:GB (xW (λx0 x1=>qA n x0 x1) n ts ((pre.length+size a+size b:Nat):Int)) (1000*size a+1000*size b+2):=by
   unfold xW
   refine G.yes (fu hi) ?_
   rw[iw,e,hxk,hxl,hxr]
   rcases hk with rfl|rfl<;>simp only[Int.reduceEq,show((10:Nat):Int)=10 from rfl,show((11:Nat):Int)=11 from rfl,bY,dm,bP,bL,bI]
   all_goals exact two32 (by omega) (by omega) aqx aqy
  exact ht.bind λr hr=>G.yes (by first|omega|(simp;omega)) (G.ret ⟨mG hw2 hr.1,by first|omega|(simp;omega),by first|omega|(simp;omega)⟩)
theorem source{xs:List Int}(hb:jR xs)(hl:xs.length<=big):jQ (xs,0,()) 0:=⟨hb,hl,KZ _,KZ _⟩
theorem parseText{n:Nat}{xs:List Int}(hb:jR xs)(hl:xs.length<=big)(hn:1048800<n):GB (KQ n xs) 10000:=by
 unfold KQ F9
 simp only[aQ]
 obtain⟨ts,s1,e1,h1,tr,e2,h2,h3⟩:=aaD (n:=n) (source hb hl) (by omega) (by omega)
 rw[e1]
 simp only[aQ]
 have hp:=size_pos tr
 have hlen:ts.length=size tr:=by rw[e2,jy]
 rw[show IntKind.i64.wrap ((ts.length:Int)-1)=((size tr-1:Nat):Int) by rw[wrap_i64 (by omega) (by omega)];omega]
 have ht:=Pg tr [] [] n h2 (by simp;omega) (by omega)
 simp only[iA,iF,jf,jq]at ht
 rw[<-e2]at ht
 refine ht.bind λt ht=>?_
 obtain⟨t1,t2,t3⟩:=ht
 obtain⟨t,u⟩:=t
 simp only at t1 t2 t3 ⊢
 obtain⟨c,s2,e3,h4,_⟩:=next (n:=n) (k:=5) h1 (by omega) (by omega) (by omega)
 rw[e3]
 simp only[aQ]
 refine G.ite (λ_=>?_) (λ_=>G.ite (λ_=>?_) (λ_=>G.ite (λ_=>?_) (λ_=>G.ret ⟨t1,by show t.length<=10000;omega⟩)))
 ·obtain⟨i,s3,e4,h5,hi⟩:=next (n:=n) (k:=(t.length:Int)) h4 (by omega) (by omega) (by omega)
  rw[e4]
  simp only[aQ]
  obtain⟨v,s4,e5,h6,_⟩:=pick (n:=n) (l:=[(32:Int),120,48,200]) h5 (by omega) (by simp) (by simp)
  rw[e5]
  exact G.yes ⟨hi.1,hi.2⟩ (G.ret ⟨amk t1 _ (B_ _),by simp;omega⟩)
 ·obtain⟨i,s3,e4,h5,hi⟩:=next (n:=n) (k:=(t.length:Int)) h4 (by omega) (by omega) (by omega)
  rw[e4]
  exact G.yes (by show 0<=i/\i<=_;omega) (G.ret ⟨aml t1 _,by simp;omega⟩)
 ·obtain⟨i,s3,e4,h5,hi⟩:=next (n:=n) (k:=4) h4 (by omega) (by omega) (by omega)
  rw[e4]
  have q:∀j:Nat,j<4->([[32,97,108,108],([]:List Int),[32,110,111,116],[42]].getD j []).all (λx=>decide (0<=x)&&decide (x<=255))=true/\([[32,97,108,108],([]:List Int),[32,110,111,116],[42]].getD j []).length<=4:=by decide
  obtain⟨q1,q2⟩:=q i.toNat (by omega)
  refine G.yes ⟨hi.1,hi.2⟩ ?_
  simp only
  generalize [[32,97,108,108],([]:List Int),[32,110,111,116],[42]].getD i.toNat []=w at *
  exact G.yes (by omega) (G.ret ⟨mG t1 (sG q1),by simp;omega⟩)
theorem al_{n:Nat}{xs:List Int}(hb:jR xs)(hl:xs.length<=big)(hn:1048800<n):G (F3 n xs) (λr=>∀i,i<r.1.length->(r.1.getD i aA).2.2.1.length<=1048576):=by
 unfold F3 F9
 simp only[aQ]
 obtain⟨ts,s1,e1,h1,h2⟩:=bent (n:=n) (source hb hl) (by omega) (by omega)
 rw[e1]
 exact G.ret h2
end Go.Proofs.YtgppmpedglhhfaaGreatDoor.Zz
