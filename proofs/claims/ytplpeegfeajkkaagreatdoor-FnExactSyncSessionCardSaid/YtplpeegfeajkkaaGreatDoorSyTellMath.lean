/- What a session is told: both sides tell the same. -/
import Derived.Test.YtplpeegfeajkkaaGreatDoorWCopyMath
set_option linter.unusedVariables false
set_option linter.unusedSimpArgs false
namespace Go.Proofs.YtplpeegfeajkkaaGreatDoor.YS
open Go Ow nE nQ aI VM oI nS xV tK w9 IC
theorem OO:∀{b a:List Int},a.Pairwise (· < ·)->b.Pairwise (· < ·)->(∀x∈a,x∈b)->a.Sublist b
 | [],a,_,_,h=>by
  cases a with
  |nil=>exact .slnil
  |cons x a=>exact absurd (h x (by simp)) (x9)
 |y :: b,[],_,_,_=>List.nil_sublist _
 |y :: b,x :: a,ha,hb,h=>by
  rw[List.pairwise_cons]at ha hb
  by_cases e:x=y
  ·subst e
   refine(OO ha.2 hb.2 λz hz=>?_).cons_cons x
   rcases bW.1 (h z (by simp[hz]))with e|g
   ·have:=ha.1 z hz;omega
   ·exact g
  ·have hx:=(bW.1 (h x (by simp))).resolve_left e
   have hxy:=hb.1 x hx
   refine(OO (a:=x :: a) (List.pairwise_cons.2 ha) hb.2 λz hz=>?_).cons y
   rcases bW.1 (h z hz)with e2|g
   ·rcases bW.1 hz with e3|e3
    ·omega
    ·have:=ha.1 z e3;omega
   ·exact g
theorem arl{a b:List Int}(ha:a.Pairwise (· < ·))(hb:b.Pairwise (· < ·))(h:∀x∈a,x∈b):a.length<=b.length/\(b.length<=a.length->a=b):=
 ⟨(OO ha hb h).length_le,λhl=>(OO ha hb h).eq_of_length_le hl⟩
theorem Si{R:Type}{step:Nat->Option (Option R)}{fin:Option R}:∀{m i:Nat},(∀j r,step j=some r->r≠fin)->fJ step fin m i=fin->∀j,i<=j->j<i+m->step j=none
 |0,i,_,_,j,h1,h2=>by omega
 |m+1,i,hs,h,j,h1,h2=>by
  unfold fJ at h
  cases hi:step i with
  |some r=>rw[hi]at h;exact absurd h (hs i r hi)
  |none=>
   rw[hi]at h
   by_cases e:j=i
   ·rw[e];exact hi
   ·exact Si hs h j (by omega) (by omega)
theorem atr{us:List Int}(h:tF us=true):us.Pairwise (· < ·):=by
 have h1:=F_ us
 rw[h]at h1
 have h2:=Si (λj r hj=>by
  split at hj
  ·rw[<-jc hj];simp
  ·simp at hj) h1
 refine DW.2 λi j hi hj hij=>?_
 obtain⟨k,rfl⟩:∃k,j=i+1+k:=⟨j-(i+1),by omega⟩
 clear hij
 have up:∀k,k+1<us.length->us.getD k 0<us.getD (k+1) 0:=λk hk=>by
  have h3:=h2 (k+1) (by omega) (by omega)
  have h4:sD us (k+1)=false:=by cases hb:sD us (k+1)<;>simp_all
  unfold sD at h4
  rw[za]at h4
  have h5:=h4.2
  rw[gQ (show((k+1:Nat):Int)>0 by omega),xO,Nat.add_sub_cancel,decide_eq_false_iff_not]at h5
  omega
 induction k with
 |zero=>
  have:=up i hj
  rwa[getD_lt hi,getD_lt hj]at this
 |succ k ih=>
  have hk:i+1+k<us.length:=by omega
  have:=up (i+1+k) hj
  have hj':i+1+k+1<us.length:=by omega
  rw[getD_lt hk,getD_lt hj']at this
  exact Int.lt_trans (ih hk) this
def dJ(b:Bx):List Int:=b.2.2.2.1.map (·.1)
def Kc(b:Bx)(x:Int):Int:=if b.2.2.2.1.findIdx (λm=>decide (m.1=x))<b.2.2.2.1.length then((b.2.2.2.1.findIdx (λm=>decide (m.1=x)):Nat):Int)else -1
theorem acK(b:Bx)(x:Int):decide (Kc b x<0)=!(dJ b).contains x:=by
 have h:(b.2.2.2.1.findIdx (λm=>decide (m.1=x))<b.2.2.2.1.length)↔x∈dJ b:=by
  rw[List.findIdx_lt_length]
  unfold dJ
  simp
 unfold Kc
 by_cases g:x∈dJ b
 ·rw[aj (h.2 g),List.contains_iff_mem.2 g]
  simp
 ·rw[aC (λq=>g (h.1 q))]
  have:(dJ b).contains x=false:=by
   cases hc:(dJ b).contains x
   ·rfl
   ·exact absurd (List.contains_iff_mem.1 hc) g
  rw[this]
  rfl
theorem apH{n:Nat}{b:Bx}{x:Int}(hb:b.2.2.2.1.length<=big)(hn:big<n):HY n b x=some (Kc b x,()):=by
 have hb':=hb
 unfold big at hb
 unfold HY
 refine(gp (λi=>(b,x,(i:Int),())) (λj=>if decide ((b.2.2.2.1.getD j dM).1=x)=true then some (some ((j:Int),()))else none) (some (-1,())) (m:=b.2.2.2.1.length) rfl (by omega) ?_ ?_).trans ?_
 ·intro L i hi _
  simp only[eB,hi,bG,aQ,bU hi,dA,dL hi (by omega)]
  split<;>rfl
 ·intro L _
  simp
 ·rw[nA.I6 (p:=λm:cK=>decide (m.1=x)) (r:=λj=>some ((j:Int),())) b.2.2.2.1.length 0 (by omega)]
  simp only[BA,nR]
  unfold Kc
  split<;>rfl
theorem message{n:Nat}{b:Bx}{x:Int}(hb:b.2.2.2.1.length<=big)(hn:big<n):Gy n b x=some (Kc b x,()):=by
 unfold Gy
 have h:P9 n b.2.2.2.1 x=some (_,()):=nA.TW (p:=λm:cK=>decide (m.1=x)) (q:=λc m=>PR n m c) (d:=dM) (λ_ _=>rfl) (λ_=>rfl) (by unfold big at hb;omega) (by omega)
 rw[h]
 rfl
theorem apF{n:Nat}{b:Bx}(hb:b.2.2.2.1.length<=big)(hn:big<n):Bj n b=some (dJ b,()):=by
 have hb':=hb
 unfold big at hb
 unfold Bj
 refine(gp (λi=>(b,(i:Int),(dJ b).take i,())) (λ_=>none) (some (dJ b,())) (m:=b.2.2.2.1.length) (by simp) (by omega) ?_ ?_).trans (ko (λ_ _ _=>rfl))
 ·intro L i hi _
  have ht:(dJ b).take (i+1)=(dJ b).take i++[(b.2.2.2.1[i]).1]:=by
   rw[D5 (by simpa[dJ]using hi)]
   simp[dJ]
  have hlt:((dJ b).take i).length<=i:=by simp;omega
  simp only[eB,hi,bG,aQ,bU hi,ku hi,dL hi (by omega),gL,ht]
  rw[aj (by omega)]
 ·intro L _
  have:(dJ b).take b.2.2.2.1.length=dJ b:=DZ (by simp[dJ])
  simp[this]
theorem vD{n:Nat}{b:Bx}(hb:b.2.2.2.1.length<=big)(hn:big<n):GU n b=some (dJ b,()):=by
 have hb':=hb
 unfold big at hb
 unfold GU
 refine(gp (λi=>(b.2.2.2.1,(b.2.2.2.1.length:Int),(i:Int),(dJ b).take i,())) (λ_=>none) (some (dJ b,())) (m:=b.2.2.2.1.length) (by simp) (by omega) ?_ ?_).trans (ko (λ_ _ _=>rfl))
 ·intro L i hi _
  have ht:(dJ b).take (i+1)=(dJ b).take i++[(b.2.2.2.1[i]).1]:=by
   rw[D5 (by simpa[dJ]using hi)]
   simp[dJ]
  have hlt:((dJ b).take i).length<=i:=by simp;omega
  simp only[eB,hi,bG,aQ,bU hi,ku hi,dL hi (by omega),gL,ht]
  rw[aj (by omega)]
 ·intro L _
  have:(dJ b).take b.2.2.2.1.length=dJ b:=DZ (by simp[dJ])
  simp[this]
theorem delete{n:Nat}{xs:List Int}{i:Nat}(hi:i<xs.length):∃t:List Int,Hu n xs (i:Int) ((i+1:Nat):Int)=some (((xs.length-1:Nat):Int),t,())/\t.take (xs.length-1)=xs.take i++xs.drop (i+1):=by
 unfold Hu
 rw[aj (by omega),aC (by rw[dW];omega),aj (by omega),aj (by omega),aj (by omega)]
 have e:i+(xs.length-(i+1))=xs.length-1:=by omega
 have hl:(xs.take i++xs.drop (i+1)).length=xs.length-1:=by simp;omega
 simp only[dA,pY,Nat.sub_zero,nR,e]
 rw[aj (by refine⟨by omega,by omega,?_⟩;simp only[dN,pX,x8];omega)]
 refine⟨_,rfl,?_⟩
 have hX:(xs.take i++xs.drop (i+1)++xs.drop (xs.length-1)).take (xs.length-1)=xs.take i++xs.drop (i+1):=List.take_left' hl
 rw[hX,gD (xs.take i++xs.drop (i+1))]
 exact List.take_left' hl
def fold{A:Type}(nx:Nat->A->A):Nat->A->A
 |0,a=>a
 |k+1,a=>fold nx k (nx k a)
theorem RZ{V R A:Type}{B:(V->Option R)->V->Option R}(st:Nat->A->V)(nx:Nat->A->A)(ok:Nat->A->Prop){fin:A->Option R}{m:Nat}
  (h1:∀L k a,k<m->ok (k+1) a->B L (st (k+1) a)=L (st k (nx k a))/\ok k (nx k a)) (h2:∀L a,ok 0 a->B L (st 0 a)=fin a) :
  ∀k,k<=m->∀n a,k<n->ok k a->rounds B n (st k a)=fin (fold nx k a)
 |0,_,n,a,hn,h=>by
  obtain⟨n,rfl⟩:∃j,n=j+1:=⟨n-1,by omega⟩
  exact h2 _ a h
 |k+1,hk,n,a,hn,h=>by
  obtain⟨n,rfl⟩:∃j,n=j+1:=⟨n-1,by omega⟩
  obtain⟨e,g⟩:=h1 (rounds B n) k a (by omega) h
  exact e.trans (RZ st nx ok h1 h2 k (by omega) n _ (by omega) g)
abbrev Acc:=List Int×List (List Int)
def Nz(k:Nat):List Int:=[42,32,103,111,110,101,32]++nX ((k+1:Nat):Int)
def nx(S us:List Int)(k:Nat)(a:Acc):Acc:=if us.contains (S.getD k 0)=true then(S.getD k 0 :: a.1,a.2)else(a.1,a.2++[Nz k])
theorem aai(S us:List Int):∀k,k<=S.length->∀a:Acc,(fold (nx S us) k a).1=(S.take k).filter (us.contains ·)++a.1
 |0,_,a=>rfl
 |k+1,hk,a=>by
  have hk':k<S.length:=hk
  show(fold (nx S us) k (nx S us k a)).1=_
  rw[aai S us k (by omega),D5 hk',xX,<-getD_lt hk' 0]
  unfold nx
  by_cases h:us.contains (S.getD k 0)=true
  ·rw[aj h,one_pos (p:=(us.contains ·)) h,gD];rfl
  ·rw[aC h,OC (p:=(us.contains ·)) (by simpa using h),iq]
theorem aaj(S us:List Int):∀k (a:Acc),(fold (nx S us) k a).2.length<=k+a.2.length
 |0,a=>by simp[fold]
 |k+1,a=>by
  have h:=aaj S us k (nx S us k a)
  have h2:(nx S us k a).2.length<=a.2.length+1:=by
   unfold nx
   split<;>simp
  show(fold (nx S us) k (nx S us k a)).2.length<=_
  omega
def W(w:gM)(i:Nat)(seen:List Int):gM:=(w.1,w.2.1.set i ((w.2.1.getD i dS).1,(w.2.1.getD i dS).2.1,seen,(w.2.1.getD i dS).2.2.2),())
theorem ako{w:gM}{i:Nat}(hi:i<w.2.1.length):W w i (w.2.1.getD i dS).2.2.1=w:=by
 unfold W
 have:=OV hi dS
 rw[show((w.2.1.getD i dS).1,(w.2.1.getD i dS).2.1,(w.2.1.getD i dS).2.2.1,(w.2.1.getD i dS).2.2.2)=w.2.1.getD i dS from rfl,this]
def Sa(us:List Int):List Int:=[42,32,101,120,105,115,116,115,32]++nX (us.length:Int)
def Aq(us:List Int)(a:Acc):List (List Int):=if decide ((us.length:Int)>(a.1.length:Int))=true then a.2++[Sa us]else a.2
structure Fit(w:gM)(i p:Nat)(b:Bx):Prop where
 hi:i<w.2.1.length
 few:w.2.1.length<=1048576
 hp:p<w.1.2.2.2.1.2.1.length
 hb:w.1.2.2.2.1.2.1.getD p dB=b
 six:b.2.2.2.1.length<=6
 seen:(w.2.1.getD i dS).2.2.1.length<=6
theorem YZ{w:gM}{i:Nat}(hi:i<w.2.1.length)(s:List Int):(W w i s).2.1.getD i dS=((w.2.1.getD i dS).1,(w.2.1.getD i dS).2.1,s,(w.2.1.getD i dS).2.2.2):=xK hi _ _
theorem ata{S r:List Int}{k:Nat}(hk:k<S.length):(S.take (k+1)++r).getD k 0=S.getD k 0:=by
 rw[iR,xY (by simp;omega)]
 simp[hk]
theorem ap9{n:Nat}{w:gM}{i p:Nat}{b:Bx}(h:Fit w i p b)(hn:big<n){B:(Int×Int×Int×gM×List (List Int)×Unit->Option (List (List Int)×gM×Unit))->Int×Int×Int×gM×List (List Int)×Unit->Option (List (List Int)×gM×Unit)}
  (hB:∀L v2,B L v2=(if decide (v2.2.2.1>=(0:Int))=true then(if aF v2.2.2.1 ((((v2.2.2.2.1.2.1.getD v2.1.toNat dS).2).2).1).length then((Gy n (v2.2.2.2.1.1.2.2.2.1.2.1.getD v2.2.1.toNat dB) (((((v2.2.2.2.1.2.1.getD v2.1.toNat dS).2).2).1).getD v2.2.2.1.toNat (0:Int))).bind λr3=>(if decide (r3.1<(0:Int))=true then((Hu n ((((v2.2.2.2.1.2.1.getD v2.1.toNat dS).2).2).1) v2.2.2.1 (IntKind.i64.wrap (v2.2.2.1+(1:Int)))).bind λr4=>((Bd n (IntKind.i64.wrap (v2.2.2.1+(1:Int)))).bind λr5=>(if [42,32,103,111,110,101,32].length+r5.1.length<=9223372036854775807 then(if(v2.2.2.2.2.1.length+[[42,32,103,111,110,101,32]++r5.1].length)*16<=140737488355328 then L (v2.1,v2.2.1,IntKind.i64.wrap (v2.2.2.1-(1:Int)),(v2.2.2.2.1.1,(bY (bY v2.2.2.2.1.2.1 v2.1.toNat dS λz1=>(z1.1,z1.2.1,r4.2.1,z1.2.2.2)) v2.1.toNat dS λz1=>(z1.1,z1.2.1,(((((bY v2.2.2.2.1.2.1 v2.1.toNat dS λz1=>(z1.1,z1.2.1,r4.2.1,z1.2.2.2)).getD v2.1.toNat dS).2).2).1).take r4.1.toNat,z1.2.2.2)),v2.2.2.2.1.2.2),v2.2.2.2.2.1++[[42,32,103,111,110,101,32]++r5.1],())else none)else none)))else L (v2.1,v2.2.1,IntKind.i64.wrap (v2.2.2.1-(1:Int)),v2.2.2.2.1,v2.2.2.2.2.1,())))else none)else(if decide (((((((v2.2.2.2.1.1.2.2.2.1.2.1.getD v2.2.1.toNat dB).2).2).2).1).length:Int)>(((((v2.2.2.2.1.2.1.getD v2.1.toNat dS).2).2).1).length:Int))=true then((GU n (v2.2.2.2.1.1.2.2.2.1.2.1.getD v2.2.1.toNat dB)).bind λr6=>((Lb n (((((bY v2.2.2.2.1.2.1 v2.1.toNat dS λz1=>(z1.1,z1.2.1,r6.1,z1.2.2.2)).getD v2.1.toNat dS).2).2).1)).bind λr7=>((Bd n r7.1).bind λr8=>(if [42,32,101,120,105,115,116,115,32].length+r8.1.length<=9223372036854775807 then(if(v2.2.2.2.2.1.length+[[42,32,101,120,105,115,116,115,32]++r8.1].length)*16<=140737488355328 then some (v2.2.2.2.2.1++[[42,32,101,120,105,115,116,115,32]++r8.1],(v2.2.2.2.1.1,(bY v2.2.2.2.1.2.1 v2.1.toNat dS λz1=>(z1.1,z1.2.1,r6.1,z1.2.2.2)),v2.2.2.2.1.2.2),())else none)else none))))else some (v2.2.2.2.2.1,v2.2.2.2.1,())))) :
  rounds B n ((i:Int),(p:Int),(((w.2.1.getD i dS).2.2.1.length:Int)-1),w,[],())=some (Aq (dJ b) (fold (nx (w.2.1.getD i dS).2.2.1 (dJ b)) (w.2.1.getD i dS).2.2.1.length ([],[])),W w i (if decide (((dJ b).length:Int)>((fold (nx (w.2.1.getD i dS).2.2.1 (dJ b)) (w.2.1.getD i dS).2.2.1.length ([],[])).1.length:Int))=true then dJ b else(fold (nx (w.2.1.getD i dS).2.2.1 (dJ b)) (w.2.1.getD i dS).2.2.1.length ([],[])).1),()):=by
 have hn':1048576<n:=hn
 obtain⟨h1,h1',h2,h3,h4,h5⟩:=h
 have NS:(dJ b).length=b.2.2.2.1.length:=by simp[dJ]
 have hb:b.2.2.2.1.length<=big:=by unfold big;omega
 generalize hS:(w.2.1.getD i dS).2.2.1=S at *
 refine Eq.trans ?_ (RZ (B:=B) (λk (a:Acc)=>((i:Int),(p:Int),(k:Int)-1,W w i (S.take k++a.1),a.2,())) (nx S (dJ b)) (λk a=>a.2.length+k<=10)
  (fin:=λa=>some (Aq (dJ b) a,W w i (if decide (((dJ b).length:Int)>(a.1.length:Int))=true then dJ b else a.1),())) (m:=S.length) ?_ ?_ S.length (bV _) n ([],[]) (by omega) (by simp;omega))
 ·rw[pY,iq,<-hS,ako h1]
 ·intro L k a hk ho
  have e:((k+1:Nat):Int)-1=(k:Int):=by omega
  have hlen:k<(S.take (k+1)++a.1).length:=by simp;omega
  have hW:=YZ h1 (S.take (k+1)++a.1)
  have SV:i<(W w i (S.take (k+1)++a.1)).2.1.length:=by simp[W];exact h1
  have hW1:(W w i (S.take (k+1)++a.1)).1=w.1:=rfl
  have w1:IntKind.i64.wrap ((k:Int)-1)=(k:Int)-1:=wrap_i64 (by omega) (by omega)
  have hk2:k<6:=by omega
  obtain⟨t,d1,d2⟩:=delete (n:=n) hlen
  have hd:Bd n ((k+1:Nat):Int)=some (nX ((k+1:Nat):Int),()):=ZN (by omega) (by omega)
  have hdl:(nX ((k+1:Nat):Int)).length<=4:=(digit (n:=4) (by omega) (v:=((k+1:Nat):Int)) (by omega) (by omega)).2
  simp only[hB,e,dA,hW,hW1,h3,bU hlen,ata hk,message hb hn,aG,acK]
  rw[aj (by rw[dW];omega)]
  simp only[aQ]
  by_cases hc:(dJ b).contains (S.getD k 0)=true
  ·have hnx:nx S (dJ b) k a=(S.getD k 0 :: a.1,a.2):=by unfold nx;rw[aj hc]
   rw[hnx,hc]
   simp only[fK,bg,aZ,w1]
   refine⟨?_,by show a.2.length+k<=10;omega⟩
   rw[D5 hk,getD_lt hk,gD]
   rfl
  ·have hc':(dJ b).contains (S.getD k 0)=false:=by simpa using hc
   have hnx:nx S (dJ b) k a=(a.1,a.2++[Nz k]):=by unfold nx;rw[aC hc]
   rw[hnx,hc',dL hk2 (by omega),d1]
   simp only[jf,aQ,aG,hd,w1]
   rw[aj (by simp only[gF,kK];omega),aj (by simp only[gL];omega)]
   refine⟨?_,by simp only[dN,gL];omega⟩
   refine congrArg L ?_
   unfold bY
   rw[xK SV,hW,List.set_set]
   simp only[dA,d2]
   unfold W Nz
   rw[List.set_set]
   refine congrArg (λx=>((i:Int),(p:Int),(k:Int)-1,(w.1,w.2.1.set i ((w.2.1.getD i dS).1,(w.2.1.getD i dS).2.1,x,(w.2.1.getD i dS).2.2.2),()),a.2++[[42,32,103,111,110,101,32]++nX ((k+1:Nat):Int)],())) ?_
   rw[List.take_append_of_le_length (by simp;omega),List.take_take,Nat.min_eq_left (by omega),List.drop_append_of_le_length (by simp;omega)]
   simp
 ·intro L a ho
  have hW:=YZ h1 a.1
  have SV:i<(W w i a.1).2.1.length:=by simp[W];exact h1
  have hW1:(W w i a.1).1=w.1:=rfl
  show B L ((i:Int),(p:Int),((0:Nat):Int)-1,W w i a.1,a.2,())=_
  simp only[hB,dA,hW,hW1,h3,vD hb hn,aG]
  rw[aC (by rw[dW];omega)]
  unfold Aq
  rw[NS]
  by_cases hg:(b.2.2.2.1.length:Int)>(a.1.length:Int)
  ·have hd:Bd n ((dJ b).length:Int)=some (nX ((dJ b).length:Int),()):=ZN (by omega) (by omega)
   have hdl:(nX ((dJ b).length:Int)).length<=4:=(digit (n:=4) (by omega) (v:=((dJ b).length:Int)) (by omega) (by omega)).2
   have q:∀xs:List Int,Lb n xs=some ((xs.length:Int),()):=λ_=>rfl
   rw[gQ hg]
   simp only[aQ,q,aG]
   unfold bY
   rw[xK SV]
   simp only[hd,aG]
   rw[aj (by simp only[gF,kK];omega),aj (by simp only[gL];omega),hW]
   unfold W Sa
   rw[List.set_set]
  ·rw[g_ hg]
   rfl
theorem ap_{n:Nat}{w:gM}{i p:Nat}{b:Bx}(h:Fit w i p b)(hn:big<n){B:(Int×Int×gM×Bx×List (List Int)×List Int×Unit->Option (List (List Int)×gM×Unit))->Int×Int×gM×Bx×List (List Int)×List Int×Unit->Option (List (List Int)×gM×Unit)}
  (hB:∀L v2,B L v2=(if decide (v2.2.1>=(0:Int))=true then(if aF v2.2.1 ((((v2.2.2.1.2.1.getD v2.1.toNat dS).2).2).1).length then((HY n v2.2.2.2.1 (((((v2.2.2.1.2.1.getD v2.1.toNat dS).2).2).1).getD v2.2.1.toNat (0:Int))).bind λr3=>(if decide (r3.1<(0:Int))=true then((vI n (IntKind.i64.wrap (v2.2.1+(1:Int)))).bind λr4=>(if [42,32,103,111,110,101,32].length+r4.1.length<=9223372036854775807 then(if(v2.2.2.2.2.1.length+[[42,32,103,111,110,101,32]++r4.1].length)*16<=140737488355328 then L (v2.1,IntKind.i64.wrap (v2.2.1-(1:Int)),v2.2.2.1,v2.2.2.2.1,v2.2.2.2.2.1++[[42,32,103,111,110,101,32]++r4.1],v2.2.2.2.2.2.1,())else none)else none))else(if aF v2.2.1 ((((v2.2.2.1.2.1.getD v2.1.toNat dS).2).2).1).length then(if(v2.2.2.2.2.2.1.length+[((((v2.2.2.1.2.1.getD v2.1.toNat dS).2).2).1).getD v2.2.1.toNat (0:Int)].length)*8<=140737488355328 then L (v2.1,IntKind.i64.wrap (v2.2.1-(1:Int)),v2.2.2.1,v2.2.2.2.1,v2.2.2.2.2.1,v2.2.2.2.2.2.1++[((((v2.2.2.1.2.1.getD v2.1.toNat dS).2).2).1).getD v2.2.1.toNat (0:Int)],())else none)else none)))else none)else(if decide ((v2.2.2.2.1.2.2.2.1.length:Int)>(v2.2.2.2.2.2.1.length:Int))=true then((vI n (v2.2.2.2.1.2.2.2.1.length:Int)).bind λr5=>(if [42,32,101,120,105,115,116,115,32].length+r5.1.length<=9223372036854775807 then(if(v2.2.2.2.2.1.length+[[42,32,101,120,105,115,116,115,32]++r5.1].length)*16<=140737488355328 then((Bj n v2.2.2.2.1).bind λr6=>some (v2.2.2.2.2.1++[[42,32,101,120,105,115,116,115,32]++r5.1],(v2.2.2.1.1,(bY v2.2.2.1.2.1 v2.1.toNat dS λz1=>(z1.1,z1.2.1,r6.1,z1.2.2.2)),v2.2.2.1.2.2),()))else none)else none))else((Bj n v2.2.2.2.1).bind λr7=>some (v2.2.2.2.2.1,(v2.2.2.1.1,(bY v2.2.2.1.2.1 v2.1.toNat dS λz1=>(z1.1,z1.2.1,r7.1,z1.2.2.2)),v2.2.2.1.2.2),()))))) :
  rounds B n ((i:Int),(((w.2.1.getD i dS).2.2.1.length:Int)-1),w,b,[],[],())=some (Aq (dJ b) (fold (nx (w.2.1.getD i dS).2.2.1 (dJ b)) (w.2.1.getD i dS).2.2.1.length ([],[])),W w i (dJ b),()):=by
 have hn':1048576<n:=hn
 obtain⟨h1,h1',h2,h3,h4,h5⟩:=h
 have NS:(dJ b).length=b.2.2.2.1.length:=by simp[dJ]
 have hb:b.2.2.2.1.length<=big:=by unfold big;omega
 generalize hS:(w.2.1.getD i dS).2.2.1=S at *
 refine RZ (B:=B) (λk (a:Acc)=>((i:Int),(k:Int)-1,w,b,a.2,a.1.reverse,())) (nx S (dJ b)) (λk a=>a.1.length+k<=10/\a.2.length+k<=10)
  (fin:=λa=>some (Aq (dJ b) a,W w i (dJ b),())) (m:=S.length) ?_ ?_ S.length (bV _) n ([],[]) (by omega) (by simp;omega)
 ·intro L k a hk ho
  have e:((k+1:Nat):Int)-1=(k:Int):=by omega
  have w1:IntKind.i64.wrap ((k:Int)-1)=(k:Int)-1:=wrap_i64 (by omega) (by omega)
  have hk2:k<6:=by omega
  obtain⟨d1,d2⟩:=digit (n:=n) (by omega) (v:=((k+1:Nat):Int)) (by omega) (by omega)
  simp only[hB,e,dA,hS,bU hk,apH hb hn,aG,acK]
  rw[aj (by rw[dW];omega)]
  simp only[aQ]
  by_cases hc:(dJ b).contains (S.getD k 0)=true
  ·have hnx:nx S (dJ b) k a=(S.getD k 0 :: a.1,a.2):=by unfold nx;rw[aj hc]
   rw[hnx,hc]
   simp only[fK,bg,aZ,w1,List.length_reverse,gL]
   rw[aj (by omega)]
   refine⟨?_,by show a.1.length+1+k<=10;omega,by show a.2.length+k<=10;omega⟩
   rw[List.reverse_cons]
  ·have hc':(dJ b).contains (S.getD k 0)=false:=by simpa using hc
   have hnx:nx S (dJ b) k a=(a.1,a.2++[Nz k]):=by unfold nx;rw[aC hc]
   rw[hnx,hc',dL hk2 (by omega),d1]
   simp only[jf,aQ,aG,w1]
   rw[aj (by simp only[gF,kK];omega),aj (by simp only[gL];omega)]
   exact⟨rfl,by show a.1.length+k<=10;omega,by simp only[dN,gL];omega⟩
 ·intro L a ho
  show B L ((i:Int),((0:Nat):Int)-1,w,b,a.2,a.1.reverse,())=_
  simp only[hB,dA,apF hb hn,aG,List.length_reverse]
  rw[aC (by rw[dW];omega)]
  unfold Aq
  rw[NS]
  by_cases hg:(b.2.2.2.1.length:Int)>(a.1.length:Int)
  ·obtain⟨d1,d2⟩:=digit (n:=n) (by omega) (v:=(b.2.2.2.1.length:Int)) (by omega) (by omega)
   rw[gQ hg]
   simp only[aQ,d1,aG]
   rw[aj (by simp only[gF,kK];omega),aj (by simp only[gL];omega)]
   unfold Sa
   rw[NS]
   rfl
  ·rw[g_ hg]
   rfl
def Nq:List (List Int):=[[42,32,99,108,111,115,101,100]]
theorem told{n:Nat}{w:gM}{i:Nat}(h:uP w)(hi:i<w.2.1.length)(hS:(w.2.1.getD i dS).2.2.1.length<=6)(hr:(w.2.1.getD i dS).1≠[]->(w.2.1.getD i dS).2.2.1.Pairwise (· < ·))(hg:GS w.1.2.2.2.1)(hn:big<n) :
  ∃(l:List (List Int)) (s:nT),Me n w (i:Int)=some (l,(w.1,w.2.1.set i s,()),())/\K8 n w (i:Int)=some (l,(w.1,w.2.1.set i s,()),())/\l.length<=10/\uG s:=by
 have hl:w.2.1.length<=1048576:=h.l
 have hs:=h.s _ (kP hi dS)
 unfold Me K8
 simp only[dA,bU hi,aQ]
 by_cases c0:(w.2.1.getD i dS).1=[]
 ·rw[gQ c0]
  simp only[aQ]
  refine⟨[],w.2.1.getD i dS,?_,?_,by simp,hs⟩<;>rw[OV hi dS]
 ·rw[g_ c0]
  simp only[bg,aZ]
  unfold Qd PU
  rw[Om h.v.st.1 hn,box h.v.st.1 hn]
  simp only[dA,bU hi,aQ,aG]
  have cl:∃s:nT,(bY (bY (bY w.2.1 i dS λz1=>(([]:List Int),z1.2)) i dS λz1=>(z1.1,(0:Int),z1.2.2)) i dS λz1=>(z1.1,z1.2.1,([]:List Int),z1.2.2.2))=w.2.1.set i s/\w.2.1.set i (([]:List Int),(0:Int),([]:List Int),(w.2.1.getD i dS).2.2.2.1,())=w.2.1.set i s/\uG s:=by
   refine⟨([],0,[],(w.2.1.getD i dS).2.2.2.1,()),?_,rfl,by simp,by simp⟩
   unfold bY
   rw[List.set_set,List.set_set,xK (by rw[List.length_set];exact hi),xK hi]
  rcases yU w.1.2.2.2.1 (w.2.1.getD i dS).1 with hp|⟨p,hp,hpl⟩
  ·rw[hp]
   simp only[show((-1:Int)<0) by omega,bG,aQ,aG,jf]
   obtain⟨s,e1,e2,e3⟩:=cl
   exact⟨Nq,s,by rw[e1];rfl,by rw[e2];rfl,by simp[Nq],e3⟩
  ·rw[hp]
   have np:¬((p:Int)<0):=by omega
   simp only[np,cO,bg,aZ,bU hpl,aQ,dA]
   by_cases c1:(w.1.2.2.2.1.2.1.getD p dB).2.1=(w.2.1.getD i dS).2.1
   ·rw[gQ c1]
    have np2:(0:Int)<=(p:Int):=by omega
    simp only[fK,bg,aZ,np2,aQ,aG,np,cO,dA]
    have hb:=(hg.each _ (kP hpl dB)).1
    have hF:Fit w i p (w.1.2.2.2.1.2.1.getD p dB):=⟨hi,hl,hpl,rfl,hb.few,hS⟩
    have w1:IntKind.i64.wrap (((w.2.1.getD i dS).2.2.1.length:Int)-1)=((w.2.1.getD i dS).2.2.1.length:Int)-1:=wrap_i64 (by omega) (by omega)
    rw[w1]
    have e1:=ap_ hF hn (B:=_) (λ_ _=>rfl)
    have e2:=ap9 hF hn (B:=_) (λ_ _=>rfl)
    generalize hf:fold (nx (w.2.1.getD i dS).2.2.1 (dJ (w.1.2.2.2.1.2.1.getD p dB))) (w.2.1.getD i dS).2.2.1.length ([],[])=a at e1 e2
    have g1:a.1=(w.2.1.getD i dS).2.2.1.filter ((dJ (w.1.2.2.2.1.2.1.getD p dB)).contains ·):=by
     rw[<-hf,aai _ _ _ (bV _),pY,iq]
    have g2:a.2.length<=6:=by
     rw[<-hf]
     have:=aaj (w.2.1.getD i dS).2.2.1 (dJ (w.1.2.2.2.1.2.1.getD p dB)) (w.2.1.getD i dS).2.2.1.length ([],[])
     simp only[kK]at this
     omega
    have hup:(dJ (w.1.2.2.2.1.2.1.getD p dB)).Pairwise (· < ·):=by
     unfold dJ
     exact List.pairwise_map.2 hb.up
    obtain⟨r1,r2⟩:=arl (a:=a.1) (by rw[g1];exact(hr c0).filter _) hup (λx hx=>by
     rw[g1]at hx
     exact List.contains_iff_mem.1 (eH.1 hx).2)
    have e3:(if decide (((dJ (w.1.2.2.2.1.2.1.getD p dB)).length:Int)>(a.1.length:Int))=true then dJ (w.1.2.2.2.1.2.1.getD p dB)else a.1)=dJ (w.1.2.2.2.1.2.1.getD p dB):=by
     split
     ·rfl
     ·rename_i hh
      rw[dW]at hh
      exact r2 (by omega)
    rw[e3]at e2
    refine⟨Aq (dJ (w.1.2.2.2.1.2.1.getD p dB)) a,((w.2.1.getD i dS).1,(w.2.1.getD i dS).2.1,dJ (w.1.2.2.2.1.2.1.getD p dB),(w.2.1.getD i dS).2.2.2),e1,e2,?_,hs.1,?_⟩
    ·unfold Aq
     split
     ·simp;omega
     ·omega
    ·have:=hb.few
     simp only[dJ,nP]
     unfold big
     omega
   ·rw[g_ c1]
    simp only[jf,aQ,aG,show((-1:Int)<0) by omega,bG]
    obtain⟨s,e1,e2,e3⟩:=cl
    exact⟨Nq,s,by rw[e1];rfl,by rw[e2];rfl,by simp[Nq],e3⟩
end Go.Proofs.YtplpeegfeajkkaaGreatDoor.YS
