/- Stores: copies, equalities, sizes, faults, as the printed functions make them. -/
import Derived.Test.YtplpeegfeajkkaaGreatDoorSyF
set_option linter.unusedVariables false
set_option linter.unusedSimpArgs false
namespace Go.Proofs.YtplpeegfeajkkaaGreatDoor.oI
open Go Ow nE nQ
abbrev cK:=Int×Int×Int×(List Int)×Unit
abbrev Bx:=(List Int)×Int×Int×(List cK)×Unit
abbrev cu:=Int×(List Bx)×Unit
def lG(m:cK):Prop:=m.2.2.2.1.length<=big
def okB(b:Bx):Prop:=b.1.length<=big/\b.2.2.2.1.length<=big/\∀m∈b.2.2.2.1,lG m
def iK(s:cu):Prop:=s.2.1.length<=big/\∀b∈s.2.1,okB b
theorem wM{n:Nat}(a b c:Int):qY n a b c=kJ n a b c:=rfl
theorem ql{n:Nat}(a b c:Int):kJ n a b c=some (decide (b<=a/\a<=c),()):=by
 unfold kJ
 by_cases h1:b<=a
 ·by_cases h2:a<=c<;>simp[h1,h2]
 ·simp[h1]
def ni(s:List Int):Prop:=(1<=s.length/\s.length<=8)/\∀c∈s,97<=c/\c<=122
instance (s:List Int):Decidable (ni s):=by unfold ni;infer_instance
theorem Ny{R:Type}{p:Nat->Prop}[DecidablePred p]{r fin:R}:∀{m i:Nat},((∃j,i<=j/\j<i+m/\p j)->fJ (λj=>if p j then some r else none) fin m i=r)/\((¬∃j,i<=j/\j<i+m/\p j)->fJ (λj=>if p j then some r else none) fin m i=fin):=by
 intro m
 induction m with
 |zero=>intro i;exact⟨λ⟨j,h1,h2,_⟩=>by omega,λ_=>rfl⟩
 |succ m ih=>
  intro i
  unfold fJ
  by_cases h:p i
  ·simp only[h,aQ]
   exact⟨λ_=>by first|trivial|rfl,λhn=>absurd ⟨i,bV _,by omega,h⟩ hn⟩
  ·simp only[h,aZ]
   refine⟨λ⟨j,h1,h2,h3⟩=>ih.1 ⟨j,?_,by omega,h3⟩,λhn=>ih.2 λ⟨j,h1,h2,h3⟩=>hn ⟨j,by omega,by omega,h3⟩⟩
   have:j≠i:=λe=>h (e▸h3)
   omega
theorem I5{step:Nat->Option (Option (Int×Unit))}(h:∀i,step i=none\/∃r:Int,r≠0/\step i=some (some (r,()))):∀{m i:Nat},∃r:Int,fJ step (some ((0:Int),())) m i=some (r,())/\(r=0↔∀j,i<=j->j<i+m->step j=none):=by
 intro m
 induction m with
 |zero=>intro i;exact⟨0,rfl,λ_ j h1 h2=>by omega,λ_=>rfl⟩
 |succ m ih=>
  intro i
  unfold fJ
  rcases h i with h0|⟨r,hr,h0⟩
  ·rw[h0]
   obtain⟨r,h1,h2⟩:=ih (i:=i+1)
   refine⟨r,h1,h2.trans ⟨λg j g1 g2=>?_,λg j g1 g2=>g j (by omega) (by omega)⟩⟩
   by_cases e:j=i
   ·subst e;exact h0
   ·exact g j (by omega) (by omega)
  ·rw[h0]
   refine⟨r,rfl,λe=>absurd e hr,λg=>?_⟩
   have:=g i (bV _) (by omega)
   rw[h0]at this
   simp at this
theorem name_eq{n:Nat}{s:List Int}(hs:s.length<=big)(hn:big<n):zf n s=some (decide (ni s),())/\zo n s=some (decide (ni s),()):=by
 unfold big at hs hn
 let p:Nat->Prop:=λi=>s.getD i 0<97\/s.getD i 0>122
 let step:Nat->Option (Option (Bool×Unit)):=λi=>if s.getD i 0<97\/s.getD i 0>122 then some (some (false,()))else none
 let fin:Option (Bool×Unit):=some (decide (1<=(s.length:Int)/\(s.length:Int)<=8),())
 have h1:zo n s=fJ step fin s.length 0:=by
  unfold zo
  refine gp (λi=>(s,(i:Int),())) step fin rfl (by omega) ?_ ?_
  ·intro L i hi _
   simp only[eB,hi,bG,aQ,bU hi,dL hi (by omega),dA,step]
   by_cases c1:s.getD i 0<97
   ·rw[aj (gQ c1),aj (Or.inl c1)]
   ·rw[aC (by rw[dW];exact c1)]
    by_cases c2:s.getD i 0>122
    ·rw[aj (gQ c2),aj (Or.inr c2)]
    ·rw[aC (by rw[dW];exact c2),aC (by rintro(h|h);exact c1 h;exact c2 h)]
  ·intro L _
   simp only[qz,cO,bg,aZ,ql,aG,fin]
 have h2:La n s 8=fJ step fin s.length 0:=by
  unfold La
  refine gp (λi=>(s,(8:Int),(s.length:Int),(i:Int),())) step fin rfl (by omega) ?_ ?_
  ·intro L i hi _
   simp only[eB,hi,bG,aQ,bU hi,dL hi (by omega),dA,step]
   by_cases c1:s.getD i 0<97
   ·rw[aj (gQ c1),aj (Or.inl c1)]
   ·rw[aC (by rw[dW];exact c1)]
    by_cases c2:s.getD i 0>122
    ·rw[aj (gQ c2),aj (Or.inr c2)]
    ·rw[aC (by rw[dW];exact c2),aC (by rintro(h|h);exact c1 h;exact c2 h)]
  ·intro L _
   simp only[qz,cO,bg,aZ,fin]
   by_cases c1:(1:Int)<=(s.length:Int)
   ·by_cases c2:(s.length:Int)<=8<;>simp[c1,c2]
   ·simp[c1]
 have h3:fJ step fin s.length 0=some (decide (ni s),()):=by
  by_cases hx:∃j,0<=j/\j<0+s.length/\p j
  ·refine(Ny (p:=p) (r:=some (false,())) (fin:=fin)).1 hx |>.trans ?_
   obtain⟨j,_,hj,hp⟩:=hx
   have:¬ni s:=λg=>by
    have hj':j<s.length:=by omega
    have hm:=g.2 s[j] (iC hj')
    have e:s.getD j 0=s[j]:=by simp[hj']
    have hp':s.getD j 0<97\/s.getD j 0>122:=hp
    rw[e]at hp'
    omega
   rw[g_ this]
  ·refine(Ny (p:=p) (r:=some (false,())) (fin:=fin)).2 hx |>.trans ?_
   show some (decide _,())=_
   congr 2
   rw[RY]
   unfold ni
   constructor
   ·rintro⟨a,b⟩
    refine⟨⟨by omega,by omega⟩,λc hc=>?_⟩
    obtain⟨j,hj,rfl⟩:=List.getElem_of_mem hc
    have e:s.getD j 0=s[j]:=by simp[hj]
    have:¬p j:=λhp=>hx ⟨j,fQ _,by omega,hp⟩
    have:¬(s.getD j 0<97\/s.getD j 0>122):=this
    rw[e]at this
    omega
   ·rintro⟨⟨a,b⟩,_⟩
    omega
 refine⟨?_,by rw[h1,h3]⟩
 unfold zf
 rw[h2,h3]
 rfl
def CS(m:cK):Int:=if(1<=m.1/\m.1<=999)/\(0<=m.2.1/\m.2.1<=15)/\(0<=m.2.2.1/\m.2.2.1<=9999)then(if m.2.2.2.1.length<=400 then 0 else 2)else 3
def Co(m:cK):Prop:=(1<=m.1/\m.1<=999)/\(0<=m.2.1/\m.2.1<=15)/\(0<=m.2.2.1/\m.2.2.1<=9999)/\m.2.2.2.1.length<=400
theorem Us(m:cK):CS m=0↔Co m:=by
 unfold CS Co
 constructor
 ·intro h
  split at h
  ·rename_i g
   split at h
   ·rename_i g2;exact⟨g.1,g.2.1,g.2.2,g2⟩
   ·omega
  ·omega
 ·rintro⟨a,b,c,d⟩
  rw[aj ⟨a,b,c⟩,aj d]
theorem message_eq{n:Nat}(m:cK):GD n m=some (CS m,())/\Br n m=some (CS m,()):=by
 have h1:GD n m=Br n m:=by
  unfold GD Br Dt xR xS
  simp only[wM,ql,aG]
 rw[h1]
 refine(and_self_iff).2 ?_
 unfold Br CS
 simp only[ql,aG]
 by_cases c1:1<=m.1/\m.1<=999
 ·by_cases c2:0<=m.2.1/\m.2.1<=15
  ·by_cases c3:0<=m.2.2.1/\m.2.2.1<=9999
   ·by_cases c4:(m.2.2.2.1.length:Int)>400
    ·have c5:¬m.2.2.2.1.length<=400:=by omega
     simp[c1,c2,c3,c4,c5]
    ·have c5:m.2.2.2.1.length<=400:=by omega
     simp[c1,c2,c3,c4,c5]
   ·simp[c1,c2,c3]
  ·simp[c1,c2]
 ·simp[c1]
abbrev dM:cK:=((0:Int),(0:Int),(0:Int),([]:List Int),())
abbrev dB:Bx:=(([]:List Int),(0:Int),(0:Int),([]:List cK),())
def mf(_:Nat)(m:cK):Int:=CS m
theorem Uu(n:Nat)(m:cK):Br n m=some (mf n m,())/\(mf n m=0->1<=m.1):=⟨(message_eq m).2,λh=>((Us m).1 h).1.1⟩
theorem aqt(n:Nat)(m:cK):mf n m=CS m:=rfl
def qo(ms:List cK):Nat->Int
 |0=>0
 |i+1=>(ms.getD i dM).1
theorem VE{j n:Nat}(h:j<n)(hn:n<=9223372036854775807):IntKind.i64.wrap (((j+1:Nat):Int)-1)=(j:Int):=by
 rw[wrap_i64 (by omega) (by omega)]
 omega
def Cn(b:Bx):Prop:=ni b.1/\(1<=b.2.1/\b.2.1<=999)/\(1<=b.2.2.1/\b.2.2.1<=1000)/\b.2.2.2.1.length<=6/\∀i,i<b.2.2.2.1.length->Co (b.2.2.2.1.getD i dM)/\qo b.2.2.2.1 i<(b.2.2.2.1.getD i dM).1/\(b.2.2.2.1.getD i dM).1<b.2.2.1
theorem akR{n:Nat}{b:Bx}(hb:okB b)(hn:big<n):Gx n b=Bo n b/\∃r,Bo n b=some (r,())/\(r=0↔Cn b):=by
 obtain⟨nm,id,nx,ms,⟨⟩⟩:=b
 obtain⟨b1,b2,b3⟩:=hb
 obtain⟨e1,e2⟩:=name_eq b1 hn
 have hlen:ms.length<=1048576:=b2
 unfold big at hn
 let step:Nat->Option (Option (Int×Unit)):=λi=>if mf n (ms.getD i dM)=0 then(if(ms.getD i dM).1<=qo ms i\/(ms.getD i dM).1>=nx then some (some (1,()))else none)else some (some (mf n (ms.getD i dM),()))
 let fin:Option (Int×Unit):=some (0,())
 have hr:∃r:Int,fJ step fin ms.length 0=some (r,())/\(r=0↔∀j,0<=j->j<0+ms.length->step j=none):=I5 (λi=>by
  simp only[step]
  by_cases c0:mf n (ms.getD i dM)=0
  ·rw[aj c0]
   by_cases c1:(ms.getD i dM).1<=qo ms i\/(ms.getD i dM).1>=nx
   ·rw[aj c1];exact .inr ⟨1,by omega,rfl⟩
   ·rw[aC c1];exact .inl rfl
  ·rw[aC c0];exact .inr ⟨_,c0,rfl⟩)
 have h1:∀(B:((Bx×Int×Unit)->Option (Int×Unit))->(Bx×Int×Unit)->Option (Int×Unit)),
   (∀L i,i<ms.length->B L ((nm,id,nx,ms,()),(i:Int),())=(if(!decide (mf n (ms.getD i dM)=0))=true then some (mf n (ms.getD i dM),())else(if(ms.getD i dM).1<=qo ms i\/(ms.getD i dM).1>=nx then some (1,())else L ((nm,id,nx,ms,()),((i+1:Nat):Int),()))))->
   (∀L,B L ((nm,id,nx,ms,()),(ms.length:Int),())=some (0,()))->rounds B n ((nm,id,nx,ms,()),(0:Int),())=fJ step fin ms.length 0:=by
  intro B g1 g2
  refine gp (λi=>((nm,id,nx,ms,()),(i:Int),())) step fin rfl (show ms.length<n by omega) ?_ (λL _=>g2 L)
  intro L i hi _
  rw[g1 L i hi]
  simp only[step]
  by_cases c0:mf n (ms.getD i dM)=0
  ·rw[aC (by rw[c0];simp),aj c0]
   split<;>rfl
  ·rw[aj (by simp only[g_ c0,jf]),aC c0]
 have h2:∀(B:((Int×List cK×Int×Int×Bx×Unit)->Option (Int×Unit))->(Int×List cK×Int×Int×Bx×Unit)->Option (Int×Unit)),
   (∀L i,i<ms.length->B L (qo ms i,ms,(ms.length:Int),(i:Int),(nm,id,nx,ms,()),())=(if(!decide (mf n (ms.getD i dM)=0))=true then some (mf n (ms.getD i dM),())else(if(ms.getD i dM).1<=qo ms i\/(ms.getD i dM).1>=nx then some (1,())else L (qo ms (i+1),ms,(ms.length:Int),((i+1:Nat):Int),(nm,id,nx,ms,()),()))))->
   (∀L,B L (qo ms ms.length,ms,(ms.length:Int),(ms.length:Int),(nm,id,nx,ms,()),())=some (0,()))->rounds B n ((0:Int),ms,(ms.length:Int),(0:Int),(nm,id,nx,ms,()),())=fJ step fin ms.length 0:=by
  intro B g1 g2
  refine gp (λi=>(qo ms i,ms,(ms.length:Int),(i:Int),(nm,id,nx,ms,()),())) step fin rfl (show ms.length<n by omega) ?_ (λL _=>g2 L)
  intro L i hi _
  rw[g1 L i hi]
  simp only[step]
  by_cases c0:mf n (ms.getD i dM)=0
  ·rw[aC (by rw[c0];simp),aj c0]
   split<;>rfl
  ·rw[aj (by simp only[g_ c0,jf]),aC c0]
 unfold Gx Bo
 simp only[e1,e2,wM,ql,aG]
 generalize hQ:rounds _ n ((nm,id,nx,ms,()),(0:Int),())=Q
 generalize SC:rounds _ n ((0:Int),ms,(ms.length:Int),(0:Int),(nm,id,nx,ms,()),())=Q1
 have hQ':Q=fJ step fin ms.length 0:=by
  refine hQ.symm.trans (h1 _ ?_ ?_)
  ·intro L i hi
   simp only[eB,hi,bG,aQ,bU hi,dL hi (by omega),dA,(Uu n _).1,aG]
   by_cases c0:mf n (ms.getD i dM)=0
   ·simp only[c0,bG,fK,bg,aZ]
    cases i with
    |zero=>
     have hp:=(Uu n (ms.getD 0 dM)).2 c0
     rw[aC (by simp)]
     by_cases c1:(ms.getD 0 dM).1>=nx
     ·rw[aj (gQ c1),aj (Or.inr c1)]
     ·rw[aC (by rw[dW];exact c1),aC (by
       rintro(h|h)
       ·simp only[qo]at h;omega
       ·exact c1 h)]
    |succ j=>
     have hj:j<ms.length:=by omega
     rw[aj (by simp),show qo ms (j+1)=(ms.getD j dM).1 from rfl]
     simp only[VE hj (by omega),bU hj,aQ,dA]
     by_cases c1:(ms.getD (j+1) dM).1<=(ms.getD j dM).1
     ·rw[aj (gQ c1),aj (Or.inl c1)]
     ·rw[aC (by rw[dW];exact c1)]
      by_cases c2:(ms.getD (j+1) dM).1>=nx
      ·rw[aj (gQ c2),aj (Or.inr c2)]
      ·rw[aC (by rw[dW];exact c2),aC (by
        rintro(h|h)
        ·exact c1 h
        ·exact c2 h)]
   ·simp only[g_ c0,jf,aQ]
  ·intro L
   simp only[qz,cO,bg,aZ]
 have SE:Q1=fJ step fin ms.length 0:=by
  refine SC.symm.trans (h2 _ ?_ ?_)
  ·intro L i hi
   simp only[eB,hi,bG,aQ,bU hi,dL hi (by omega),dA,(message_eq _).1,<-aqt n,(Uu n _).1,aG]
   by_cases c0:mf n (ms.getD i dM)=0
   ·simp only[c0,bG,fK,bg,aZ]
    by_cases c1:(ms.getD i dM).1<=qo ms i
    ·rw[aj (gQ c1),aj (Or.inl c1)]
    ·rw[aC (by rw[dW];exact c1)]
     by_cases c2:(ms.getD i dM).1>=nx
     ·rw[aj (gQ c2),aj (Or.inr c2)]
     ·rw[aC (by rw[dW];exact c2),aC (by
       rintro(h|h)
       ·exact c1 h
       ·exact c2 h)]
      rfl
   ·simp only[g_ c0,jf,aQ]
  ·intro L
   simp only[qz,cO,bg,aZ]
 rw[hQ',SE]
 obtain⟨r,hr,hiff⟩:=hr
 rw[hr]
 refine⟨rfl,?_⟩
 have hstep:(∀j,0<=j->j<0+ms.length->step j=none)↔∀i,i<ms.length->Co (ms.getD i dM)/\qo ms i<(ms.getD i dM).1/\(ms.getD i dM).1<nx:=by
  have one:∀i,step i=none↔Co (ms.getD i dM)/\qo ms i<(ms.getD i dM).1/\(ms.getD i dM).1<nx:=λi=>by
   simp only[step]
   by_cases c0:mf n (ms.getD i dM)=0
   ·rw[aj c0]
    have g:=(Us (ms.getD i dM)).1 c0
    by_cases c1:(ms.getD i dM).1<=qo ms i\/(ms.getD i dM).1>=nx
    ·rw[aj c1]
     constructor
     ·intro h;simp at h
     ·rintro⟨_,h1,h2⟩;omega
    ·rw[aC c1]
     exact⟨λ_=>⟨g,by omega,by omega⟩,λ_=>rfl⟩
   ·rw[aC c0]
    constructor
    ·intro h;simp at h
    ·rintro⟨h,_⟩;exact absurd ((Us _).2 h) c0
  exact⟨λh i hi=>(one i).1 (h i (fQ _) (by omega)),λh i _ hi=>(one i).2 (h i (by omega))⟩
 rw[hstep]at hiff
 unfold Cn
 by_cases d1:ni nm
 ·by_cases d2:1<=id/\id<=999
  ·by_cases d3:1<=nx/\nx<=1000
   ·by_cases d4:(ms.length:Int)>6
    ·exact⟨2,by simp[d1,d2,d3,d4],⟨λh=>by omega,by rintro⟨_,_,_,h,_⟩;exact absurd h (by show ¬ms.length<=6;omega)⟩⟩
    ·exact⟨r,by simp[d1,d2,d3,d4],by rw[hiff];exact⟨λh=>⟨d1,d2,d3,by show ms.length<=6;omega,h⟩,λh=>h.2.2.2.2⟩⟩
   ·exact⟨3,by simp[d1,d2,d3],⟨λh=>by omega,by rintro⟨_,_,h,_⟩;exact absurd h d3⟩⟩
  ·exact⟨3,by simp[d1,d2],⟨λh=>by omega,by rintro⟨_,h,_⟩;exact absurd h d2⟩⟩
 ·exact⟨5,by simp[d1],⟨λh=>by omega,by rintro⟨h,_⟩;exact absurd h d1⟩⟩
theorem amX{p:Nat->Prop}[DecidablePred p]:∀{m i:Nat},∃q:Int,fJ (λj=>if p j then some (some ((j:Int),()))else none) (some ((-1:Int),())) m i=some (q,())/\(0<=q↔∃j,i<=j/\j<i+m/\p j):=by
 intro m
 induction m with
 |zero=>intro i;exact⟨-1,rfl,⟨λh=>by omega,by rintro⟨j,h1,h2,_⟩;omega⟩⟩
 |succ m ih=>
  intro i
  unfold fJ
  by_cases h:p i
  ·simp only[h,aQ]
   exact⟨i,rfl,λ_=>⟨i,bV _,by omega,h⟩,λ_=>by omega⟩
  ·simp only[h,aZ]
   obtain⟨q,h1,h2⟩:=ih (i:=i+1)
   refine⟨q,h1,h2.trans ⟨λ⟨j,g1,g2,g3⟩=>⟨j,by omega,by omega,g3⟩,λ⟨j,g1,g2,g3⟩=>⟨j,?_,by omega,g3⟩⟩⟩
   have:j≠i:=λe=>h (e▸g3)
   omega
theorem apj{A C:Type}{f:A->C->Option (Bool×Unit)}{p:A->C->Prop}[∀x y,Decidable (p x y)]{d:A}{xs:List A}{y:C}{n:Nat}{B:(List A×C×Int×Int×Unit->Option (Int×Unit))->List A×C×Int×Int×Unit->Option (Int×Unit)}
  (hB:∀L v,B L v=(if decide (v.2.2.2.1<v.2.2.1)=true then(if aF v.2.2.2.1 v.1.length then((f (v.1.getD v.2.2.2.1.toNat d) v.2.1).bind λr2=>(if r2.1=true then some (v.2.2.2.1,())else L (v.1,v.2.1,v.2.2.1,IntKind.i64.wrap (v.2.2.2.1+(1:Int)),())))else none)else some ((-1:Int),())))
  (hf:∀x y,f x y=some (decide (p x y),())) (hb:xs.length<=big) (hn:big<n) :
  rounds B n (xs,y,(xs.length:Int),(0:Int),())=fJ (λj=>if p (xs.getD j d) y then some (some ((j:Int),()))else none) (some ((-1:Int),())) xs.length 0:=by
 unfold big at hb hn
 refine gp (λi=>(xs,y,(xs.length:Int),(i:Int),())) _ _ rfl (by omega) ?_ ?_
 ·intro L i hi _
  simp only[hB,eB,hi,bG,aQ,bU hi,dA,hf,aG,dL hi (by omega)]
  by_cases h:p (xs.getD i d) y
  ·rw[aj (gQ h),aj h]
  ·rw[aC (by rw[dW];exact h),aC h]
 ·intro L _
  simp only[hB,qz,cO,bg,aZ]
def dup(bs:List Bx)(i j:Nat):Prop:=(bs.getD j dB).1=(bs.getD i dB).1\/(bs.getD j dB).2.1=(bs.getD i dB).2.1
instance (bs:List Bx)(i j:Nat):Decidable (dup bs i j):=by unfold dup;infer_instance
theorem contains_eq{n:Nat}{bs:List Bx}{i:Nat}(hi:i<bs.length)(hb:bs.length<=big)(hn:big<n):∃t:Bool,LQ n (bs.take i) (bs.getD i dB)=some (t,())/\(t=true↔∃j,0<=j/\j<0+i/\dup bs i j):=by
 have hl:(bs.take i).length=i:=by simp;omega
 have h2:Hw n (bs.take i) (bs.getD i dB)=fJ (λj=>if(λ(x y:Bx)=>x.1=y.1\/x.2.1=y.2.1) ((bs.take i).getD j dB) (bs.getD i dB)then some (some ((j:Int),()))else none) (some ((-1:Int),())) (bs.take i).length 0:=by
  unfold Hw
  refine apj (f:=K3 n) (p:=λ(x y:Bx)=>x.1=y.1\/x.2.1=y.2.1) (d:=dB) (λL v=>rfl) (λx y=>?_) (by rw[hl];omega) hn
  unfold K3
  by_cases h1:x.1=y.1
  ·simp[h1]
  ·simp[h1]
 rw[hl]at h2
 have h3:Hw n (bs.take i) (bs.getD i dB)=fJ (λj=>if dup bs i j then some (some ((j:Int),()))else none) (some ((-1:Int),())) i 0:=by
  rw[h2]
  refine amW rfl λj _ hj=>?_
  have e:(bs.take i).getD j dB=bs.getD j dB:=by
   simp only[iR,MP,show j<i by omega,aQ]
  show(if(_\/_)then _ else _)=_
  rw[e]
  rfl
 obtain⟨q,hq,hiff⟩:=amX (p:=dup bs i) (m:=i) (i:=0)
 refine⟨decide (q>=0),?_,?_⟩
 ·unfold LQ
  rw[h3,hq]
  rfl
 ·rw[dW]
  exact hiff
def bf(n:Nat)(b:Bx):Int:=((Bo n b).getD (0,())).1
theorem Rs{n:Nat}{b:Bx}(hb:okB b)(hn:big<n):Bo n b=some (bf n b,())/\Gx n b=some (bf n b,())/\(bf n b=0↔Cn b):=by
 obtain⟨h0,r,h1,h2⟩:=akR hb hn
 have:bf n b=r:=by unfold bf;rw[h1];rfl
 rw[h0,this]
 exact⟨h1,h1,h2⟩
def uw(s:cu):Prop:=(1<=s.1/\s.1<=1000)/\s.2.1.length<=3/\∀i,i<s.2.1.length->Cn (s.2.1.getD i dB)/\(s.2.1.getD i dB).2.1<s.1/\∀j,j<i->¬dup s.2.1 i j
theorem Sc{n:Nat}{s:cu}(hs:iK s)(hn:big<n):Dn n s=Bq n s/\∃r,Bq n s=some (r,())/\(r=0↔uw s):=by
 obtain⟨nx,bs,⟨⟩⟩:=s
 obtain⟨s1,s2⟩:=hs
 have hlen:bs.length<=1048576:=s1
 have hn':1048576<n:=hn
 classical
 let step:Nat->Option (Option (Int×Unit)):=λi=>if bf n (bs.getD i dB)=0 then(if(bs.getD i dB).2.1>=nx then some (some (9,()))else if ∃j,0<=j/\j<0+i/\dup bs i j then some (some (6,()))else none)else some (some (bf n (bs.getD i dB),()))
 let fin:Option (Int×Unit):=some (0,())
 have hr:∃r:Int,fJ step fin bs.length 0=some (r,())/\(r=0↔∀j,0<=j->j<0+bs.length->step j=none):=I5 (λi=>by
  simp only[step]
  by_cases c0:bf n (bs.getD i dB)=0
  ·rw[aj c0]
   by_cases c1:(bs.getD i dB).2.1>=nx
   ·rw[aj c1];exact .inr ⟨9,by omega,rfl⟩
   ·rw[aC c1]
    by_cases c2:∃j,0<=j/\j<0+i/\dup bs i j
    ·rw[aj c2];exact .inr ⟨6,by omega,rfl⟩
    ·rw[aC c2];exact .inl rfl
  ·rw[aC c0];exact .inr ⟨_,c0,rfl⟩)
 have hok:∀i,i<bs.length->okB (bs.getD i dB):=λi hi=>by
  have:bs.getD i dB=bs[i]:=by simp[hi]
  rw[this]
  exact s2 _ (iC hi)
 unfold Dn Bq
 simp only[wM,ql,aG]
 generalize hQ:rounds _ n ((nx,bs,()),(0:Int),())=Q
 generalize SC:rounds _ n (bs,(bs.length:Int),(0:Int),(nx,bs,()),())=Q1
 have hQ':Q=fJ step fin bs.length 0:=by
  refine hQ.symm.trans (gp (λi=>((nx,bs,()),(i:Int),())) step fin rfl (by omega) ?_ ?_)
  ·intro L i hi _
   simp only[eB,hi,bG,aQ,bU hi,dA,(Rs (hok i hi) hn).1,aG,step]
   by_cases c0:bf n (bs.getD i dB)=0
   ·simp only[c0,bG,fK,bg,aZ,aQ]
    by_cases c1:(bs.getD i dB).2.1>=nx
    ·rw[aj (gQ c1),aj c1]
    ·rw[aC (by rw[dW];exact c1),aC c1]
     refine(gp (λj=>((nx,bs,()),(i:Int),(j:Int),())) (λj=>if dup bs i j then some (some (6,()))else none) (L ((nx,bs,()),((i+1:Nat):Int),())) (m:=i) rfl (by omega) ?_ ?_).trans ?_
     ·intro L4 j hj _
      have hj':j<bs.length:=by omega
      simp only[eB,hj,bG,aQ,bU hj',bU hi,dA,dL hj (by omega)]
      by_cases d1:(bs.getD j dB).1=(bs.getD i dB).1
      ·rw[aj (gQ d1),aj (show dup bs i j from .inl d1)]
      ·rw[aC (by rw[dW];exact d1)]
       by_cases d2:(bs.getD j dB).2.1=(bs.getD i dB).2.1
       ·rw[aj (gQ d2),aj (show dup bs i j from .inr d2)]
       ·rw[aC (by rw[dW];exact d2),aC (by rintro(h|h);exact d1 h;exact d2 h)]
     ·intro L4 _
      simp only[qz,cO,bg,aZ,dL hi (by omega)]
     ·by_cases hd:∃j,0<=j/\j<0+i/\dup bs i j
      ·rw[aj hd];exact Ny.1 hd
      ·rw[aC hd];exact Ny.2 hd
   ·simp only[g_ c0,jf,aQ,aC c0]
  ·intro L _
   simp only[qz,cO,bg,aZ,fin]
 have SE:Q1=fJ step fin bs.length 0:=by
  refine SC.symm.trans (gp (λi=>(bs,(bs.length:Int),(i:Int),(nx,bs,()),())) step fin rfl (by omega) ?_ ?_)
  ·intro L i hi _
   obtain⟨t,t1,t2⟩:=contains_eq hi s1 hn
   simp only[eB,hi,bG,aQ,bU hi,dA,(Rs (hok i hi) hn).2.1,aG,step]
   by_cases c0:bf n (bs.getD i dB)=0
   ·simp only[c0,bG,fK,bg,aZ,aQ]
    by_cases c1:(bs.getD i dB).2.1>=nx
    ·rw[aj (gQ c1),aj c1]
    ·rw[aC (by rw[dW];exact c1),aC c1,aj ⟨by omega,by omega⟩,t1]
     simp only[aG,dL hi (by omega)]
     by_cases hd:∃j,0<=j/\j<0+i/\dup bs i j
     ·rw[aj (t2.2 hd),aj hd]
     ·rw[aC (λh=>hd (t2.1 h)),aC hd]
   ·simp only[g_ c0,jf,aQ,aC c0]
  ·intro L _
   simp only[qz,cO,bg,aZ,fin]
 rw[hQ',SE]
 obtain⟨r,hr,hiff⟩:=hr
 rw[hr]
 refine⟨rfl,?_⟩
 have hstep:(∀j,0<=j->j<0+bs.length->step j=none)↔∀i,i<bs.length->Cn (bs.getD i dB)/\(bs.getD i dB).2.1<nx/\∀j,j<i->¬dup bs i j:=by
  have one:∀i,i<bs.length->(step i=none↔Cn (bs.getD i dB)/\(bs.getD i dB).2.1<nx/\∀j,j<i->¬dup bs i j):=λi hi=>by
   simp only[step]
   have hg:=(Rs (hok i hi) hn).2.2
   by_cases c0:bf n (bs.getD i dB)=0
   ·rw[aj c0]
    by_cases c1:(bs.getD i dB).2.1>=nx
    ·rw[aj c1]
     constructor
     ·intro h;simp at h
     ·rintro⟨_,h1,_⟩;omega
    ·rw[aC c1]
     by_cases c2:∃j,0<=j/\j<0+i/\dup bs i j
     ·rw[aj c2]
      constructor
      ·intro h;simp at h
      ·rintro⟨_,_,h⟩
       obtain⟨j,_,hj,hd⟩:=c2
       exact absurd hd (h j (by omega))
     ·rw[aC c2]
      exact⟨λ_=>⟨hg.1 c0,by omega,λj hj hd=>c2 ⟨j,fQ _,by omega,hd⟩⟩,λ_=>rfl⟩
   ·rw[aC c0]
    constructor
    ·intro h;simp at h
    ·rintro⟨h,_⟩;exact absurd (hg.2 h) c0
  exact⟨λh i hi=>(one i hi).1 (h i (fQ _) (by omega)),λh i _ hi=>(one i (by omega)).2 (h i (by omega))⟩
 rw[hstep]at hiff
 unfold uw
 by_cases d1:1<=nx/\nx<=1000
 ·by_cases d2:(bs.length:Int)>3
  ·exact⟨2,by simp[d1,d2],⟨λh=>by omega,by rintro⟨_,h,_⟩;exact absurd h (by show ¬bs.length<=3;omega)⟩⟩
  ·exact⟨r,by simp[d1,d2],by rw[hiff];exact⟨λh=>⟨d1,by show bs.length<=3;omega,h⟩,λh=>h.2.2⟩⟩
 ·exact⟨3,by simp[d1],⟨λh=>by omega,by rintro⟨h,_⟩;exact absurd h d1⟩⟩
end Go.Proofs.YtplpeegfeajkkaaGreatDoor.oI
