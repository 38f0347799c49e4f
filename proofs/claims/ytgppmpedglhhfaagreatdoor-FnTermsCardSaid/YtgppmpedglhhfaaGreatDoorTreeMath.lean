/- Terms as trees: how words tell them. -/
import Derived.Test.YtgppmpedglhhfaaGreatDoorSetMath
set_option linter.unusedVariables false
set_option linter.unusedSimpArgs false
namespace Go.Proofs.YtgppmpedglhhfaaGreatDoor.vK
open Go Ow nL nM aI uo jC sF vB oW
inductive Tr where
 |leaf (t:aa)
 |one (a:Tr)
 |two (k:Nat) (a b:Tr)
def size:Tr->Nat
 |.leaf _=>1
 |.one a=>size a+1
 |.two _ a b=>size a+size b+1
theorem size_pos:∀t:Tr,0<size t
 |.leaf _=>by simp[size]
 |.one _=>by simp[size]
 |.two _ _ _=>by simp[size]
def bD(base:Nat):Tr->List aa
 |.leaf t=>[t]
 |.one a=>bD base a++[(9,0,[],[],((base+size a-1:Nat):Int),0,())]
 |.two k a b=>bD base a++bD (base+size a) b++[((k:Int),0,[],[],((base+size a-1:Nat):Int),((base+size a+size b-1:Nat):Int),())]
theorem jy:∀(base:Nat) (t:Tr),(bD base t).length=size t
 |_,.leaf _=>rfl
 |base,.one a=>by simp[bD,size,jy base a]
 |base,.two k a b=>by simp[bD,size,jy base a,jy (base+size a) b];omega
def jW(k:Nat)(w:List Int):Option aa:=
 if k=2 then(AO w).map λf:Nat=>(2,(f:Int),[],[],0,0,())
 else if k=8 then(bO w).map λl=>(8,0,[],l,0,0,())
 else if k=6\/k=7 then(iG w.length w).map λcs=>((k:Int),0,cs,[],0,0,())
 else if 0<=fP w then some ((k:Int),fP w,[],[],0,0,())else none
def rd:Nat->List (List Int)->Option (Tr×List (List Int))
 |0,_=>none
 |_+1,[]=>none
 |k+1,w :: ws=>
  if kd w=0 then none
  else if kd w=1 then some (.leaf (1,0,[],[],0,0,()),ws)
  else if kd w=9 then(rd k ws).map λp=>(.one p.1,p.2)
  else if 9<kd w then(rd k ws).bind λp=>(rd k p.2).map λq=>(.two (kd w) p.1 q.1,q.2)
  else match ws with
   | []=>none
   |v :: ws=>(jW (kd w) v).map λt=>(.leaf t,ws)
def wd(k:Int):List Int:=WD.getD (k-1).toNat []
def tX(t:aa):List Int:=
 if t.1=1 then []else [32]++(if t.1=2 then tF t.2.1.toNat else if t.1=8 then [44].intercalate (t.2.2.2.1.map rT)else if t.1=6\/t.1=7 then t.2.2.1.flatMap enc else kD t.2.1)
def txt:Tr->List Int
 |.leaf t=>wd t.1++tX t
 |.one a=>wd 9++([32]++txt a)
 |.two k a b=>wd k++((([32]++txt a)++[32])++txt b)
def J2(t:aa):Prop:=(1<=t.1/\t.1<=8)/\(t.1=2->0<=t.2.1/\t.2.1<16)/\(3<=t.1/\t.1<=5->0<=t.2.1/\t.2.1<10000)/\(¬(2<=t.1/\t.1<=5)->t.2.1=0)/\((t.1=6\/t.1=7)->∀c∈t.2.2.1,iP c)/\(¬(t.1=6\/t.1=7)->t.2.2.1=[])/\(t.1=8->t.2.2.2.1.length<=8/\fR t.2.2.2.1=0/\∀r∈t.2.2.2.1,kE r)/\(t.1≠8->t.2.2.2.1=[])/\t.2.2.2.2.1=0/\t.2.2.2.2.2.1=0
def xJ:Tr->Prop
 |.leaf t=>J2 t
 |.one a=>xJ a
 |.two k a b=>(k=10\/k=11)/\xJ a/\xJ b
theorem awn{k:Nat}{w:List Int}{t:aa}(hk:2<=k/\k<=8)(hb:dD w)(h:jW k w=some t):t.1=k/\J2 t/\tX t=[32]++w:=by
 unfold jW at h
 split at h
 ·rename_i e
  subst e
  rcases aoj w with⟨j,h1,h2,h3⟩|⟨_,h2⟩
  ·rw[h3]at h
   have h:=kJ h
   subst h
   have hj:(0:Int)<=(j:Int)/\(j:Int)<16:=by omega
   refine⟨rfl,⟨⟨by show(1:Int)<=2;decide,by show(2:Int)<=8;decide⟩,λ_=>hj,λh=>absurd (show(3:Int)<=2 from h.1) (by decide),λh=>absurd (show(2:Int)<=2/\(2:Int)<=5 by decide) h,λh=>absurd (show(2:Int)=6\/(2:Int)=7 from h) (by decide),λ_=>rfl,λh=>absurd (show(2:Int)=8 from h) (by decide),λ_=>rfl,rfl,rfl⟩,?_⟩
   unfold tX
   simp[h2]
  ·rw[h2]at h;simp at h
 ·rename_i e2
  split at h
  ·rename_i e
   subst e
   cases hs:bO w with
   |none=>rw[hs]at h;simp at h
   |some l=>
    rw[hs]at h
    simp only[gq,ak]at h
    subst h
    obtain⟨f1,f2,f3,f4⟩:=aim hb hs
    refine⟨rfl,⟨⟨by show(1:Int)<=8;decide,by show(8:Int)<=8;decide⟩,λh=>absurd (show(8:Int)=2 from h) (by decide),λh=>absurd (show(8:Int)<=5 from h.2) (by decide),λ_=>rfl,λh=>absurd (show(8:Int)=6\/(8:Int)=7 from h) (by decide),λ_=>rfl,λ_=>⟨f3,f2,f4⟩,λh=>absurd rfl h,rfl,rfl⟩,?_⟩
    unfold tX
    simp only[f1]
    simp
  ·rename_i e8
   split at h
   ·rename_i e
    cases hd:iG w.length w with
    |none=>rw[hd]at h;simp at h
    |some cs=>
     rw[hd]at h
     simp only[gq,ak]at h
     subst h
     obtain⟨f1,f2⟩:=aav hb hd
     refine⟨rfl,?_,?_⟩
     ·have hk1:(1:Int)<=k/\(k:Int)<=8:=by omega
      have h2:(k:Int)≠2:=by omega
      have h3:¬(3<=(k:Int)/\(k:Int)<=5):=by omega
      have h8:(k:Int)≠8:=by omega
      have h6:(k:Int)=6\/(k:Int)=7:=by omega
      exact⟨hk1,λh=>absurd h h2,λh=>absurd h h3,λ_=>rfl,λ_=>f2,λh=>absurd h6 h,λh=>absurd h h8,λ_=>rfl,rfl,rfl⟩
     ·unfold tX
      simp only
      rw[ah (by omega),ah (by omega),ah (by omega),aj (by omega),f1]
   ·rename_i e6
    split at h
    ·rename_i hv
     simp only[ak]at h
     subst h
     have:=aiV hv
     refine⟨rfl,?_,?_⟩
     ·have hk1:(1:Int)<=k/\(k:Int)<=8:=by omega
      have h2:(k:Int)≠2:=by omega
      have h3:2<=(k:Int)/\(k:Int)<=5:=by omega
      have h8:(k:Int)≠8:=by omega
      have h6:¬((k:Int)=6\/(k:Int)=7):=by omega
      exact⟨hk1,λh=>absurd h h2,λ_=>⟨hv,this⟩,λh=>absurd h3 h,λh=>absurd h h6,λ_=>rfl,λh=>absurd h h8,λ_=>rfl,rfl,rfl⟩
     ·unfold tX
      simp only
      rw[ah (by omega),ah (by omega),ah (by omega),ah (by omega),aau hb hv]
    ·simp at h
theorem ayN{w:List Int}(h:kd w≠0):wd (kd w:Int)=w:=by
 have e:=avY h
 unfold wd
 conv=>rhs;rw[e]
 congr 1
 omega
theorem MH{c:Int}:∀{a b:List (List Int)},a≠[]->b≠[]->[c].intercalate (a++b)=[c].intercalate a++[c]++[c].intercalate b
 | [],_,h,_=>absurd rfl h
 | [x],[],_,h=>absurd rfl h
 | [x],y :: b,_,_=>by simp[List.intercalate_cons_cons]
 |x :: y :: a,b,_,h=>by
  rw[gX,gX,List.intercalate_cons_cons,<-gX,MH (by simp) h,List.intercalate_cons_cons]
  simp
theorem rd_facts:∀{k:Nat} {ws rest:List (List Int)} {tr:Tr},(∀w∈ws,dD w)->rd k ws=some (tr,rest)->xJ tr/\∃used,ws=used++rest/\used≠[]/\used.length<=2*size tr/\[32].intercalate used=txt tr
 |0,_,_,_,_,h=>by simp[rd]at h
 |_+1,[],_,_,_,h=>by simp[rd]at h
 |k+1,w :: ws,rest,tr,hb,h=>by
  unfold rd at h
  split at h
  ·simp at h
  ·rename_i e0
   have ew:=ayN e0
   split at h
   ·rename_i e1
    simp only[ak,bS]at h
    obtain⟨rfl,rfl⟩:=h
    refine⟨by unfold xJ J2;simp,[w],rfl,by simp,by simp[size],?_⟩
    rw[e1]at ew
    simp only[txt,List.intercalate_singleton]
    rw[show wd 1=w from ew]
    simp[tX]
   ·rename_i e1
    split at h
    ·rename_i e9
     cases hr:rd k ws with
     |none=>rw[hr]at h;simp at h
     |some p=>
      obtain⟨a,r1⟩:=p
      rw[hr]at h
      simp only[gq,ak,bS]at h
      obtain⟨rfl,rfl⟩:=h
      obtain⟨f0,u,f1,f2,f3,f4⟩:=rd_facts (λx hx=>hb x (by simp[hx])) hr
      refine⟨f0,w :: u,by rw[f1];rfl,by simp,by simp only[iy,size];omega,?_⟩
      rw[e9]at ew
      rw[show w :: u=[w]++u from rfl,MH (by simp) f2,f4,List.intercalate_singleton]
      simp only[txt]
      rw[show wd 9=w from ew,eG]
    ·rename_i e9
     split at h
     ·rename_i e10
      cases hr:rd k ws with
      |none=>rw[hr]at h;simp at h
      |some p=>
       obtain⟨a,r1⟩:=p
       rw[hr]at h
       simp only[aQ]at h
       obtain⟨f0,u,f1,f2,f3,f4⟩:=rd_facts (λx hx=>hb x (by simp[hx])) hr
       cases hq:rd k r1 with
       |none=>rw[hq]at h;simp at h
       |some q=>
        obtain⟨b,r2⟩:=q
        rw[hq]at h
        simp only[gq,ak,bS]at h
        obtain⟨rfl,rfl⟩:=h
        obtain⟨g0,v,g1,g2,g3,g4⟩:=rd_facts (λx hx=>hb x (by rw[f1];simp[hx])) hq
        have:=Wd w
        refine⟨⟨by omega,f0,g0⟩,w :: (u++v),by rw[f1,g1];simp,by simp,by simp only[iy,dI,size];omega,?_⟩
        rw[show w :: (u++v)=[w]++(u++v)from rfl,MH (by simp) (by simp[f2]),MH f2 g2,f4,g4,List.intercalate_singleton]
        simp only[txt]
        rw[ew]
        simp
     ·rename_i e10
      cases ws with
      |nil=>simp at h
      |cons v ws=>
       simp only at h
       cases hl:jW (kd w) v with
       |none=>rw[hl]at h;simp at h
       |some t=>
        rw[hl]at h
        simp only[gq,ak,bS]at h
        obtain⟨rfl,rfl⟩:=h
        obtain⟨f1,f2,f3⟩:=awn (by omega) (hb v (by simp)) hl
        refine⟨f2,[w,v],rfl,by simp,by simp[size],?_⟩
        simp only[txt]
        rw[f1,ew,f3,List.intercalate_cons_cons,List.intercalate_singleton,eG]
end Go.Proofs.YtgppmpedglhhfaaGreatDoor.vK
