/- How the reference reads terms. -/
import Derived.Test.YtgppmpedglhhfaaGreatDoorIReadMath
set_option linter.unusedVariables false
set_option linter.unusedSimpArgs false
namespace Go.Proofs.YtgppmpedglhhfaaGreatDoor.sD
open Go Ow nL nM aI uo jC sF vB oW vK
def uQ(cs:List Int):Prop:=(1<=cs.length/\cs.length<=20)/\∀c∈cs,iP c/\33<=c/\c≠127
instance (cs:List Int):Decidable (uQ cs):=by unfold uQ;infer_instance
def aN(t:aa):Prop:=
 (t.1=2->t.2.1=1\/t.2.1=2\/t.2.1=4\/t.2.1=8)/\((t.1=3\/t.1=4)->0<=t.2.1/\t.2.1<=9999)/\(t.1=5->0<=t.2.1/\t.2.1<=400)/\((t.1=6\/t.1=7)->uQ t.2.2.1)/\(t.1=8->fR t.2.2.2.1=0)
instance (t:aa):Decidable (aN t):=by unfold aN;infer_instance
def sL(t:aa):Prop:=(1<=t.1/\t.1<=8)/\(¬(2<=t.1/\t.1<=5)->t.2.1=0)/\(¬(t.1=6\/t.1=7)->t.2.2.1=[])/\(t.1≠8->t.2.2.2.1=[])/\t.2.2.2.2.1=0/\t.2.2.2.2.2.1=0/\t.2.2.1.length<=1048576
def kH:Tr->Prop
 |.leaf t=>sL t
 |.one a=>kH a
 |.two k a b=>(k=10\/k=11)/\kH a/\kH b
def okV:Tr->Prop
 |.leaf t=>aN t
 |.one a=>okV a
 |.two _ a b=>okV a/\okV b
theorem aaw:∀{m:Nat} {bs l:List Int},iG m bs=some l->l.length<=m
 |0,bs,l,h=>by
  unfold iG at h
  split at h
  ·simp only[ak]at h;subst h;simp
  ·simp at h
 |m+1,bs,l,h=>by
  unfold iG at h
  split at h
  ·simp only[ak]at h;subst h;simp
  ·split at h
   ·simp at h
   ·cases hd:iG m (bs.drop (utf bs).2.toNat)with
    |none=>rw[hd]at h;simp at h
    |some l'=>
     rw[hd]at h
     simp only[gq,ak]at h
     subst h
     have:=aaw hd
     simp;omega
theorem JU{n at':Nat}{all:List (List Int)}{ts:List aa}{b:Bool}(h:at'<all.length)(hl:all.length<=1048577):kN n (all,(at':Int),ts,b,())=some (all[at'],(all,((at'+1:Nat):Int),ts,b,()),()):=by
 unfold kN
 have e:IntKind.i64.wrap ((at':Int)+1)=((at'+1:Nat):Int):=mR h (by omega)
 have e2:IntKind.i64.wrap (((at'+1:Nat):Int)-1)=(at':Int):=by rw[wrap_i64 (by omega) (by omega)];omega
 rw[ah (by simp only[bF];omega)]
 simp only[e,e2]
 rw[aj (fu h),uB h]
theorem JV{n:Nat}{all:List (List Int)}{ts:List aa}{b:Bool}{at':Nat}(h:all.length<=at'):kN n (all,(at':Int),ts,b,())=some ([],(all,(at':Int),ts,true,()),()):=by
 unfold kN
 rw[aj (by simp only[bF];omega)]
theorem wu{n:Nat}(k:Int):nK n k=some (decide (k=10\/k=11),()):=by
 unfold nK
 by_cases h:k=10<;>simp[h]
theorem O8{n:Nat}{st:uy}{K:Int}{t:Int×(List Int)×(List aB)×aB}(h:¬(2<=K/\K<=8)):uh n st (K,t)=some (st,(K,t),()):=by
 unfold uh
 simp only
 rw[ah (by simp;omega),ah (by simp;omega),ah (by simp;omega),ah (by simp;omega),ah (by simp;omega),ah (by simp;omega),ah (by simp;omega)]
theorem ahZ{n:Nat}(hn:1048600<n){K:Nat}(hK:2<=K/\K<=8){st st':uy}{v:List Int}{l r:Int}(hv:dD v)(hv2:v.length<=1048576)(hnx:kN n st=some (v,st',())) :
  ∃t ok,uh n st ((K:Int),0,[],[],l,r,())=some ((st'.1,st'.2.1,st'.2.2.1,st'.2.2.2.1 || !ok,()),t,())/\t.2.2.2.2=(l,r,())/\((ok=true/\jW K v=some (t.1,t.2.1,t.2.2.1,t.2.2.2.1,0,0,()))\/(jW K v=none/\(ok=false\/¬aN (t.1,t.2.1,t.2.2.1,t.2.2.2.1,0,0,()))))/\(ok=true->sL (t.1,t.2.1,t.2.2.1,t.2.2.2.1,0,0,())):=by
 obtain⟨a,b,c,d,_⟩:=st'
 have hst:∀b:Bool,(b || !true)=b:=by decide
 unfold uh
 by_cases c2:K=2
 ·subst c2
  simp only[show(((2:Nat):Int)=2)=True from eq_true rfl,bY,bL,hnx,aQ,axr (n:=n) (by omega)]
  refine⟨_,true,by rw[hst],rfl,?_,λ_=>⟨⟨show(1:Int)<=2 by decide,show(2:Int)<=8 by decide⟩,λh=>absurd (show(2:Int)<=2/\(2:Int)<=5 by decide) h,λ_=>rfl,λ_=>rfl,rfl,rfl,dW _⟩⟩
  unfold jW
  cases hf:AO v with
  |none=>
   refine .inr ⟨by simp[hf],.inr ?_⟩
   intro h
   have:=h.1 rfl
   simp[qO]at this
  |some f=>exact .inl ⟨rfl,by simp[hf,qO]⟩
 ·have n2:¬((K:Int)=2):=by omega
  by_cases c8:K=8
  ·subst c8
   obtain⟨lst,ok,hp1,hp2⟩:=av4 (n:=n) hv2 (by omega)
   simp only[show ¬(((8:Nat):Int)=2) by omega,show ¬(((8:Nat):Int)=3) by omega,show ¬(((8:Nat):Int)=4) by omega,show ¬(((8:Nat):Int)=5) by omega,show ¬(((8:Nat):Int)=6) by omega,show ¬(((8:Nat):Int)=7) by omega,show(((8:Nat):Int)=8)=True from eq_true rfl,bY,dm,bP,bI,bL,hnx,hp1,aQ]
   refine⟨(8,0,[],lst,l,r,()),ok,by cases d<;>rfl,rfl,?_,λ_=>⟨⟨show(1:Int)<=8 by decide,show(8:Int)<=8 by decide⟩,λ_=>rfl,λ_=>rfl,λh=>absurd rfl h,rfl,rfl,dW _⟩⟩
   unfold jW
   rcases hp2 with⟨h1,h2⟩|⟨h1,h2⟩
   ·exact .inl ⟨h1,by simp[h2]⟩
   ·exact .inr ⟨by simp[h2],.inl h1⟩
  ·by_cases c6:K=6\/K=7
   ·have hdec:=av9 (n:=n) hv hv2 (by omega)
    have body:∃t ok,(some ((if d=true then((a,b,c,true,()),((K:Int),(0:Int),(lF [] (iG v.length v)).1,([]:List aB),l,r,()),())else((a,b,c,!(lF [] (iG v.length v)).2,()),((K:Int),(0:Int),(lF [] (iG v.length v)).1,([]:List aB),l,r,()),())):uy×aa×Unit))=some ((a,b,c,d || !ok,()),t,())/\t.2.2.2.2=(l,r,())/\((ok=true/\jW K v=some (t.1,t.2.1,t.2.2.1,t.2.2.2.1,0,0,()))\/(jW K v=none/\(ok=false\/¬aN (t.1,t.2.1,t.2.2.1,t.2.2.2.1,0,0,()))))/\(ok=true->sL (t.1,t.2.1,t.2.2.1,t.2.2.2.1,0,0,())):=by
     refine⟨((K:Int),0,(lF [] (iG v.length v)).1,[],l,r,()),(lF [] (iG v.length v)).2,by cases d<;>rfl,rfl,?_,λ_=>⟨show 1<=(K:Int)/\(K:Int)<=8 by omega,λ_=>rfl,λh=>absurd (show(K:Int)=6\/(K:Int)=7 by omega) h,λ_=>rfl,rfl,rfl,?_⟩⟩
     rotate_left
     ·cases hd:iG v.length v with
      |none=>exact dW _
      |some cs=>exact vG (aaw hd) hv2
     unfold jW
     rw[ah c2,ah c8,aj c6]
     cases hd:iG v.length v with
     |none=>exact .inr ⟨rfl,.inl rfl⟩
     |some cs=>exact .inl ⟨rfl,rfl⟩
    rcases c6 with rfl|rfl
    ·simp only[show ¬(((6:Nat):Int)=2) by omega,show ¬(((6:Nat):Int)=3) by omega,show ¬(((6:Nat):Int)=4) by omega,show ¬(((6:Nat):Int)=5) by omega,show(((6:Nat):Int)=6)=True from eq_true rfl,bY,dm,bP,bI,bL,hnx,hdec,aQ]
     obtain⟨t,ok,h1,h2⟩:=body
     exact⟨t,ok,by rw[<-h1];cases d<;>rfl,h2⟩
    ·simp only[show ¬(((7:Nat):Int)=2) by omega,show ¬(((7:Nat):Int)=3) by omega,show ¬(((7:Nat):Int)=4) by omega,show ¬(((7:Nat):Int)=5) by omega,show ¬(((7:Nat):Int)=6) by omega,show(((7:Nat):Int)=7)=True from eq_true rfl,bY,dm,bP,bI,bL,hnx,hdec,aQ]
     obtain⟨t,ok,h1,h2⟩:=body
     exact⟨t,ok,by rw[<-h1];cases d<;>rfl,h2⟩
   ·have c5:K=3\/K=4\/K=5:=by omega
    have fin:∃t ok,(some ((a,b,c,d,()),((K:Int),fP v,([]:List Int),([]:List aB),l,r,()),()):Option (uy×aa×Unit))=some ((a,b,c,d || !ok,()),t,())/\t.2.2.2.2=(l,r,())/\((ok=true/\jW K v=some (t.1,t.2.1,t.2.2.1,t.2.2.2.1,0,0,()))\/(jW K v=none/\(ok=false\/¬aN (t.1,t.2.1,t.2.2.1,t.2.2.2.1,0,0,()))))/\(ok=true->sL (t.1,t.2.1,t.2.2.1,t.2.2.2.1,0,0,())):=by
     refine⟨_,true,by rw[hst],rfl,?_,λ_=>⟨show 1<=(K:Int)/\(K:Int)<=8 by omega,λh=>absurd (show 2<=(K:Int)/\(K:Int)<=5 by omega) h,λ_=>rfl,λ_=>rfl,rfl,rfl,dW _⟩⟩
     unfold jW
     rw[ah c2,ah c8,ah c6]
     by_cases h:0<=fP v
     ·exact .inl ⟨rfl,by rw[aj h]⟩
     ·refine .inr ⟨by rw[ah h],.inr ?_⟩
      rintro⟨_,h1,h2,_⟩
      simp only at h1 h2
      rcases c5 with rfl|rfl|rfl
      ·exact h (h1 (by omega)).1
      ·exact h (h1 (by omega)).1
      ·exact h (h2 (by omega)).1
    rcases c5 with rfl|rfl|rfl
    ·simp only[show ¬(((3:Nat):Int)=2) by omega,show(((3:Nat):Int)=3)=True from eq_true rfl,bY,dm,bP,bI,bL,hnx,value (n:=n) (by omega),aQ]
     exact fin
    ·simp only[show ¬(((4:Nat):Int)=2) by omega,show ¬(((4:Nat):Int)=3) by omega,show(((4:Nat):Int)=4)=True from eq_true rfl,bY,dm,bP,bI,bL,hnx,value (n:=n) (by omega),aQ]
     exact fin
    ·simp only[show ¬(((5:Nat):Int)=2) by omega,show ¬(((5:Nat):Int)=3) by omega,show ¬(((5:Nat):Int)=4) by omega,show(((5:Nat):Int)=5)=True from eq_true rfl,bY,dm,bP,bI,bL,hnx,value (n:=n) (by omega),aQ]
     exact fin
def okW(ws:List (List Int)):Prop:=∀w∈ws,dD w/\w.length<=1048576
def Zw(k d:Nat)(all:List (List Int))(at':Nat)(ts:List aa)(b:Bool)(o:Option (Int×uy×Unit)):Prop:=
 ∃i at2 oO b2,o=some (i,(all,((at2:Nat):Int),oO,b2,()),())/\at'<=at2/\at2<=all.length/\(∃e,oO=ts++e)/\oO.length<=max ts.length (13+k)/\(b=true->b2=true)/\
  (b=false->(b2=true/\(match rd k (all.drop at')with
   |none=>True
   |some (tr,_)=>12<ts.length+d+size tr))\/
   (b2=false/\∃tr,kH tr/\oO=ts++bD ts.length tr/\i=((ts.length+size tr-1:Nat):Int)/\(match rd k (all.drop at')with
   |none=>¬okV tr
   |some (FH,rest)=>tr=FH/\all.drop at2=rest)))
theorem fin_at{ts:List aa}(x:aa)(h:ts.length<=4000000){a:List (List Int)}{b:Int}{c:Bool}:(if(ts.length+[x].length)*80<=140737488355328 then some (IntKind.i64.wrap (((ts++[x]).length:Int)-(1:Int)),(a,b,ts++[x],c,()),())else none)=some ((ts.length:Int),(a,b,ts++[x],c,()),()):=by
 rw[aj (by simp;omega),wrap_i64 (by simp<;>omega) (by simp<;>omega)]
 simp
theorem TH:dD []:=λb hb=>by simp at hb
theorem ahh{all:List (List Int)}(hW:okW all)(hall:all.length<=1048577):∀(k m at':Nat) (ts:List aa) (b:Bool) (d:Nat),at'<=all.length->all.length-at'<k->k+1048600<m->k<=1048580->ts.length<=3000000->d<=13->Zw k d all at' ts b (xV m (all,(at':Int),ts,b,()) (d:Int)):=by
 intro k
 induction k with
 |zero=>intro m at' ts b d _ h;omega
 |succ k ih=>
  intro m at' ts b d hat hl hm hk hts hd
  obtain⟨m,rfl⟩:∃j,m=j+1:=⟨m-1,by omega⟩
  unfold xV
  by_cases hlt:at'<all.length
  ·rw[JU hlt hall]
   have hdrop:all.drop at'=all[at'] :: all.drop (at'+1):=x_ hlt
   obtain⟨hw1,hw2⟩:=hW _ (om hlt)
   generalize all[at']=w at hdrop hw1 hw2 ⊢
   have hle:=Wd w
   simp only[aQ,agD (n:=m) (by omega),wu]
   have stop:∀i:Int,(kd w=0\/12<d\/12<ts.length\/b=true)->Zw (k+1) d all at' ts b (some (i,(all,((at'+1:Nat):Int),ts,true,()),())):=by
    intro i h
    refine⟨i,at'+1,ts,true,rfl,by omega,by omega,⟨[],by simp⟩,by omega,λ_=>rfl,λhb=>.inl ⟨rfl,?_⟩⟩
    rw[hdrop]
    by_cases h0:kd w=0
    ·unfold rd
     rw[aj h0]
     exact trivial
    ·cases rd (k+1) (w :: all.drop (at'+1))with
     |none=>exact trivial
     |some p=>
      have:=size_pos p.1
      rcases h with h|h|h|h
      ·exact absurd h h0
      ·show 12<ts.length+d+size p.1;omega
      ·show 12<ts.length+d+size p.1;omega
      ·rw[hb]at h;simp at h
   by_cases c0:kd w=0
   ·rw[aj (by rw[bF];omega)]
    exact stop 0 (.inl c0)
   ·rw[ah (by rw[bF];omega)]
    by_cases cd:12<d
    ·rw[aj (by rw[bF];omega)]
     exact stop 0 (.inr (.inl cd))
    ·rw[ah (by rw[bF];omega)]
     by_cases ct:12<ts.length
     ·rw[aj (by rw[bF];omega)]
      exact stop 0 (.inr (.inr (.inl ct)))
     ·rw[ah (by rw[bF];omega)]
      cases b with
      |true=>
       rw[aj rfl]
       exact stop 0 (.inr (.inr (.inr rfl)))
      |false=>
       rw[ah (by decide)]
       have hd1:IntKind.i64.wrap ((d:Int)+1)=((d+1:Nat):Int):=by rw[wrap_i64 (by omega) (by omega)];omega
       by_cases c9:9<=kd w
       ·rw[aj (by rw[bF];omega)]
        obtain⟨i1,Q_,nD,b1,g1,g2,g3,⟨e1,g4⟩,g5,_,g7⟩:=ih m (at'+1) ts false (d+1) (by omega) (by omega) (by omega) (by omega) hts (by omega)
        have g7:=g7 rfl
        rw[hd1,g1]
        simp only[aQ]
        have aqh:nD.length<=3000000:=by omega
        by_cases c10:10<=kd w
        ·rw[aj (by rw[bF];omega)]
         cases b1 with
         |true=>
          rw[ah (by decide),O8 (by omega)]
          simp only[aQ]
          rw[fin_at _ (by omega)]
          refine⟨_,Q_,_,true,rfl,by omega,g3,⟨e1++[_],by rw[g4,eG]⟩,by simp;omega,λ_=>rfl,λ_=>.inl ⟨rfl,?_⟩⟩
          rw[hdrop]
          unfold rd
          rw[ah c0,ah (by omega),ah (by omega),aj (by omega)]
          rcases g7 with⟨_,h2⟩|⟨h1,_⟩
          ·cases hr:rd k (all.drop (at'+1))with
           |none=>exact trivial
           |some p=>
            obtain⟨a,r1⟩:=p
            rw[hr]at h2
            simp only[aQ]
            cases hq:rd k r1 with
            |none=>exact trivial
            |some q=>
             simp only[gq,size]
             simp only at h2
             omega
          ·simp at h1
         |false=>
          obtain⟨i2,at2,oO,b2,k1,k2,k3,⟨e2,k4⟩,k5,_,k7⟩:=ih m Q_ nD false (d+1) (by omega) (by omega) (by omega) (by omega) aqh (by omega)
          have k7:=k7 rfl
          rw[aj (by decide),k1]
          simp only[aQ]
          rw[O8 (by omega)]
          simp only[aQ]
          rw[fin_at _ (by omega)]
          have TE:∃e,oO++[((kd w:Int),0,[],[],i1,i2,())]=ts++e:=⟨e1++(e2++[((kd w:Int),0,[],[],i1,i2,())]),by rw[k4,g4];simp⟩
          refine⟨_,at2,_,b2,rfl,by omega,k3,TE,by simp;omega,λh=>by simp at h,λ_=>?_⟩
          rw[hdrop]
          unfold rd
          rw[ah c0,ah (by omega),ah (by omega),aj (by omega)]
          rcases g7 with⟨h1,_⟩|⟨_,a,h1,h2,h3,h4⟩
          ·simp at h1
          ·have hlen:nD.length=ts.length+size a:=by rw[h2,dI,jy]
           rcases k7 with⟨j1,j2⟩|⟨j1,c,j2,j3,j4,j5⟩
           ·refine .inl ⟨j1,?_⟩
            cases hr:rd k (all.drop (at'+1))with
            |none=>exact trivial
            |some p=>
             obtain⟨a',r1⟩:=p
             rw[hr]at h4
             obtain⟨rfl,h5⟩:=h4
             rw[h5]at j2
             simp only[aQ]
             cases hq:rd k r1 with
             |none=>exact trivial
             |some q=>
              rw[hq]at j2
              simp only[gq,size]
              simp only at j2
              omega
           ·refine .inr ⟨j1,.two (kd w) a c,⟨by omega,h1,j2⟩,?_,?_,?_⟩
            ·rw[j3,j4,h3,hlen,h2]
             simp only[bD,eG]
            ·rw[j3,dI,jy,hlen]
             simp only[size]
             omega
            ·cases hr:rd k (all.drop (at'+1))with
             |none=>
              rw[hr]at h4
              exact λh=>h4 h.1
             |some p=>
              obtain⟨a',r1⟩:=p
              rw[hr]at h4
              obtain⟨rfl,h5⟩:=h4
              rw[h5]at j5
              simp only[aQ]
              cases hq:rd k r1 with
              |none=>
               rw[hq]at j5
               exact λh=>j5 h.2
              |some q=>
               rw[hq]at j5
               obtain⟨rfl,h6⟩:=j5
               exact⟨rfl,h6⟩
        ·have c9':kd w=9:=by omega
         rw[ah (by rw[bF];omega),O8 (by omega)]
         simp only[aQ]
         rw[fin_at _ (by omega)]
         refine⟨_,Q_,_,b1,rfl,by omega,g3,⟨e1++[_],by rw[g4,eG]⟩,by simp;omega,λh=>by simp at h,λ_=>?_⟩
         rw[hdrop]
         unfold rd
         rw[ah c0,ah (by omega),aj c9']
         rcases g7 with⟨h1,h2⟩|⟨h1,a,h2,h3,h4,h5⟩
         ·refine .inl ⟨h1,?_⟩
          cases hr:rd k (all.drop (at'+1))with
          |none=>exact trivial
          |some p=>
           rw[hr]at h2
           simp only[gq,size]
           simp only at h2
           omega
         ·refine .inr ⟨h1,.one a,h2,?_,?_,?_⟩
          ·rw[h3,h4,c9']
           simp only[bD,eG]
           rfl
          ·rw[h3,dI,jy]
           simp only[size]
           omega
          ·cases hr:rd k (all.drop (at'+1))with
           |none=>
            rw[hr]at h5
            exact h5
           |some p=>
            rw[hr]at h5
            obtain⟨rfl,h6⟩:=h5
            exact⟨rfl,h6⟩
       ·rw[ah (by rw[bF];omega),ah (by rw[bF];omega)]
        by_cases c1:kd w=1
        ·rw[O8 (by omega)]
         simp only[aQ]
         rw[fin_at _ (by omega)]
         refine⟨_,at'+1,_,false,rfl,by omega,by omega,⟨[_],rfl⟩,by simp;omega,λh=>by simp at h,λ_=>?_⟩
         rw[hdrop]
         unfold rd
         rw[ah c0,aj c1,c1]
         exact .inr ⟨rfl,.leaf (1,0,[],[],0,0,()),⟨by decide,by decide,by decide,by decide,rfl,rfl,by decide⟩,rfl,by simp[size],rfl,rfl⟩
        ·have hK:2<=kd w/\kd w<=8:=by omega
         by_cases hlt2:at'+1<all.length
         ·obtain⟨hv1,hv2⟩:=hW _ (om hlt2)
          have SF:all.drop (at'+1)=all[at'+1] :: all.drop (at'+1+1):=x_ hlt2
          obtain⟨t,ok,h1,h2,h3,hsL⟩:=ahZ (n:=m) (by omega) hK (l:=0) (r:=0) hv1 hv2 (JU (n:=m) (ts:=ts) (b:=false) hlt2 hall)
          rw[h1]
          simp only[aQ,Kt]
          rw[fin_at _ (by omega)]
          refine⟨_,at'+1+1,_,!ok,rfl,by omega,by omega,⟨[_],rfl⟩,by simp;omega,λh=>by simp at h,λ_=>?_⟩
          rw[hdrop,SF]
          unfold rd
          rw[ah c0,ah c1,ah (by omega),ah (by omega)]
          have ht:t=(t.1,t.2.1,t.2.2.1,t.2.2.2.1,0,0,()):=by
           obtain⟨q1,q2,q3,q4,q5⟩:=t
           simp only at h2
           rw[h2]
          rw[<-ht]at h3 hsL
          cases ok with
          |false=>
           refine .inl ⟨rfl,?_⟩
           rcases h3 with⟨h3,_⟩|⟨h3,h4⟩
           ·simp at h3
           ·simp only[h3,Option.map_none]
          |true=>
           refine .inr ⟨rfl,.leaf t,hsL rfl,rfl,by simp[size],?_⟩
           rcases h3 with⟨_,h3⟩|⟨h3,h4⟩
           ·simp only[h3,gq]
            exact⟨trivial,trivial⟩
           ·simp only[h3,Option.map_none]
            rcases h4 with h4|h4
            ·simp at h4
            ·exact h4
         ·obtain⟨t,ok,h1,h2,h3,hsL⟩:=ahZ (n:=m) (by omega) hK (l:=0) (r:=0) TH (by simp) (JV (n:=m) (ts:=ts) (b:=false) (at':=at'+1) (all:=all) (by omega))
          rw[h1]
          simp only[aQ,Bool.true_or]
          rw[fin_at _ (by omega)]
          refine⟨_,at'+1,_,true,rfl,by omega,by omega,⟨[_],rfl⟩,by simp;omega,λ_=>rfl,λ_=>?_⟩
          have SF:all.drop (at'+1)=[]:=List.drop_eq_nil_iff.2 (by omega)
          refine .inl ⟨rfl,?_⟩
          rw[hdrop,SF]
          unfold rd
          rw[ah c0,ah c1,ah (by omega),ah (by omega)]
          exact trivial
  ·rw[JV (by omega)]
   have e0:kd []=0:=by decide
   simp only[aQ,agD (n:=m) (by omega),e0]
   rw[aj (by decide)]
   refine⟨0,at',ts,true,rfl,bZ _,hat,⟨[],by simp⟩,by omega,λ_=>rfl,λ_=>?_⟩
   refine .inl ⟨rfl,?_⟩
   rw[List.drop_eq_nil_iff.2 (by omega)]
   exact trivial
end Go.Proofs.YtgppmpedglhhfaaGreatDoor.sD
