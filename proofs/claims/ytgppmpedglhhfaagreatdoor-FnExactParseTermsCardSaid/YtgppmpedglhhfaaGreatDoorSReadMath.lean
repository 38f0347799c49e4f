/- How the reference reads terms. -/
import Derived.Test.YtgppmpedglhhfaaGreatDoorIReadMath
set_option linter.unusedVariables false
set_option linter.unusedSimpArgs false
namespace Go.Proofs.YtgppmpedglhhfaaGreatDoor.wU
open Go Ow q9 qZ aD vg jY vv yB vB Au
def wu(cs:List Int):Prop:=(1<=cs.length/\cs.length<=20)/\∀c∈cs,iP c/\33<=c/\c≠127
instance (cs:List Int):Decidable (wu cs):=by unfold wu;infer_instance
def aO(t:bn):Prop:=
 (t.1=2->t.2.1=1\/t.2.1=2\/t.2.1=4\/t.2.1=8)/\((t.1=3\/t.1=4)->0<=t.2.1/\t.2.1<=9999)/\(t.1=5->0<=t.2.1/\t.2.1<=400)/\((t.1=6\/t.1=7)->wu t.2.2.1)/\(t.1=8->fR t.2.2.2.1=0)
instance (t:bn):Decidable (aO t):=by unfold aO;infer_instance
def sL(t:bn):Prop:=(1<=t.1/\t.1<=8)/\(¬(2<=t.1/\t.1<=5)->t.2.1=0)/\(¬(t.1=6\/t.1=7)->t.2.2.1=[])/\(t.1≠8->t.2.2.2.1=[])/\t.2.2.2.2.1=0/\t.2.2.2.2.2.1=0/\t.2.2.1.length<=1048576
def rY:Tr->Prop
 |.leaf t=>sL t
 |.one a=>rY a
 |.two k a b=>(k=10\/k=11)/\rY a/\rY b
def okV:Tr->Prop
 |.leaf t=>aO t
 |.one a=>okV a
 |.two _ a b=>okV a/\okV b
theorem UE:∀{m:Nat} {bs l:List Int},iH m bs=some l->l.length<=m
 |0,bs,l,h=>by
  unfold iH at h
  split at h
  ·simp only[aa]at h;subst h;simp
  ·simp at h
 |m+1,bs,l,h=>by
  unfold iH at h
  split at h
  ·simp only[aa]at h;subst h;simp
  ·split at h
   ·simp at h
   ·cases hd:iH m (bs.drop (utf bs).2.toNat)with
    |none=>rw[hd]at h;simp at h
    |some l'=>
     rw[hd]at h
     simp only[gz,aa]at h
     subst h
     have:=UE hd
     simp;omega
theorem Fg{n at':Nat}{all:List (List Int)}{ts:List bn}{b:Bool}(h:at'<all.length)(hl:all.length<=1048577):j6 n (all,(at':Int),ts,b,())=some (all[at'],(all,((at'+1:Nat):Int),ts,b,()),()):=by
 unfold j6
 have e:IntKind.i64.wrap ((at':Int)+1)=((at'+1:Nat):Int):=kY h (by omega)
 have e2:IntKind.i64.wrap (((at'+1:Nat):Int)-1)=(at':Int):=by rw[wrap_i64 (by omega) (by omega)];omega
 rw[aj (by simp only[bN];omega)]
 simp only[e,e2]
 rw[ak (ig h),o9 h]
theorem Fh{n:Nat}{all:List (List Int)}{ts:List bn}{b:Bool}{at':Nat}(h:all.length<=at'):j6 n (all,(at':Int),ts,b,())=some ([],(all,(at':Int),ts,true,()),()):=by
 unfold j6
 rw[ak (by simp only[bN];omega)]
theorem BJ{n:Nat}(k:Int):pR n k=some (decide (k=10\/k=11),()):=by
 unfold pR
 by_cases h:k=10<;>simp[h]
theorem J4{n:Nat}{st:sK}{K:Int}{t:Int×(List Int)×(List ay)×ay}(h:¬(2<=K/\K<=8)):su n st (K,t)=some (st,(K,t),()):=by
 unfold su
 simp only
 rw[aj (by simp;omega),aj (by simp;omega),aj (by simp;omega),aj (by simp;omega),aj (by simp;omega),aj (by simp;omega),aj (by simp;omega)]
theorem ZX{n:Nat}(hn:1048600<n){K:Nat}(hK:2<=K/\K<=8){st st':sK}{v:List Int}{l r:Int}(hv:dN v)(hv2:v.length<=1048576)(hnx:j6 n st=some (v,st',())) :
  ∃t ok,su n st ((K:Int),0,[],[],l,r,())=some ((st'.1,st'.2.1,st'.2.2.1,st'.2.2.2.1 || !ok,()),t,())/\t.2.2.2.2=(l,r,())/\((ok=true/\jR K v=some (t.1,t.2.1,t.2.2.1,t.2.2.2.1,0,0,()))\/(jR K v=none/\(ok=false\/¬aO (t.1,t.2.1,t.2.2.1,t.2.2.2.1,0,0,()))))/\(ok=true->sL (t.1,t.2.1,t.2.2.1,t.2.2.2.1,0,0,())):=by
 obtain⟨a,b,c,d,_⟩:=st'
 have hst:∀b:Bool,(b || !true)=b:=by decide
 unfold su
 by_cases c2:K=2
 ·subst c2
  simp only[show(((2:Nat):Int)=2)=True from eq_true rfl,cB,bQ,hnx,bf,ant (n:=n) (by omega)]
  refine⟨_,true,by rw[hst],rfl,?_,λ_=>⟨⟨show(1:Int)<=2 by decide,show(2:Int)<=8 by decide⟩,λh=>absurd (show(2:Int)<=2/\(2:Int)<=5 by decide) h,λ_=>rfl,λ_=>rfl,rfl,rfl,dY _⟩⟩
  unfold jR
  cases hf:y8 v with
  |none=>
   refine .inr ⟨by simp[hf],.inr ?_⟩
   intro h
   have:=h.1 rfl
   simp[qg]at this
  |some f=>exact .inl ⟨rfl,by simp[hf,qg]⟩
 ·have n2:¬((K:Int)=2):=by omega
  by_cases c8:K=8
  ·subst c8
   obtain⟨lst,ok,hp1,hp2⟩:=al6 (n:=n) hv2 (by omega)
   simp only[show ¬(((8:Nat):Int)=2) by omega,show ¬(((8:Nat):Int)=3) by omega,show ¬(((8:Nat):Int)=4) by omega,show ¬(((8:Nat):Int)=5) by omega,show ¬(((8:Nat):Int)=6) by omega,show ¬(((8:Nat):Int)=7) by omega,show(((8:Nat):Int)=8)=True from eq_true rfl,cB,dL,bY,bO,bQ,hnx,hp1,bf]
   refine⟨(8,0,[],lst,l,r,()),ok,by cases d<;>rfl,rfl,?_,λ_=>⟨⟨show(1:Int)<=8 by decide,show(8:Int)<=8 by decide⟩,λ_=>rfl,λ_=>rfl,λh=>absurd rfl h,rfl,rfl,dY _⟩⟩
   unfold jR
   rcases hp2 with⟨h1,h2⟩|⟨h1,h2⟩
   ·exact .inl ⟨h1,by simp[h2]⟩
   ·exact .inr ⟨by simp[h2],.inl h1⟩
  ·by_cases c6:K=6\/K=7
   ·have hdec:=amb (n:=n) hv hv2 (by omega)
    have body:∃t ok,(some ((if d=true then((a,b,c,true,()),((K:Int),(0:Int),(kM [] (iH v.length v)).1,([]:List ay),l,r,()),())else((a,b,c,!(kM [] (iH v.length v)).2,()),((K:Int),(0:Int),(kM [] (iH v.length v)).1,([]:List ay),l,r,()),())):sK×bn×Unit))=some ((a,b,c,d || !ok,()),t,())/\t.2.2.2.2=(l,r,())/\((ok=true/\jR K v=some (t.1,t.2.1,t.2.2.1,t.2.2.2.1,0,0,()))\/(jR K v=none/\(ok=false\/¬aO (t.1,t.2.1,t.2.2.1,t.2.2.2.1,0,0,()))))/\(ok=true->sL (t.1,t.2.1,t.2.2.1,t.2.2.2.1,0,0,())):=by
     refine⟨((K:Int),0,(kM [] (iH v.length v)).1,[],l,r,()),(kM [] (iH v.length v)).2,by cases d<;>rfl,rfl,?_,λ_=>⟨show 1<=(K:Int)/\(K:Int)<=8 by omega,λ_=>rfl,λh=>absurd (show(K:Int)=6\/(K:Int)=7 by omega) h,λ_=>rfl,rfl,rfl,?_⟩⟩
     rotate_left
     ·cases hd:iH v.length v with
      |none=>exact dY _
      |some cs=>exact ve (UE hd) hv2
     unfold jR
     rw[aj c2,aj c8,ak c6]
     cases hd:iH v.length v with
     |none=>exact .inr ⟨rfl,.inl rfl⟩
     |some cs=>exact .inl ⟨rfl,rfl⟩
    rcases c6 with rfl|rfl
    ·simp only[show ¬(((6:Nat):Int)=2) by omega,show ¬(((6:Nat):Int)=3) by omega,show ¬(((6:Nat):Int)=4) by omega,show ¬(((6:Nat):Int)=5) by omega,show(((6:Nat):Int)=6)=True from eq_true rfl,cB,dL,bY,bO,bQ,hnx,hdec,bf]
     obtain⟨t,ok,h1,h2⟩:=body
     exact⟨t,ok,by rw[<-h1];cases d<;>rfl,h2⟩
    ·simp only[show ¬(((7:Nat):Int)=2) by omega,show ¬(((7:Nat):Int)=3) by omega,show ¬(((7:Nat):Int)=4) by omega,show ¬(((7:Nat):Int)=5) by omega,show ¬(((7:Nat):Int)=6) by omega,show(((7:Nat):Int)=7)=True from eq_true rfl,cB,dL,bY,bO,bQ,hnx,hdec,bf]
     obtain⟨t,ok,h1,h2⟩:=body
     exact⟨t,ok,by rw[<-h1];cases d<;>rfl,h2⟩
   ·have c5:K=3\/K=4\/K=5:=by omega
    have fin:∃t ok,(some ((a,b,c,d,()),((K:Int),fG v,([]:List Int),([]:List ay),l,r,()),()):Option (sK×bn×Unit))=some ((a,b,c,d || !ok,()),t,())/\t.2.2.2.2=(l,r,())/\((ok=true/\jR K v=some (t.1,t.2.1,t.2.2.1,t.2.2.2.1,0,0,()))\/(jR K v=none/\(ok=false\/¬aO (t.1,t.2.1,t.2.2.1,t.2.2.2.1,0,0,()))))/\(ok=true->sL (t.1,t.2.1,t.2.2.1,t.2.2.2.1,0,0,())):=by
     refine⟨_,true,by rw[hst],rfl,?_,λ_=>⟨show 1<=(K:Int)/\(K:Int)<=8 by omega,λh=>absurd (show 2<=(K:Int)/\(K:Int)<=5 by omega) h,λ_=>rfl,λ_=>rfl,rfl,rfl,dY _⟩⟩
     unfold jR
     rw[aj c2,aj c8,aj c6]
     by_cases h:0<=fG v
     ·exact .inl ⟨rfl,by rw[ak h]⟩
     ·refine .inr ⟨by rw[aj h],.inr ?_⟩
      rintro⟨_,h1,h2,_⟩
      simp only at h1 h2
      rcases c5 with rfl|rfl|rfl
      ·exact h (h1 (by omega)).1
      ·exact h (h1 (by omega)).1
      ·exact h (h2 (by omega)).1
    rcases c5 with rfl|rfl|rfl
    ·simp only[show ¬(((3:Nat):Int)=2) by omega,show(((3:Nat):Int)=3)=True from eq_true rfl,cB,dL,bY,bO,bQ,hnx,value (n:=n) (by omega),bf]
     exact fin
    ·simp only[show ¬(((4:Nat):Int)=2) by omega,show ¬(((4:Nat):Int)=3) by omega,show(((4:Nat):Int)=4)=True from eq_true rfl,cB,dL,bY,bO,bQ,hnx,value (n:=n) (by omega),bf]
     exact fin
    ·simp only[show ¬(((5:Nat):Int)=2) by omega,show ¬(((5:Nat):Int)=3) by omega,show ¬(((5:Nat):Int)=4) by omega,show(((5:Nat):Int)=5)=True from eq_true rfl,cB,dL,bY,bO,bQ,hnx,value (n:=n) (by omega),bf]
     exact fin
def okW(ws:List (List Int)):Prop:=∀w∈ws,dN w/\w.length<=1048576
def Tz(k d:Nat)(all:List (List Int))(at':Nat)(ts:List bn)(b:Bool)(o:Option (Int×sK×Unit)):Prop:=
 ∃i at2 og b2,o=some (i,(all,((at2:Nat):Int),og,b2,()),())/\at'<=at2/\at2<=all.length/\(∃e,og=ts++e)/\og.length<=max ts.length (13+k)/\(b=true->b2=true)/\
  (b=false->(b2=true/\(match rd k (all.drop at')with
   |none=>True
   |some (tr,_)=>12<ts.length+d+size tr))\/
   (b2=false/\∃tr,rY tr/\og=ts++dD ts.length tr/\i=((ts.length+size tr-1:Nat):Int)/\(match rd k (all.drop at')with
   |none=>¬okV tr
   |some (Co,rest)=>tr=Co/\all.drop at2=rest)))
theorem fin_at{ts:List bn}(x:bn)(h:ts.length<=4000000){a:List (List Int)}{b:Int}{c:Bool}:(if(ts.length+[x].length)*80<=140737488355328 then some (IntKind.i64.wrap (((ts++[x]).length:Int)-(1:Int)),(a,b,ts++[x],c,()),())else none)=some ((ts.length:Int),(a,b,ts++[x],c,()),()):=by
 rw[ak (by simp;omega),wrap_i64 (by simp<;>omega) (by simp<;>omega)]
 simp
theorem N7:dN []:=λb hb=>by simp at hb
theorem Zo{all:List (List Int)}(hW:okW all)(hall:all.length<=1048577):∀(k m at':Nat) (ts:List bn) (b:Bool) (d:Nat),at'<=all.length->all.length-at'<k->k+1048600<m->k<=1048580->ts.length<=3000000->d<=13->Tz k d all at' ts b (wG m (all,(at':Int),ts,b,()) (d:Int)):=by
 intro k
 induction k with
 |zero=>intro m at' ts b d _ h;omega
 |succ k ih=>
  intro m at' ts b d hat hl hm hk hts hd
  obtain⟨m,rfl⟩:∃j,m=j+1:=⟨m-1,by omega⟩
  unfold wG
  by_cases hlt:at'<all.length
  ·rw[Fg hlt hall]
   have hdrop:all.drop at'=all[at'] :: all.drop (at'+1):=wM hlt
   obtain⟨hw1,hw2⟩:=hW _ (nM hlt)
   generalize all[at']=w at hdrop hw1 hw2 ⊢
   have hle:=PD w
   simp only[bf,YJ (n:=m) (by omega),BJ]
   have stop:∀i:Int,(kd w=0\/12<d\/12<ts.length\/b=true)->Tz (k+1) d all at' ts b (some (i,(all,((at'+1:Nat):Int),ts,true,()),())):=by
    intro i h
    refine⟨i,at'+1,ts,true,rfl,by omega,by omega,⟨[],by simp⟩,by omega,λ_=>rfl,λhb=>.inl ⟨rfl,?_⟩⟩
    rw[hdrop]
    by_cases h0:kd w=0
    ·unfold rd
     rw[ak h0]
     exact trivial
    ·cases rd (k+1) (w :: all.drop (at'+1))with
     |none=>exact trivial
     |some p=>
      have:=size_pos p.1
      rcases h with h|h|h|h
      ·exact absurd h h0
      ·show 12<ts.length+d+size p.1;omega
      ·show 12<ts.length+d+size p.1;omega
      ·rw[hb]at h;simp at h
   by_cases c0:kd w=0
   ·rw[ak (by rw[bN];omega)]
    exact stop 0 (.inl c0)
   ·rw[aj (by rw[bN];omega)]
    by_cases cd:12<d
    ·rw[ak (by rw[bN];omega)]
     exact stop 0 (.inr (.inl cd))
    ·rw[aj (by rw[bN];omega)]
     by_cases ct:12<ts.length
     ·rw[ak (by rw[bN];omega)]
      exact stop 0 (.inr (.inr (.inl ct)))
     ·rw[aj (by rw[bN];omega)]
      cases b with
      |true=>
       rw[ak rfl]
       exact stop 0 (.inr (.inr (.inr rfl)))
      |false=>
       rw[aj (by decide)]
       have hd1:IntKind.i64.wrap ((d:Int)+1)=((d+1:Nat):Int):=by rw[wrap_i64 (by omega) (by omega)];omega
       by_cases c9:9<=kd w
       ·rw[ak (by rw[bN];omega)]
        obtain⟨i1,LU,mU,b1,g1,g2,g3,⟨e1,g4⟩,g5,_,g7⟩:=ih m (at'+1) ts false (d+1) (by omega) (by omega) (by omega) (by omega) hts (by omega)
        have g7:=g7 rfl
        rw[hd1,g1]
        simp only[bf]
        have ah1:mU.length<=3000000:=by omega
        by_cases c10:10<=kd w
        ·rw[ak (by rw[bN];omega)]
         cases b1 with
         |true=>
          rw[aj (by decide),J4 (by omega)]
          simp only[bf]
          rw[fin_at _ (by omega)]
          refine⟨_,LU,_,true,rfl,by omega,g3,⟨e1++[_],by rw[g4,fH]⟩,by simp;omega,λ_=>rfl,λ_=>.inl ⟨rfl,?_⟩⟩
          rw[hdrop]
          unfold rd
          rw[aj c0,aj (by omega),aj (by omega),ak (by omega)]
          rcases g7 with⟨_,h2⟩|⟨h1,_⟩
          ·cases hr:rd k (all.drop (at'+1))with
           |none=>exact trivial
           |some p=>
            obtain⟨a,r1⟩:=p
            rw[hr]at h2
            simp only[bf]
            cases hq:rd k r1 with
            |none=>exact trivial
            |some q=>
             simp only[gz,size]
             simp only at h2
             omega
          ·simp at h1
         |false=>
          obtain⟨i2,at2,og,b2,k1,k2,k3,⟨e2,k4⟩,k5,_,k7⟩:=ih m LU mU false (d+1) (by omega) (by omega) (by omega) (by omega) ah1 (by omega)
          have k7:=k7 rfl
          rw[ak (by decide),k1]
          simp only[bf]
          rw[J4 (by omega)]
          simp only[bf]
          rw[fin_at _ (by omega)]
          have NW:∃e,og++[((kd w:Int),0,[],[],i1,i2,())]=ts++e:=⟨e1++(e2++[((kd w:Int),0,[],[],i1,i2,())]),by rw[k4,g4];simp⟩
          refine⟨_,at2,_,b2,rfl,by omega,k3,NW,by simp;omega,λh=>by simp at h,λ_=>?_⟩
          rw[hdrop]
          unfold rd
          rw[aj c0,aj (by omega),aj (by omega),ak (by omega)]
          rcases g7 with⟨h1,_⟩|⟨_,a,h1,h2,h3,h4⟩
          ·simp at h1
          ·have hlen:mU.length=ts.length+size a:=by rw[h2,d_,lY]
           rcases k7 with⟨j1,j2⟩|⟨j1,c,j2,j3,j4,j5⟩
           ·refine .inl ⟨j1,?_⟩
            cases hr:rd k (all.drop (at'+1))with
            |none=>exact trivial
            |some p=>
             obtain⟨a',r1⟩:=p
             rw[hr]at h4
             obtain⟨rfl,h5⟩:=h4
             rw[h5]at j2
             simp only[bf]
             cases hq:rd k r1 with
             |none=>exact trivial
             |some q=>
              rw[hq]at j2
              simp only[gz,size]
              simp only at j2
              omega
           ·refine .inr ⟨j1,.two (kd w) a c,⟨by omega,h1,j2⟩,?_,?_,?_⟩
            ·rw[j3,j4,h3,hlen,h2]
             simp only[dD,fH]
            ·rw[j3,d_,lY,hlen]
             simp only[size]
             omega
            ·cases hr:rd k (all.drop (at'+1))with
             |none=>
              rw[hr]at h4
              exact λh=>h4 h.1
             |some p=>
              obtain⟨a',r1⟩:=p
              rw[hr]at h4
              obtain⟨rfl,h5⟩:=h4
              rw[h5]at j5
              simp only[bf]
              cases hq:rd k r1 with
              |none=>
               rw[hq]at j5
               exact λh=>j5 h.2
              |some q=>
               rw[hq]at j5
               obtain⟨rfl,h6⟩:=j5
               exact⟨rfl,h6⟩
        ·have c9':kd w=9:=by omega
         rw[aj (by rw[bN];omega),J4 (by omega)]
         simp only[bf]
         rw[fin_at _ (by omega)]
         refine⟨_,LU,_,b1,rfl,by omega,g3,⟨e1++[_],by rw[g4,fH]⟩,by simp;omega,λh=>by simp at h,λ_=>?_⟩
         rw[hdrop]
         unfold rd
         rw[aj c0,aj (by omega),ak c9']
         rcases g7 with⟨h1,h2⟩|⟨h1,a,h2,h3,h4,h5⟩
         ·refine .inl ⟨h1,?_⟩
          cases hr:rd k (all.drop (at'+1))with
          |none=>exact trivial
          |some p=>
           rw[hr]at h2
           simp only[gz,size]
           simp only at h2
           omega
         ·refine .inr ⟨h1,.one a,h2,?_,?_,?_⟩
          ·rw[h3,h4,c9']
           simp only[dD,fH]
           rfl
          ·rw[h3,d_,lY]
           simp only[size]
           omega
          ·cases hr:rd k (all.drop (at'+1))with
           |none=>
            rw[hr]at h5
            exact h5
           |some p=>
            rw[hr]at h5
            obtain⟨rfl,h6⟩:=h5
            exact⟨rfl,h6⟩
       ·rw[aj (by rw[bN];omega),aj (by rw[bN];omega)]
        by_cases c1:kd w=1
        ·rw[J4 (by omega)]
         simp only[bf]
         rw[fin_at _ (by omega)]
         refine⟨_,at'+1,_,false,rfl,by omega,by omega,⟨[_],rfl⟩,by simp;omega,λh=>by simp at h,λ_=>?_⟩
         rw[hdrop]
         unfold rd
         rw[aj c0,ak c1,c1]
         exact .inr ⟨rfl,.leaf (1,0,[],[],0,0,()),⟨by decide,by decide,by decide,by decide,rfl,rfl,by decide⟩,rfl,by simp[size],rfl,rfl⟩
        ·have hK:2<=kd w/\kd w<=8:=by omega
         by_cases hlt2:at'+1<all.length
         ·obtain⟨hv1,hv2⟩:=hW _ (nM hlt2)
          have Nh:all.drop (at'+1)=all[at'+1] :: all.drop (at'+1+1):=wM hlt2
          obtain⟨t,ok,h1,h2,h3,hsL⟩:=ZX (n:=m) (by omega) hK (l:=0) (r:=0) hv1 hv2 (Fg (n:=m) (ts:=ts) (b:=false) hlt2 hall)
          rw[h1]
          simp only[bf,FX]
          rw[fin_at _ (by omega)]
          refine⟨_,at'+1+1,_,!ok,rfl,by omega,by omega,⟨[_],rfl⟩,by simp;omega,λh=>by simp at h,λ_=>?_⟩
          rw[hdrop,Nh]
          unfold rd
          rw[aj c0,aj c1,aj (by omega),aj (by omega)]
          have ht:t=(t.1,t.2.1,t.2.2.1,t.2.2.2.1,0,0,()):=by
           obtain⟨q1,q2,q3,q4,q5⟩:=t
           simp only at h2
           rw[h2]
          rw[<-ht]at h3 hsL
          cases ok with
          |false=>
           refine .inl ⟨rfl,?_⟩
           rcases h3 with⟨h3,_⟩|⟨h3,h4⟩
           ·simp at h3
           ·simp only[h3,Option.map_none]
          |true=>
           refine .inr ⟨rfl,.leaf t,hsL rfl,rfl,by simp[size],?_⟩
           rcases h3 with⟨_,h3⟩|⟨h3,h4⟩
           ·simp only[h3,gz]
            exact⟨trivial,trivial⟩
           ·simp only[h3,Option.map_none]
            rcases h4 with h4|h4
            ·simp at h4
            ·exact h4
         ·obtain⟨t,ok,h1,h2,h3,hsL⟩:=ZX (n:=m) (by omega) hK (l:=0) (r:=0) N7 (by simp) (Fh (n:=m) (ts:=ts) (b:=false) (at':=at'+1) (all:=all) (by omega))
          rw[h1]
          simp only[bf,Bool.true_or]
          rw[fin_at _ (by omega)]
          refine⟨_,at'+1,_,true,rfl,by omega,by omega,⟨[_],rfl⟩,by simp;omega,λ_=>rfl,λ_=>?_⟩
          have Nh:all.drop (at'+1)=[]:=List.drop_eq_nil_iff.2 (by omega)
          refine .inl ⟨rfl,?_⟩
          rw[hdrop,Nh]
          unfold rd
          rw[aj c0,aj c1,aj (by omega),aj (by omega)]
          exact trivial
  ·rw[Fh (by omega)]
   have e0:kd []=0:=by decide
   simp only[bf,YJ (n:=m) (by omega),e0]
   rw[ak (by decide)]
   refine⟨0,at',ts,true,rfl,bT _,hat,⟨[],by simp⟩,by omega,λ_=>rfl,λ_=>?_⟩
   refine .inl ⟨rfl,?_⟩
   rw[List.drop_eq_nil_iff.2 (by omega)]
   exact trivial
end Go.Proofs.YtgppmpedglhhfaaGreatDoor.wU
