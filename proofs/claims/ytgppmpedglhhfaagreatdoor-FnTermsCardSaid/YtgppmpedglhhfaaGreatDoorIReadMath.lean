/- How the implementation reads terms. -/
import Derived.Test.YtgppmpedglhhfaaGreatDoorTreeMath
set_option linter.unusedVariables false
set_option linter.unusedSimpArgs false
namespace Go.Proofs.YtgppmpedglhhfaaGreatDoor.lu
open Go Ow nL nM aI uo jC sF vB oW vK
def okW(ws:List (List Int)):Prop:=∀w∈ws,dD w/\w.length<=1048576
theorem JU{n:Nat}{w:List Int}{ws:List (List Int)}{ts:List aa}{b:Bool}:uf n (w :: ws,ts,b,())=some (w,(ws,ts,b,()),()):=by
 unfold uf
 rw[ah (by simp;omega),aj (by exact fu (i:=0) (by simp)),aj (by simp;omega)]
 rfl
theorem JV{n:Nat}{ts:List aa}{b:Bool}:uf n ([],ts,b,())=some ([],([],ts,true,()),()):=by
 unfold uf
 rw[aj (by simp)]
theorem hasNum{n:Nat}(k:Int):Cu n k=some (decide (2<=k/\k<=5),()):=by
 unfold Cu
 rw[within]
 rfl
theorem yP{n:Nat}(k:Int):xU n k=some (decide (k=6\/k=7),()):=by
 unfold xU
 by_cases h:k=6<;>simp[h]
def Ll(k:Nat)(ws:List (List Int))(ts:List aa)(o:Option (Int×yw×Unit)):Prop:=
 ∃i ws' ts' b',o=some (i,(ws',ts',b',()),())/\(∀w∈ws',w∈ws)/\ws'.length<=ws.length/\ts'.length<=max ts.length (13+k)/\
  match rd k ws with
  |none=>b'=true
  |some (tr,rest)=>(b'=true/\12<ts.length+size tr)\/(b'=false/\ws'=rest/\ts'=ts++bD ts.length tr/\i=((ts.length+size tr-1:Nat):Int))
theorem nW{n:Nat}(l:List aa):kI n l=some ((l.length:Int),()):=rfl
theorem last_at{ts:List aa}{x:aa}(h:ts.length<=1000000):IntKind.i64.wrap ((ts++[x]).length-(1:Int))=(ts.length:Int):=by
 rw[wrap_i64 (by simp<;>omega) (by simp<;>omega)]
 simp
theorem awp{k:Nat}{w v:List Int}{ws:List (List Int)}{ts:List aa}{o:Option (Int×yw×Unit)}(hk:2<=kd w/\kd w<=8)(hts:ts.length<=12)
  (h:∃t ok,o=some ((ts.length:Int),(ws,ts++[t],!ok,()),())/\((ok=true/\jW (kd w) v=some t)\/(ok=false/\jW (kd w) v=none))):Ll (k+1) (w :: v :: ws) ts o:=by
 obtain⟨t,ok,rfl,h⟩:=h
 refine⟨_,_,_,_,rfl,λx hx=>by simp[hx],by simp<;>omega,by simp<;>omega,?_⟩
 unfold rd
 rw[ah (by omega),ah (by omega),ah (by omega),ah (by omega)]
 rcases h with⟨rfl,h⟩|⟨rfl,h⟩
 ·simp only[h,gq,bD,size]
  exact .inr ⟨rfl,trivial,trivial,by omega⟩
 ·simp only[h,Option.map_none]
  rfl
theorem awo{k:Nat}{w:List Int}{ts:List aa}{o:Option (Int×yw×Unit)}(hk:2<=kd w/\kd w<=8)(hts:ts.length<=12)
  (h:∃t,o=some ((ts.length:Int),([],ts++[t],true,()),())):Ll (k+1) [w] ts o:=by
 obtain⟨t,rfl⟩:=h
 refine⟨_,_,_,_,rfl,λx hx=>by simp at hx,by simp,by simp;omega,?_⟩
 unfold rd
 rw[ah (by omega),ah (by omega),ah (by omega),ah (by omega)]
theorem TH:dD []:=λb hb=>by simp at hb
theorem aiN:∀(k m:Nat) (ws:List (List Int)) (ts:List aa),okW ws->ws.length<k->k+1048600<m->k<=100000->ts.length<=200000->Ll k ws ts (wL m (ws,ts,false,())):=by
 intro k
 induction k with
 |zero=>intro m ws ts _ h;omega
 |succ k ih=>
  intro m ws ts hw hl hm hk hts
  obtain⟨m,rfl⟩:∃j,m=j+1:=⟨m-1,by omega⟩
  unfold wL
  simp only[bP,bI]
  by_cases h12:12<ts.length
  ·rw[aj (by rw[bF];omega)]
   refine⟨_,_,_,_,rfl,λw hw=>hw,bZ _,by omega,?_⟩
   cases hr:rd (k+1) ws with
   |none=>rfl
   |some p=>exact .inl ⟨rfl,by have:=size_pos p.1;omega⟩
  ·rw[ah (by rw[bF];omega)]
   have hidx:∀w,FZ m [[97,108,108],[102,108,97,103],[115,105,110,99,101],[98,101,102,111,114,101],[108,97,114,103,101,114],[115,117,98,106,101,99,116],[98,111,100,121],[117,105,100],[110,111,116],[97,110,100],[111,114]] w=some ((kd w:Int)-1,()):=λw=>index (n:=m) (by omega) w
   have hroom:∀x:aa,(ts.length+[x].length)*80<=140737488355328:=λx=>by simp;omega
   have hrm:(ts.length+1)*80<=140737488355328:=by omega
   have hwl:IntKind.i64.wrap (ts.length:Int)=ts.length:=wrap_i64 (by omega) (by omega)
   cases ws with
   |nil=>
    rw[JV]
    simp only[aQ,hidx]
    have e0:kd []=0:=by decide
    rw[e0]
    have e1:IntKind.i64.wrap (((0:Nat):Int)-1+1)=0:=by decide
    simp only[e1,hasNum,yP,aQ]
    simp only[show ¬((0:Int)=2) by decide,show ¬((2:Int)<=0/\(0:Int)<=5) by decide,show ¬((0:Int)=6\/(0:Int)=7) by decide,show ¬((0:Int)=8) by decide,show ¬((0:Int)=9) by decide,show ¬((0:Int)>9) by decide,dm,bP,bI,bL,nW,aQ]
    rw[aj (by simp;omega),last_at (by omega)]
    exact⟨_,_,_,_,rfl,λw hw=>hw,bZ _,by simp;omega,rfl⟩
   |cons w ws=>
    obtain⟨hw1,hw2⟩:=hw w (by simp)
    have hws:okW ws:=λx hx=>hw x (by simp[hx])
    have hle:=Wd w
    rw[JU]
    simp only[aQ,hidx]
    have e1:IntKind.i64.wrap ((kd w:Int)-1+1)=(kd w:Int):=by rw[wrap_i64 (by omega) (by omega)];omega
    simp only[e1,hasNum,yP,aQ]
    by_cases abM:2<=kd w/\kd w<=8
    ·have hpos:decide ((kd w:Int)-1<0)=false:=by rw[decide_eq_false_iff_not];omega
     have split:∃v st b,uf m (ws,ts,false,())=some (v,(st,ts,b,()),())/\dD v/\v.length<=1048576/\((b=false/\ws=v :: st)\/(b=true/\ws=[]/\st=[])):=by
      cases ws with
      |nil=>exact⟨_,_,_,JV,TH,by simp,.inr ⟨rfl,rfl,rfl⟩⟩
      |cons v st=>exact⟨_,_,_,JU,(hws v (by simp)).1,(hws v (by simp)).2,.inl ⟨rfl,rfl⟩⟩
     obtain⟨v,st,b,hn,hv1,hv2,hb⟩:=split
     have fin:∀(o:Option (Int×yw×Unit)) (t:aa) (ok:Bool),((ok=true/\jW (kd w) v=some t)\/(ok=false/\jW (kd w) v=none))->o=some ((ts.length:Int),(st,ts++[t],b || !ok,()),())->Ll (k+1) (w :: ws) ts o:=by
      intro o t ok h1 h2
      rcases hb with⟨rfl,rfl⟩|⟨rfl,rfl,rfl⟩
      ·exact awp abM (by omega) ⟨t,ok,by rw[h2,Kt],h1⟩
      ·exact awo abM (by omega) ⟨t,by rw[h2,Bool.true_or]⟩
     rw[hn]
     by_cases c2:kd w=2
     ·have c2':(kd w:Int)=2:=by omega
      simp only[c2',bY,bL,aQ,axq (n:=m) (by omega)]
      rw[c2']at hpos
      have hh:(ok:Bool)->True:=λ_=>trivial
      cases hf:AO v with
      |none=>
       refine fin _ (2,0,[],[],0,0,()) false (.inr ⟨rfl,by unfold jW;simp[c2,hf]⟩) ?_
       simp only[qO]
       cases b<;>simp[nW,hwl,hrm]<;>omega
      |some f=>
       refine fin _ (2,(f:Int),[],[],0,0,()) true (.inl ⟨rfl,by unfold jW;simp[c2,hf]⟩) ?_
       simp only[qO]
       cases b<;>simp[nW,hwl,hrm]<;>omega
     ·have c2':¬(kd w:Int)=2:=by omega
      simp only[c2',dm,bP,bI]
      by_cases c5:kd w<=5
      ·have Ru:2<=(kd w:Int)/\(kd w:Int)<=5:=by omega
       obtain⟨x,hx1,hx2⟩:=ahX (n:=m) hv1 hv2
       simp only[Ru,and_self,bY,bL,aQ,hx1]
       by_cases hv:0<=fP v
       ·have:=hx2 hv
        subst this
        refine fin _ ((kd w:Int),fP v,[],[],0,0,()) true (.inl ⟨rfl,by unfold jW;rw[ah c2,ah (by omega),ah (by omega),aj hv]⟩) ?_
        simp only[hv,bY]
        cases b<;>simp[nW,hwl,hrm,hpos]<;>omega
       ·refine fin _ ((kd w:Int),x,[],[],0,0,()) false (.inr ⟨rfl,by unfold jW;rw[ah c2,ah (by omega),ah (by omega),ah hv]⟩) ?_
        simp only[hv,dm]
        cases b<;>simp[nW,hwl,hrm,hpos]<;>omega
      ·have Ru:¬(2<=(kd w:Int)/\(kd w:Int)<=5):=by omega
       simp only[Ru,dm,bP,bI]
       by_cases c6:kd w=6\/kd w=7
       ·have Rv:(kd w:Int)=6\/(kd w:Int)=7:=by omega
        simp only[Rv,bY,bL,aQ,amZ (n:=m) hv1 hv2 (by omega)]
        cases hd:iG v.length v with
        |none=>
         refine fin _ ((kd w:Int),0,[],[],0,0,()) false (.inr ⟨rfl,by unfold jW;rw[ah c2,ah (by omega),aj c6,hd];rfl⟩) ?_
         simp only[lF]
         cases b<;>simp[nW,hwl,hrm,hpos]<;>omega
        |some cs=>
         refine fin _ ((kd w:Int),0,cs,[],0,0,()) true (.inl ⟨rfl,by unfold jW;rw[ah c2,ah (by omega),aj c6,hd];rfl⟩) ?_
         simp only[lF]
         cases b<;>simp[nW,hwl,hrm,hpos]<;>omega
       ·have Rv:¬((kd w:Int)=6\/(kd w:Int)=7):=by omega
        have c8:kd w=8:=by omega
        have c8':(kd w:Int)=8:=by omega
        obtain⟨l,ok,hp1,hp2⟩:=axo (n:=m) hv1 hv2 (by omega)
        simp only[Rv,dm,bP,bI,c8',bY,bL,aQ,hp1]
        refine fin _ (8,0,[],l,0,0,()) ok ?_ ?_
        ·unfold jW
         rw[ah c2,aj c8]
         rcases hp2 with⟨h1,h2⟩|⟨h1,h2⟩
         ·exact .inl ⟨h1,by rw[h2];rfl⟩
         ·exact .inr ⟨h1,by rw[h2];rfl⟩
        ·cases b<;>cases ok<;>simp[nW,hwl,hrm,hpos]<;>omega
    ·have c2:¬(kd w:Int)=2:=by omega
     have c5:¬(2<=(kd w:Int)/\(kd w:Int)<=5):=by omega
     have c6:¬((kd w:Int)=6\/(kd w:Int)=7):=by omega
     have c8:¬(kd w:Int)=8:=by omega
     simp only[c2,c5,c6,c8,dm,bP,bI]
     by_cases c9:kd w=9
     ·have c9':(kd w:Int)=9:=by omega
      obtain⟨i1,Cc,nD,b1,g1,g2,g3,g4,g5⟩:=ih m ws ts hws (by simp at hl;omega) (by omega) (by omega) hts
      have hrm1:(nD.length+1)*80<=140737488355328:=by omega
      have TF:IntKind.i64.wrap (nD.length:Int)=nD.length:=wrap_i64 (by omega) (by omega)
      simp only[c9',bY,bL,g1,aQ]
      refine⟨(nD.length:Int),Cc,nD++[(9,0,[],[],i1,0,())],b1,?_,λx hx=>by simp[g2 x hx],by simp<;>omega,by simp<;>omega,?_⟩
      ·cases b1<;>simp[nW,TF,hrm1]<;>omega
      ·unfold rd
       rw[ah (by omega),ah (by omega),aj c9]
       cases hr:rd k ws with
       |none=>rw[hr]at g5;exact g5
       |some p=>
        obtain⟨a,r1⟩:=p
        rw[hr]at g5
        simp only[gq,size]
        rcases g5 with⟨h1,h2⟩|⟨h1,h2,h3,h4⟩
        ·exact .inl ⟨h1,by omega⟩
        ·refine .inr ⟨h1,h2,?_,?_⟩
         ·rw[h3,h4]
          simp only[bD,eG]
         ·rw[h3,dI,jy]
          omega
     ·have c9':¬(kd w:Int)=9:=by omega
      simp only[c9',dm,bP,bI]
      by_cases c10:9<kd w
      ·have yE:(kd w:Int)>9:=by omega
       simp only[yE,bY,bL]
       obtain⟨i1,Cc,nD,b1,g1,g2,g3,g4,g5⟩:=ih m ws ts hws (by simp at hl;omega) (by omega) (by omega) hts
       rw[g1]
       simp only[aQ]
       cases b1 with
       |true=>
        have e2:wL m (Cc,nD,true,())=some (0,(Cc,nD,true,()),()):=by
         obtain⟨m',rfl⟩:∃j,m=j+1:=⟨m-1,by omega⟩
         unfold wL
         simp
        have hrm1:(nD.length+1)*80<=140737488355328:=by omega
        have TF:IntKind.i64.wrap (nD.length:Int)=nD.length:=wrap_i64 (by omega) (by omega)
        refine⟨(nD.length:Int),Cc,nD++[((kd w:Int),0,[],[],i1,0,())],true,?_,λx hx=>by simp[g2 x hx],by simp<;>omega,by simp<;>omega,?_⟩
        ·rw[e2]
         simp[nW,TF,hrm1]
        ·unfold rd
         rw[ah (by omega),ah (by omega),ah c9,aj c10]
         cases hr:rd k ws with
         |none=>rfl
         |some p=>
          obtain⟨a,r1⟩:=p
          rw[hr]at g5
          simp only[aQ]
          cases hq:rd k r1 with
          |none=>exact trivial
          |some q=>
           simp only[gq,size]
           rcases g5 with⟨h1,h2⟩|⟨h1,_⟩
           ·exact .inl ⟨trivial,by omega⟩
           ·simp at h1
       |false=>
        obtain⟨i2,mU,oO,b2,k1,k2,k3,k4,k5⟩:=ih m Cc nD (λx hx=>hws x (g2 x hx)) (by simp at hl;omega) (by omega) (by omega) (by omega)
        have ap8:(oO.length+1)*80<=140737488355328:=by omega
        have aqs:IntKind.i64.wrap (oO.length:Int)=oO.length:=wrap_i64 (by omega) (by omega)
        refine⟨(oO.length:Int),mU,oO++[((kd w:Int),0,[],[],i1,i2,())],b2,?_,λx hx=>by simp[g2 x (k2 x hx)],by simp<;>omega,by simp<;>omega,?_⟩
        ·rw[k1]
         have hpos:decide ((kd w:Int)-1<0)=false:=by rw[decide_eq_false_iff_not];omega
         cases b2<;>simp[nW,aqs,ap8,hpos]<;>omega
        ·unfold rd
         rw[ah (by omega),ah (by omega),ah c9,aj c10]
         cases hr:rd k ws with
         |none=>rw[hr]at g5;simp at g5
         |some p=>
          obtain⟨a,r1⟩:=p
          rw[hr]at g5
          simp only[aQ]
          rcases g5 with⟨h1,_⟩|⟨_,h2,h3,h4⟩
          ·simp at h1
          ·subst h2
           cases hq:rd k Cc with
           |none=>rw[hq]at k5;exact k5
           |some q=>
            obtain⟨c,r2⟩:=q
            rw[hq]at k5
            have hlen:nD.length=ts.length+size a:=by rw[h3,dI,jy]
            simp only[gq,size]
            rcases k5 with⟨j1,j2⟩|⟨j1,j2,j3,j4⟩
            ·exact .inl ⟨j1,by omega⟩
            ·refine .inr ⟨j1,j2,?_,?_⟩
             ·rw[j3,j4,h4,hlen,h3]
              simp only[bD,eG]
             ·rw[j3,dI,jy,hlen]
              omega
      ·
       have yE:¬(kd w:Int)>9:=by omega
       simp only[yE,dm,bP,bI]
       refine⟨(ts.length:Int),ws,ts++[((kd w:Int),0,[],[],0,0,())],decide (kd w=0),?_,λx hx=>by simp[hx],by simp,by simp;omega,?_⟩
       ·have:decide ((kd w:Int)-1<0)=decide (kd w=0):=uA.2 (by omega)
        simp[nW,hwl,hrm,this]
       ·unfold rd
        by_cases c0:kd w=0
        ·rw[aj c0,c0]
         rfl
        ·have c1:kd w=1:=by omega
         rw[ah c0,aj c1,c1]
         exact .inr ⟨rfl,rfl,rfl,by simp[size]⟩
end Go.Proofs.YtgppmpedglhhfaaGreatDoor.lu
