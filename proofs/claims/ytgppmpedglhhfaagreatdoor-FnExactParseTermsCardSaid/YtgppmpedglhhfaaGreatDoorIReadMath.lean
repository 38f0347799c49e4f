/- How the implementation reads terms. -/
import Derived.Test.YtgppmpedglhhfaaGreatDoorTreeMath
set_option linter.unusedVariables false
set_option linter.unusedSimpArgs false
namespace Go.Proofs.YtgppmpedglhhfaaGreatDoor.nK
open Go Ow q9 qZ aD vg jY vv yB vB Au
def okW(ws:List (List Int)):Prop:=∀w∈ws,dN w/\w.length<=1048576
theorem Fg{n:Nat}{w:List Int}{ws:List (List Int)}{ts:List bn}{b:Bool}:sj n (w :: ws,ts,b,())=some (w,(ws,ts,b,()),()):=by
 unfold sj
 rw[aj (by simp;omega),ak (by exact ig (i:=0) (by simp)),ak (by simp;omega)]
 rfl
theorem Fh{n:Nat}{ts:List bn}{b:Bool}:sj n ([],ts,b,())=some ([],([],ts,true,()),()):=by
 unfold sj
 rw[ak (by simp)]
theorem hasNum{n:Nat}(k:Int):Ab n k=some (decide (2<=k/\k<=5),()):=by
 unfold Ab
 rw[within]
 rfl
theorem ze{n:Nat}(k:Int):wF n k=some (decide (k=6\/k=7),()):=by
 unfold wF
 by_cases h:k=6<;>simp[h]
def He(k:Nat)(ws:List (List Int))(ts:List bn)(o:Option (Int×wW×Unit)):Prop:=
 ∃i ws' ts' b',o=some (i,(ws',ts',b',()),())/\(∀w∈ws',w∈ws)/\ws'.length<=ws.length/\ts'.length<=max ts.length (13+k)/\
  match rd k ws with
  |none=>b'=true
  |some (tr,rest)=>(b'=true/\12<ts.length+size tr)\/(b'=false/\ws'=rest/\ts'=ts++dD ts.length tr/\i=((ts.length+size tr-1:Nat):Int))
theorem pG{n:Nat}(l:List bn):jZ n l=some ((l.length:Int),()):=rfl
theorem last_at{ts:List bn}{x:bn}(h:ts.length<=1000000):IntKind.i64.wrap ((ts++[x]).length-(1:Int))=(ts.length:Int):=by
 rw[wrap_i64 (by simp<;>omega) (by simp<;>omega)]
 simp
theorem amq{k:Nat}{w v:List Int}{ws:List (List Int)}{ts:List bn}{o:Option (Int×wW×Unit)}(hk:2<=kd w/\kd w<=8)(hts:ts.length<=12)
  (h:∃t ok,o=some ((ts.length:Int),(ws,ts++[t],!ok,()),())/\((ok=true/\jR (kd w) v=some t)\/(ok=false/\jR (kd w) v=none))):He (k+1) (w :: v :: ws) ts o:=by
 obtain⟨t,ok,rfl,h⟩:=h
 refine⟨_,_,_,_,rfl,λx hx=>by simp[hx],by simp<;>omega,by simp<;>omega,?_⟩
 unfold rd
 rw[aj (by omega),aj (by omega),aj (by omega),aj (by omega)]
 rcases h with⟨rfl,h⟩|⟨rfl,h⟩
 ·simp only[h,gz,dD,size]
  exact .inr ⟨rfl,trivial,trivial,by omega⟩
 ·simp only[h,Option.map_none]
  rfl
theorem amo{k:Nat}{w:List Int}{ts:List bn}{o:Option (Int×wW×Unit)}(hk:2<=kd w/\kd w<=8)(hts:ts.length<=12)
  (h:∃t,o=some ((ts.length:Int),([],ts++[t],true,()),())):He (k+1) [w] ts o:=by
 obtain⟨t,rfl⟩:=h
 refine⟨_,_,_,_,rfl,λx hx=>by simp at hx,by simp,by simp;omega,?_⟩
 unfold rd
 rw[aj (by omega),aj (by omega),aj (by omega),aj (by omega)]
theorem N7:dN []:=λb hb=>by simp at hb
theorem aaJ:∀(k m:Nat) (ws:List (List Int)) (ts:List bn),okW ws->ws.length<k->k+1048600<m->k<=100000->ts.length<=200000->He k ws ts (uW m (ws,ts,false,())):=by
 intro k
 induction k with
 |zero=>intro m ws ts _ h;omega
 |succ k ih=>
  intro m ws ts hw hl hm hk hts
  obtain⟨m,rfl⟩:∃j,m=j+1:=⟨m-1,by omega⟩
  unfold uW
  simp only[bY,bO]
  by_cases h12:12<ts.length
  ·rw[ak (by rw[bN];omega)]
   refine⟨_,_,_,_,rfl,λw hw=>hw,bT _,by omega,?_⟩
   cases hr:rd (k+1) ws with
   |none=>rfl
   |some p=>exact .inl ⟨rfl,by have:=size_pos p.1;omega⟩
  ·rw[aj (by rw[bN];omega)]
   have hidx:∀w,CO m [[97,108,108],[102,108,97,103],[115,105,110,99,101],[98,101,102,111,114,101],[108,97,114,103,101,114],[115,117,98,106,101,99,116],[98,111,100,121],[117,105,100],[110,111,116],[97,110,100],[111,114]] w=some ((kd w:Int)-1,()):=λw=>index (n:=m) (by omega) w
   have hroom:∀x:bn,(ts.length+[x].length)*80<=140737488355328:=λx=>by simp;omega
   have hrm:(ts.length+1)*80<=140737488355328:=by omega
   have hwl:IntKind.i64.wrap (ts.length:Int)=ts.length:=wrap_i64 (by omega) (by omega)
   cases ws with
   |nil=>
    rw[Fh]
    simp only[bf,hidx]
    have e0:kd []=0:=by decide
    rw[e0]
    have e1:IntKind.i64.wrap (((0:Nat):Int)-1+1)=0:=by decide
    simp only[e1,hasNum,ze,bf]
    simp only[show ¬((0:Int)=2) by decide,show ¬((2:Int)<=0/\(0:Int)<=5) by decide,show ¬((0:Int)=6\/(0:Int)=7) by decide,show ¬((0:Int)=8) by decide,show ¬((0:Int)=9) by decide,show ¬((0:Int)>9) by decide,dL,bY,bO,bQ,pG,bf]
    rw[ak (by simp;omega),last_at (by omega)]
    exact⟨_,_,_,_,rfl,λw hw=>hw,bT _,by simp;omega,rfl⟩
   |cons w ws=>
    obtain⟨hw1,hw2⟩:=hw w (by simp)
    have hws:okW ws:=λx hx=>hw x (by simp[hx])
    have hle:=PD w
    rw[Fg]
    simp only[bf,hidx]
    have e1:IntKind.i64.wrap ((kd w:Int)-1+1)=(kd w:Int):=by rw[wrap_i64 (by omega) (by omega)];omega
    simp only[e1,hasNum,ze,bf]
    by_cases VT:2<=kd w/\kd w<=8
    ·have hpos:decide ((kd w:Int)-1<0)=false:=by rw[decide_eq_false_iff_not];omega
     have split:∃v st b,sj m (ws,ts,false,())=some (v,(st,ts,b,()),())/\dN v/\v.length<=1048576/\((b=false/\ws=v :: st)\/(b=true/\ws=[]/\st=[])):=by
      cases ws with
      |nil=>exact⟨_,_,_,Fh,N7,by simp,.inr ⟨rfl,rfl,rfl⟩⟩
      |cons v st=>exact⟨_,_,_,Fg,(hws v (by simp)).1,(hws v (by simp)).2,.inl ⟨rfl,rfl⟩⟩
     obtain⟨v,st,b,hn,hv1,hv2,hb⟩:=split
     have fin:∀(o:Option (Int×wW×Unit)) (t:bn) (ok:Bool),((ok=true/\jR (kd w) v=some t)\/(ok=false/\jR (kd w) v=none))->o=some ((ts.length:Int),(st,ts++[t],b || !ok,()),())->He (k+1) (w :: ws) ts o:=by
      intro o t ok h1 h2
      rcases hb with⟨rfl,rfl⟩|⟨rfl,rfl,rfl⟩
      ·exact amq VT (by omega) ⟨t,ok,by rw[h2,FX],h1⟩
      ·exact amo VT (by omega) ⟨t,by rw[h2,Bool.true_or]⟩
     rw[hn]
     by_cases c2:kd w=2
     ·have c2':(kd w:Int)=2:=by omega
      simp only[c2',cB,bQ,bf,anr (n:=m) (by omega)]
      rw[c2']at hpos
      have hh:(ok:Bool)->True:=λ_=>trivial
      cases hf:y8 v with
      |none=>
       refine fin _ (2,0,[],[],0,0,()) false (.inr ⟨rfl,by unfold jR;simp[c2,hf]⟩) ?_
       simp only[qg]
       cases b<;>simp[pG,hwl,hrm]<;>omega
      |some f=>
       refine fin _ (2,(f:Int),[],[],0,0,()) true (.inl ⟨rfl,by unfold jR;simp[c2,hf]⟩) ?_
       simp only[qg]
       cases b<;>simp[pG,hwl,hrm]<;>omega
     ·have c2':¬(kd w:Int)=2:=by omega
      simp only[c2',dL,bY,bO]
      by_cases c5:kd w<=5
      ·have Mg:2<=(kd w:Int)/\(kd w:Int)<=5:=by omega
       obtain⟨x,hx1,hx2⟩:=ZV (n:=m) hv1 hv2
       simp only[Mg,and_self,cB,bQ,bf,hx1]
       by_cases hv:0<=fG v
       ·have:=hx2 hv
        subst this
        refine fin _ ((kd w:Int),fG v,[],[],0,0,()) true (.inl ⟨rfl,by unfold jR;rw[aj c2,aj (by omega),aj (by omega),ak hv]⟩) ?_
        simp only[hv,cB]
        cases b<;>simp[pG,hwl,hrm,hpos]<;>omega
       ·refine fin _ ((kd w:Int),x,[],[],0,0,()) false (.inr ⟨rfl,by unfold jR;rw[aj c2,aj (by omega),aj (by omega),aj hv]⟩) ?_
        simp only[hv,dL]
        cases b<;>simp[pG,hwl,hrm,hpos]<;>omega
      ·have Mg:¬(2<=(kd w:Int)/\(kd w:Int)<=5):=by omega
       simp only[Mg,dL,bY,bO]
       by_cases c6:kd w=6\/kd w=7
       ·have Mh:(kd w:Int)=6\/(kd w:Int)=7:=by omega
        simp only[Mh,cB,bQ,bf,aeJ (n:=m) hv1 hv2 (by omega)]
        cases hd:iH v.length v with
        |none=>
         refine fin _ ((kd w:Int),0,[],[],0,0,()) false (.inr ⟨rfl,by unfold jR;rw[aj c2,aj (by omega),ak c6,hd];rfl⟩) ?_
         simp only[kM]
         cases b<;>simp[pG,hwl,hrm,hpos]<;>omega
        |some cs=>
         refine fin _ ((kd w:Int),0,cs,[],0,0,()) true (.inl ⟨rfl,by unfold jR;rw[aj c2,aj (by omega),ak c6,hd];rfl⟩) ?_
         simp only[kM]
         cases b<;>simp[pG,hwl,hrm,hpos]<;>omega
       ·have Mh:¬((kd w:Int)=6\/(kd w:Int)=7):=by omega
        have c8:kd w=8:=by omega
        have c8':(kd w:Int)=8:=by omega
        obtain⟨l,ok,hp1,hp2⟩:=anp (n:=m) hv1 hv2 (by omega)
        simp only[Mh,dL,bY,bO,c8',cB,bQ,bf,hp1]
        refine fin _ (8,0,[],l,0,0,()) ok ?_ ?_
        ·unfold jR
         rw[aj c2,ak c8]
         rcases hp2 with⟨h1,h2⟩|⟨h1,h2⟩
         ·exact .inl ⟨h1,by rw[h2];rfl⟩
         ·exact .inr ⟨h1,by rw[h2];rfl⟩
        ·cases b<;>cases ok<;>simp[pG,hwl,hrm,hpos]<;>omega
    ·have c2:¬(kd w:Int)=2:=by omega
     have c5:¬(2<=(kd w:Int)/\(kd w:Int)<=5):=by omega
     have c6:¬((kd w:Int)=6\/(kd w:Int)=7):=by omega
     have c8:¬(kd w:Int)=8:=by omega
     simp only[c2,c5,c6,c8,dL,bY,bO]
     by_cases c9:kd w=9
     ·have c9':(kd w:Int)=9:=by omega
      obtain⟨i1,zT,mU,b1,g1,g2,g3,g4,g5⟩:=ih m ws ts hws (by simp at hl;omega) (by omega) (by omega) hts
      have hrm1:(mU.length+1)*80<=140737488355328:=by omega
      have NY:IntKind.i64.wrap (mU.length:Int)=mU.length:=wrap_i64 (by omega) (by omega)
      simp only[c9',cB,bQ,g1,bf]
      refine⟨(mU.length:Int),zT,mU++[(9,0,[],[],i1,0,())],b1,?_,λx hx=>by simp[g2 x hx],by simp<;>omega,by simp<;>omega,?_⟩
      ·cases b1<;>simp[pG,NY,hrm1]<;>omega
      ·unfold rd
       rw[aj (by omega),aj (by omega),ak c9]
       cases hr:rd k ws with
       |none=>rw[hr]at g5;exact g5
       |some p=>
        obtain⟨a,r1⟩:=p
        rw[hr]at g5
        simp only[gz,size]
        rcases g5 with⟨h1,h2⟩|⟨h1,h2,h3,h4⟩
        ·exact .inl ⟨h1,by omega⟩
        ·refine .inr ⟨h1,h2,?_,?_⟩
         ·rw[h3,h4]
          simp only[dD,fH]
         ·rw[h3,d_,lY]
          omega
     ·have c9':¬(kd w:Int)=9:=by omega
      simp only[c9',dL,bY,bO]
      by_cases c10:9<kd w
      ·have Me:(kd w:Int)>9:=by omega
       simp only[Me,cB,bQ]
       obtain⟨i1,zT,mU,b1,g1,g2,g3,g4,g5⟩:=ih m ws ts hws (by simp at hl;omega) (by omega) (by omega) hts
       rw[g1]
       simp only[bf]
       cases b1 with
       |true=>
        have e2:uW m (zT,mU,true,())=some (0,(zT,mU,true,()),()):=by
         obtain⟨m',rfl⟩:∃j,m=j+1:=⟨m-1,by omega⟩
         unfold uW
         simp
        have hrm1:(mU.length+1)*80<=140737488355328:=by omega
        have NY:IntKind.i64.wrap (mU.length:Int)=mU.length:=wrap_i64 (by omega) (by omega)
        refine⟨(mU.length:Int),zT,mU++[((kd w:Int),0,[],[],i1,0,())],true,?_,λx hx=>by simp[g2 x hx],by simp<;>omega,by simp<;>omega,?_⟩
        ·rw[e2]
         simp[pG,NY,hrm1]
        ·unfold rd
         rw[aj (by omega),aj (by omega),aj c9,ak c10]
         cases hr:rd k ws with
         |none=>rfl
         |some p=>
          obtain⟨a,r1⟩:=p
          rw[hr]at g5
          simp only[bf]
          cases hq:rd k r1 with
          |none=>exact trivial
          |some q=>
           simp only[gz,size]
           rcases g5 with⟨h1,h2⟩|⟨h1,_⟩
           ·exact .inl ⟨trivial,by omega⟩
           ·simp at h1
       |false=>
        obtain⟨i2,mh,og,b2,k1,k2,k3,k4,k5⟩:=ih m zT mU (λx hx=>hws x (g2 x hx)) (by simp at hl;omega) (by omega) (by omega) (by omega)
        have ahR:(og.length+1)*80<=140737488355328:=by omega
        have aia:IntKind.i64.wrap (og.length:Int)=og.length:=wrap_i64 (by omega) (by omega)
        refine⟨(og.length:Int),mh,og++[((kd w:Int),0,[],[],i1,i2,())],b2,?_,λx hx=>by simp[g2 x (k2 x hx)],by simp<;>omega,by simp<;>omega,?_⟩
        ·rw[k1]
         have hpos:decide ((kd w:Int)-1<0)=false:=by rw[decide_eq_false_iff_not];omega
         cases b2<;>simp[pG,aia,ahR,hpos]<;>omega
        ·unfold rd
         rw[aj (by omega),aj (by omega),aj c9,ak c10]
         cases hr:rd k ws with
         |none=>rw[hr]at g5;simp at g5
         |some p=>
          obtain⟨a,r1⟩:=p
          rw[hr]at g5
          simp only[bf]
          rcases g5 with⟨h1,_⟩|⟨_,h2,h3,h4⟩
          ·simp at h1
          ·subst h2
           cases hq:rd k zT with
           |none=>rw[hq]at k5;exact k5
           |some q=>
            obtain⟨c,r2⟩:=q
            rw[hq]at k5
            have hlen:mU.length=ts.length+size a:=by rw[h3,d_,lY]
            simp only[gz,size]
            rcases k5 with⟨j1,j2⟩|⟨j1,j2,j3,j4⟩
            ·exact .inl ⟨j1,by omega⟩
            ·refine .inr ⟨j1,j2,?_,?_⟩
             ·rw[j3,j4,h4,hlen,h3]
              simp only[dD,fH]
             ·rw[j3,d_,lY,hlen]
              omega
      ·
       have Me:¬(kd w:Int)>9:=by omega
       simp only[Me,dL,bY,bO]
       refine⟨(ts.length:Int),ws,ts++[((kd w:Int),0,[],[],0,0,())],decide (kd w=0),?_,λx hx=>by simp[hx],by simp,by simp;omega,?_⟩
       ·have:decide ((kd w:Int)-1<0)=decide (kd w=0):=uE.2 (by omega)
        simp[pG,hwl,hrm,this]
       ·unfold rd
        by_cases c0:kd w=0
        ·rw[ak c0,c0]
         rfl
        ·have c1:kd w=1:=by omega
         rw[aj c0,ak c1,c1]
         exact .inr ⟨rfl,rfl,rfl,by simp[size]⟩
end Go.Proofs.YtgppmpedglhhfaaGreatDoor.nK
