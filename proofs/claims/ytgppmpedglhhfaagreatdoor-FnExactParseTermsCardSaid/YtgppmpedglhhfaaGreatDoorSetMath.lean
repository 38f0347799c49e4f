/- Sets of numbers: both readers read the same. -/
import Derived.Test.YtgppmpedglhhfaaGreatDoorLeafMath
set_option linter.unusedVariables false
set_option linter.unusedSimpArgs false
namespace Go.Proofs.YtgppmpedglhhfaaGreatDoor.vB
open Go Ow q9 qZ aD vg jY vv yB
theorem PG{n:Nat}{s:List Int}{c:Int}(hl:s.length<=1048576)(hn:1048578<n):yj n s c=some (aY c s,()):=by
 unfold yj
 refine(aeD hl (λ_ _=>rfl) s.length n 0 0 [] (by omega) (by omega) (by omega) (by simp)).trans ?_
 simp only[List.take_zero,List.drop_nil,u6,jq]
 rw[Vg (qI c s)]
def kN(w:List Int):Int:=if w=[42]then 0 else if 1<=fG w/\fG w<=999 then fG w else -1
def rE(w:List Int):Option Int:=if w=[42]then some 0 else if 0<fG w then some (fG w)else none
def eT(v:Int):List Int:=if v=0 then [42]else sN v
theorem YH{n:Nat}(hn:6<=n)(w:List Int):yl n w=some (kN w,()):=by
 unfold yl kN
 by_cases h:w=[42]
 ·simp[h]
 ·simp only[h,dL,bY,bO,value hn,bf,jY.uM]
  by_cases h2:1<=fG w/\fG w<=999<;>simp[h2]
theorem ZU{n:Nat}{w:List Int}(hb:dN w)(hl:w.length<=1048576):∃x,r_ n w=some (x,(rE w).isSome,())/\∀v,rE w=some v->x=v:=by
 unfold r_ rE
 by_cases h:w=[42]
 ·exact⟨0,by simp[h],λv hv=>by simpa[h]using hv⟩
 ·obtain⟨x,h1,h2⟩:=ZV (n:=n) hb hl
  rw[h1]
  simp only[h,dL,bY,bO,bf,bN]
  by_cases h3:0<=fG w
  ·have:=h2 h3
   subst this
   by_cases h4:0<fG w<;>simp[h3,h4]
  ·have h4:¬0<fG w:=by omega
   simp[h3,h4]
theorem BZ{w:List Int}(hb:dN w){v:Int}(h:rE w=some v):0<=v/\v<10000/\(v<=999->kN w=v)/\eT v=w/\∀b∈w,b≠58:=by
 unfold rE at h
 split at h
 ·rename_i hw
  simp only[aa]at h
  subst h hw
  exact⟨by omega,by omega,λ_=>rfl,rfl,by simp⟩
 ·rename_i hw
  split at h
  ·rename_i hv
   simp only[aa]at h
   subst h
   have h0:0<=fG w:=by omega
   refine⟨by omega,aaO h0,λh=>?_,?_,λb hb'=>?_⟩
   ·unfold kN
    rw[aj hw,ak ⟨by omega,h⟩]
   ·unfold eT
    rw[aj (by omega),UC hb h0]
   ·have:=aoI h0 b hb'
    omega
  ·simp at h
theorem MN{w:List Int}(h:0<=kN w):rE w=some (kN w)/\kN w<=999:=by
 unfold kN rE at *
 split at h
 ·rename_i hw;simp[hw]
 ·rename_i hw
  split at h
  ·rename_i hv
   simp only[hw,bO,hv,and_self,bQ]
   rw[ak (by omega)]
   exact⟨rfl,trivial⟩
  ·omega
theorem Ig{v:Int}(h0:0<=v)(h1:v<10000):(∀b∈eT v,b≠44/\0<=b/\b<256)/\(eT v).length<=4:=by
 unfold eT
 split
 ·simp
 ·obtain⟨h2,h3⟩:=UB h0 h1
  exact⟨λb hb=>by have:=h2 b hb;omega,h3⟩
theorem UU{n:Nat}{v:Int}(h0:0<=v)(h1:v<10000):CE n v=some (eT v,()):=by
 unfold CE eT
 by_cases h:v=0
 ·simp[h]
 ·simp[h,UA h0 h1]
def rT(r:ay):List Int:=if r.1=r.2.1 then eT r.1 else eT r.1++([58]++eT r.2.1)
def lG(r:ay):Prop:=(0<=r.1/\r.1<=999)/\0<=r.2.1/\r.2.1<=999
instance (r:ay):Decidable (lG r):=by unfold lG;infer_instance
def pS(w:List Int):Option ay:=
 if(aY 58 w).length>2\/kN ((aY 58 w).getD 0 [])<0\/kN ((aY 58 w).getD ((aY 58 w).length-1) [])<0\/((aY 58 w).length=2/\kN ((aY 58 w).getD 0 [])=kN ((aY 58 w).getD ((aY 58 w).length-1) []))then none
 else some (kN ((aY 58 w).getD 0 []),kN ((aY 58 w).getD ((aY 58 w).length-1) []),())
def pI(w:List Int):Option ay:=
 if(aT.ni w [58]).2.2=false then(rE (aT.ni w [58]).1).map λa=>(a,a,())
 else(rE (aT.ni w [58]).1).bind λa=>(rE (aT.ni w [58]).2.1).map λb=>(a,b,())
theorem LY:(0:Int)<=58/\(58:Int)<256:=by omega
theorem anl{w:List Int}(hb:dN w){r:ay}(h:pS w=some r):pI w=some r/\rT r=w/\lG r:=by
 obtain⟨x,y,d,hc,hd⟩:=ME hb LY
 unfold pS at h
 split at h
 ·simp at h
 ·rename_i hn
  simp only[aa]at h
  simp only[not_or,not_and,Int.not_lt,Nat.not_lt]at hn
  obtain⟨n1,n2,n3,n4⟩:=hn
  unfold pI
  rw[hc]
  rcases hd with⟨rfl,rfl,rfl,hw⟩|⟨rfl,hw,hw2⟩
  ·rw[hw]at h n1 n2 n3 n4
   simp only[List.getD_cons_zero,iT,jA,Ao,jN]at h n2
   obtain⟨e1,e2⟩:=MN n2
   obtain⟨f1,f2,f3,f4,f5⟩:=BZ hb e1
   subst h
   refine⟨by simp[e1],by unfold rT;simpa using f4,⟨⟨f1,e2⟩,f1,e2⟩⟩
  ·have hp:=qI 58 y
   have hxb:dN x:=λb hb'=>hb b (by rw[hw];simp[hb'])
   have hyb:dN y:=λb hb'=>hb b (by rw[hw];simp[hb'])
   rw[hw2]at h n1 n2 n3 n4
   simp only[iT]at n1
   obtain⟨y',hy⟩:∃y',aY 58 y=[y']:=by
    cases hcy:aY 58 y with
    |nil=>rw[hcy]at hp;simp at hp
    |cons y' l=>
     cases l with
     |nil=>exact⟨y',rfl⟩
     |cons a l=>rw[hcy]at n1;simp at n1
   have hyy:y'=y:=by
    have:=MC 58 y
    rw[hy]at this
    simpa using this
   subst hyy
   rw[hy]at h n2 n3 n4
   have g1:List.getD [x,y'] ([x,y'].length-1) []=y':=rfl
   have g0:List.getD [x,y'] 0 []=x:=rfl
   rw[g1,g0]at h n4
   rw[g1]at n3
   rw[g0]at n2
   obtain⟨e1,e2⟩:=MN n2
   obtain⟨f1,f2,f3,f4,f5⟩:=BZ hxb e1
   obtain⟨e3,e4⟩:=MN n3
   obtain⟨k1,k2,k3,k4,k5⟩:=BZ hyb e3
   subst h
   refine⟨by simp[e1,e3],?_,⟨⟨f1,e2⟩,k1,e4⟩⟩
   unfold rT
   rw[aj (n4 rfl),f4,k4,hw]
   rfl
theorem ank{w:List Int}(hb:dN w){r:ay}(h:pI w=some r)(hr:lG r)(ht:rT r=w):pS w=some r:=by
 obtain⟨x,y,d,hc,hd⟩:=ME hb LY
 unfold pI at h
 rw[hc]at h
 unfold pS
 rcases hd with⟨rfl,rfl,rfl,hw⟩|⟨rfl,hw,hw2⟩
 ·simp only[bQ]at h
  cases hx:rE x with
  |none=>rw[hx]at h;simp at h
  |some a=>
   rw[hx]at h
   simp only[gz,aa]at h
   subst h
   obtain⟨f1,f2,f3,f4,f5⟩:=BZ hb hx
   have f3:=f3 hr.1.2
   rw[hw]
   simp only[List.getD_cons_zero,iT,jA,Ao,jN,f3]
   rw[aj (by omega)]
 ·simp only[Bool.true_eq_false,bO]at h
  have hxb:dN x:=λb hb'=>hb b (by rw[hw];simp[hb'])
  have hyb:dN y:=λb hb'=>hb b (by rw[hw];simp[hb'])
  cases hx:rE x with
  |none=>rw[hx]at h;simp at h
  |some a=>
   cases hy:rE y with
   |none=>rw[hx,hy]at h;simp at h
   |some b=>
    rw[hx,hy]at h
    simp only[bf,gz,aa]at h
    subst h
    obtain⟨f1,f2,f3,f4,f5⟩:=BZ hxb hx
    obtain⟨k1,k2,k3,k4,k5⟩:=BZ hyb hy
    have f3:=f3 hr.1.2
    have k3:=k3 hr.2.2
    rw[hw2,MB k5]
    have g1:List.getD [x,y] ([x,y].length-1) []=y:=rfl
    have g0:List.getD [x,y] 0 []=x:=rfl
    rw[g1,g0,f3,k3]
    have hne:a≠b:=by
     rintro rfl
     unfold rT at ht
     rw[ak rfl,f4]at ht
     have:=congrArg List.length (ht.trans hw)
     simp at this
    rw[aj (by simp;exact⟨f1,k1,hne⟩)]
def gY(f:List Int->Option ay):List (List Int)->Option (List ay)
 | []=>some []
 |w :: ws=>(f w).bind λr=>(gY f ws).map λl=>r :: l
theorem Hu{f:List Int->Option ay}:∀{ws:List (List Int)} {l:List ay},gY f ws=some l->l.length=ws.length
 | [],l,h=>by simp only[gY,aa]at h;subst h;rfl
 |w :: ws,l,h=>by
  simp only[gY]at h
  cases hw:f w with
  |none=>rw[hw]at h;simp at h
  |some r=>
   cases hs:gY f ws with
   |none=>rw[hw,hs]at h;simp at h
   |some l'=>
    rw[hw,hs]at h
    simp only[bf,gz,aa]at h
    subst h
    simp[Hu hs]
theorem Hy:∀{ws:List (List Int)} {l:List ay},(∀w∈ws,dN w)->gY pS ws=some l->gY pI ws=some l/\l.map rT=ws/\∀r∈l,lG r
 | [],l,_,h=>by simp only[gY,aa]at h;subst h;simp[gY]
 |w :: ws,l,hb,h=>by
  simp only[gY]at h
  cases hw:pS w with
  |none=>rw[hw]at h;simp at h
  |some r=>
   cases hs:gY pS ws with
   |none=>rw[hw,hs]at h;simp at h
   |some l'=>
    rw[hw,hs]at h
    simp only[bf,gz,aa]at h
    subst h
    obtain⟨a1,a2,a3⟩:=anl (hb w (by simp)) hw
    obtain⟨b1,b2,b3⟩:=Hy (λx hx=>hb x (by simp[hx])) hs
    refine⟨by simp[gY,a1,b1],by simp[a2,b2],λx hx=>?_⟩
    rcases bH.1 hx with rfl|hx
    ·exact a3
    ·exact b3 x hx
theorem TQ:∀{ws:List (List Int)} {l:List ay},(∀w∈ws,dN w)->gY pI ws=some l->(∀r∈l,lG r)->l.map rT=ws->gY pS ws=some l
 | [],l,_,h,_,_=>by simp only[gY,aa]at h;subst h;rfl
 |w :: ws,l,hb,h,hr,ht=>by
  simp only[gY]at h
  cases hw:pI w with
  |none=>rw[hw]at h;simp at h
  |some r=>
   cases hs:gY pI ws with
   |none=>rw[hw,hs]at h;simp at h
   |some l'=>
    rw[hw,hs]at h
    simp only[bf,gz,aa]at h
    subst h
    simp only[jh,gQ]at ht
    have a1:=ank (hb w (by simp)) hw (hr r (by simp)) ht.1
    have b1:=TQ (λx hx=>hb x (by simp[hx])) hs (λx hx=>hr x (by simp[hx])) ht.2
    simp[gY,a1,b1]
def bJ(t:List Int):Option (List ay):=(gY pS (aY 44 t)).bind λl=>if l.length<=8 then some l else none
theorem aor{N:Nat}{ws:List (List Int)}(hw:∀w∈ws,w.length<=1048576)(hl:ws.length<=1048577)(hN:1048578<N){B:(Int×(List ay)×(List (List Int))×Unit->Option ((List ay)×Bool×Unit))->Int×(List ay)×(List (List Int))×Unit->Option ((List ay)×Bool×Unit)}
  (hB:∀L2 (v2:Int×(List ay)×(List (List Int))×Unit),B L2 v2=(if decide (v2.1<(v2.2.2.1.length:Int))=true then(if aX v2.1 v2.2.2.1.length then((yj N (v2.2.2.1.getD v2.1.toNat ([]:List Int)) (58:Int)).bind λr3=>(if aX (0:Int) r3.1.length then((yl N (r3.1.getD (0:Int).toNat ([]:List Int))).bind λr4=>(if aX (IntKind.i64.wrap ((r3.1.length:Int)-(1:Int))) r3.1.length then((yl N (r3.1.getD (IntKind.i64.wrap ((r3.1.length:Int)-(1:Int))).toNat ([]:List Int))).bind λr5=>(if decide ((r3.1.length:Int)>(2:Int))=true then some (([]:List ay),false,())else(if decide (r4.1<(0:Int))=true then some (([]:List ay),false,())else(if decide (r5.1<(0:Int))=true then some (([]:List ay),false,())else(if decide ((r3.1.length:Int)=(2:Int))=true then(if decide (r4.1=r5.1)=true then some (([]:List ay),false,())else(if(v2.2.1.length+[(r4.1,r5.1,())].length)*16<=140737488355328 then L2 (IntKind.i64.wrap (v2.1+(1:Int)),v2.2.1++[(r4.1,r5.1,())],v2.2.2.1,())else none))else(if(v2.2.1.length+[(r4.1,r5.1,())].length)*16<=140737488355328 then L2 (IntKind.i64.wrap (v2.1+(1:Int)),v2.2.1++[(r4.1,r5.1,())],v2.2.2.1,())else none))))))else none))else none))else none)else some (v2.2.1,decide ((v2.2.1.length:Int)<=(8:Int)),()))) :
  ∀(m k i:Nat) (out:List ay),i+m=ws.length->m<k->out.length=i->rounds B k ((i:Int),out,ws,())=some (match gY pS (ws.drop i)with|none=>([],false,())|some l=>(out++l,decide (out.length+l.length<=8),())):=by
 intro m
 induction m with
 |zero=>
  intro k i out hi hk ho
  obtain⟨k,rfl⟩:∃j,k=j+1:=⟨k-1,by omega⟩
  show B (rounds B k) _=_
  rw[hB,aj (by simp only[bN];omega),List.drop_of_length_le (by omega)]
  simp only[gY,jJ,jA,lN]
  congr 3
  exact uE.2 (by omega)
 |succ m ih=>
  intro k i out hi hk ho
  obtain⟨k,rfl⟩:∃j,k=j+1:=⟨k-1,by omega⟩
  have hlt:i<ws.length:=by omega
  show B (rounds B k) _=_
  rw[hB,ak (by simp only[bN];omega),ak (ig hlt),wM hlt]
  simp only[o9 hlt]
  have hwi:=hw _ (nM hlt)
  generalize ws[i]=w at hwi ⊢
  have hp:=qI 58 w
  have hq:=yT 58 w
  have ew:IntKind.i64.wrap (((aY 58 w).length:Int)-1)=(((aY 58 w).length-1:Nat):Int):=by rw[wrap_i64 (by omega) (by omega)];omega
  rw[PG hwi hN]
  simp only[bf]
  rw[ak (by exact ig (i:=0) hp),YH (by omega)]
  simp only[bf,ew]
  rw[ak (ig (by omega)),YH (by omega)]
  simp only[bf,kJ,Int.toNat_zero,bN]
  rw[wrap_i64 (x:=(i:Int)+1) (by omega) (by omega),show(i:Int)+1=((i+1:Nat):Int) by omega,ih k (i+1) _ (by omega) (by omega) (by simp;omega)]
  simp only[gY]
  by_cases c1:(aY 58 w).length>2
  ·rw[ak (by omega),show pS w=none by unfold pS;rw[ak (.inl c1)]]
   rfl
  ·rw[aj (by omega)]
   by_cases c2:kN ((aY 58 w).getD 0 [])<0
   ·rw[ak c2,show pS w=none by unfold pS;rw[ak (.inr (.inl c2))]]
    rfl
   ·rw[aj c2]
    by_cases c3:kN ((aY 58 w).getD ((aY 58 w).length-1) [])<0
    ·rw[ak c3,show pS w=none by unfold pS;rw[ak (.inr (.inr (.inl c3)))]]
     rfl
    ·rw[aj c3]
     have fin:∀r:ay,(if(out.length+[r].length)*16<=140737488355328 then some (match gY pS (ws.drop (i+1))with|none=>([],false,())|some l=>(out++[r]++l,decide ((out++[r]).length+l.length<=8),()))else none)=some (match (some r).bind (λr=>(gY pS (ws.drop (i+1))).map λl=>r :: l)with|none=>([],false,())|some l=>(out++l,decide (out.length+l.length<=8),())):=by
      intro r
      rw[ak (by simp;omega)]
      cases gY pS (ws.drop (i+1))with
      |none=>rfl
      |some l=>
       simp only[bf,gz,fH,List.singleton_append,d_,iT,jA]
       congr 3
       exact uE.2 (by omega)
     by_cases c4:(aY 58 w).length=2
     ·rw[ak (by omega)]
      by_cases c5:kN ((aY 58 w).getD 0 [])=kN ((aY 58 w).getD ((aY 58 w).length-1) [])
      ·rw[ak c5,show pS w=none by unfold pS;rw[ak (.inr (.inr (.inr ⟨c4,c5⟩)))]]
       rfl
      ·rw[aj c5,show pS w=some (kN ((aY 58 w).getD 0 []),kN ((aY 58 w).getD ((aY 58 w).length-1) []),()) by unfold pS;rw[aj λh=>h.elim c1 λh=>h.elim c2 λh=>h.elim c3 λh=>c5 h.2]]
       exact fin _
     ·rw[aj (by omega),show pS w=some (kN ((aY 58 w).getD 0 []),kN ((aY 58 w).getD ((aY 58 w).length-1) []),()) by unfold pS;rw[aj λh=>h.elim c1 λh=>h.elim c2 λh=>h.elim c3 λh=>c4 h.1]]
      exact fin _
theorem Dt{c:Int}{s:List Int}:∀w∈aY c s,w.length<=s.length:=by
 induction s with
 |nil=>intro w hw;simp[aY]at hw;simp[hw]
 |cons x r ih=>
  intro w hw
  unfold aY at hw
  split at hw
  ·rcases bH.1 hw with rfl|hw
   ·simp
   ·have:=ih w hw
    simp;omega
  ·cases hc:aY c r with
   |nil=>have:=qI c r;rw[hc]at this;simp at this
   |cons a l=>
    rw[hc]at hw ih
    simp only[glue,bH]at hw
    rcases hw with rfl|hw
    ·have:=ih a (by simp)
     simp;omega
    ·have:=ih w (by simp[hw])
     simp;omega
theorem al6{n:Nat}{t:List Int}(hl:t.length<=1048576)(hn:1048578<n):∃l ok,uX n t=some (l,ok,())/\((ok=true/\bJ t=some l)\/(ok=false/\bJ t=none)):=by
 have h:=aor (N:=n) (ws:=aY 44 t) (λw hw=>ve (Dt w hw) hl) (ve (yT 44 t) (by omega)) hn (λ_ _=>rfl) (aY 44 t).length n 0 [] (by omega) (by have:=yT 44 t;omega) rfl
 unfold uX bJ
 rw[PG hl hn]
 rw[u6]at h
 cases hx:gY pS (aY 44 t)with
 |none=>
  rw[hx]at h
  exact⟨[],false,h,.inr ⟨rfl,rfl⟩⟩
 |some l=>
  rw[hx]at h
  refine⟨l,decide (l.length<=8),h.trans (by simp),?_⟩
  by_cases h8:l.length<=8
  ·exact .inl ⟨by simpa using h8,by simp[h8]⟩
  ·exact .inr ⟨by simpa using h8,by simp[h8]⟩
def fR(l:List ay):Int:=if 1<=l.length/\l.length<=8 then(if ∀r∈l,lG r then 0 else 3)else 2
theorem ZT{l:List ay}:ny (λi=>if lG (l.getD i (0,0,()))then none else some (some ((3:Int),()))) (some ((0:Int),())) l.length 0=some (if ∀r∈l,lG r then 0 else 3,()):=by
 rcases y7 (p:=λi=>¬lG (l.getD i (0,0,()))) (r:=λ_:Nat=>some ((3:Int),())) (fin:=some ((0:Int),())) (m:=l.length) (i:=0)with⟨j,_,h2,h3,h4⟩|⟨h1,h2⟩
 ·simp only[ite_not]at h4
  rw[h4,aj]
  intro h
  apply h3
  rw[gy,gK (by omega)]
  exact h _ (nM _)
 ·simp only[ite_not]at h2
  rw[h2,ak]
  intro r hr
  obtain⟨i,hi,rfl⟩:=List.getElem_of_mem hr
  have:=h1 i (dY _) (by omega)
  rw[gy,gK hi]at this
  exact Classical.not_not.1 this
theorem Ty{n:Nat}(hn:8<n)(l:List ay):z8 n l=some (fR l,()):=by
 unfold z8 fR
 simp only[KX,bf,within]
 by_cases h:1<=l.length/\l.length<=8
 ·have h':(1:Int)<=(l.length:Int)/\(l.length:Int)<=8:=by omega
  rw[ak h]
  simp only[h',and_self,cB,iM,bY,bO]
  refine(pK (λi=>(l,(l.length:Int),(i:Int),())) (λi=>if lG (l.getD i (0,0,()))then none else some (some ((3:Int),()))) (some ((0:Int),())) (m:=l.length) rfl (by omega) ?_ ?_).trans ZT
  ·intro L i hi _
   have hg:l.getD i (0,0,())=l[i]:=by simp[gy,hi]
   simp only[ou,hi,cB,bQ,ig hi,o9 hi,hg,kY hi (by omega),within,bf]
   unfold lG
   by_cases c1:0<=(l[i]).1/\(l[i]).1<=999<;>by_cases c2:0<=(l[i]).2.1/\(l[i]).2.1<=999<;>simp[c1,c2]
  ·intro L _
   simp
 ·have h':¬((1:Int)<=(l.length:Int)/\(l.length:Int)<=8):=by omega
  rw[aj h]
  simp only[h',dL,mq,bQ]
theorem al5{n:Nat}(hn:8<n)(l:List ay):ym n l=some (fR l,()):=by
 unfold ym fR
 by_cases h:1<=l.length/\l.length<=8
 ·rw[ak h,aj (by rw[bN];omega),aj (by rw[bN];omega)]
  refine(pK (λi=>(l,(i:Int),())) (λi=>if lG (l.getD i (0,0,()))then none else some (some ((3:Int),()))) (some ((0:Int),())) (m:=l.length) rfl (by omega) ?_ ?_).trans ZT
  ·intro L i hi _
   have hg:l.getD i (0,0,())=l[i]:=by simp[gy,hi]
   simp only[ou,hi,cB,bQ,ig hi,o9 hi,hg,kY hi (by omega),jY.uM,bf]
   unfold lG
   by_cases c1:0<=(l[i]).1/\(l[i]).1<=999<;>by_cases c2:0<=(l[i]).2.1/\(l[i]).2.1<=999<;>simp[c1,c2]
  ·intro L _
   simp
 ·rw[aj h]
  by_cases h1:l.length<1
  ·rw[ak (by rw[bN];omega)]
  ·rw[aj (by rw[bN];omega),ak (by rw[bN];omega)]
theorem J3{r:ay}(h:lG r):(∀b∈rT r,b≠44/\0<=b/\b<256)/\(rT r).length<=9:=by
 obtain⟨⟨a1,a2⟩,a3,a4⟩:=h
 obtain⟨b1,b2⟩:=Ig a1 (by omega)
 obtain⟨c1,c2⟩:=Ig a3 (by omega)
 unfold rT
 split
 ·exact⟨b1,by omega⟩
 ·refine⟨λb hb=>?_,by simp;omega⟩
  simp only[cZ,gW]at hb
  rcases hb with hb|rfl|hb
  ·exact b1 b hb
  ·omega
  ·exact c1 b hb
theorem WC{c:Int}{xs:List (List Int)}{k:Nat}(h:∀x∈xs,x.length<=k):([c].intercalate xs).length<=xs.length*(k+1):=by
 induction xs with
 |nil=>simp
 |cons x xs ih=>
  have ih:=ih λy hy=>h y (by simp[hy])
  have:=h x (by simp)
  cases xs with
  |nil=>simp;omega
  |cons y xs=>
   rw[List.intercalate_cons_cons]
   simp only[d_,iT,jA]at ih ⊢
   rw[gX (xs.length+1) 1 (k+1)]
   omega
theorem aan{n:Nat}(hn:8<n){l:List ay}(hl:l.length<=8)(h:∀r∈l,lG r):Ac n l=some ([44].intercalate (l.map rT),()):=by
 unfold Ac
 refine(pK (λi=>(l,(l.length:Int),(i:Int),(l.take i).map rT,())) (λ_=>none) (some ([44].intercalate (l.map rT),())) (m:=l.length) (by simp) (by omega) ?_ ?_).trans (DD (λ_ _ _=>rfl))
 ·intro L i hi _
  have hr:=h _ (nM hi)
  obtain⟨⟨a1,a2⟩,a3,a4⟩:=hr
  obtain⟨b1,b2⟩:=Ig a1 (by omega)
  obtain⟨c1,c2⟩:=Ig a3 (by omega)
  have et:(l.take (i+1)).map rT=(l.take i).map rT++[rT l[i]]:=by rw[GX hi,Aj];rfl
  simp only[ou,hi,cB,bQ,ig hi,o9 hi,kY hi (by omega),UU a1 (show(l[i]).1<10000 by omega),UU a3 (show(l[i]).2.1<10000 by omega),bf,et]
  unfold rT
  by_cases e:(l[i]).1=(l[i]).2.1
  ·simp only[e,cB,iM,bY,bO,bQ]
   rw[ak (by simp;omega)]
  ·simp only[e,dL,mq,bQ,bO]
   rw[ak (by simp;omega),ak (by simp;omega),ak (by simp;omega)]
 ·intro L _
  have hj:=air (xs:=l.map rT) (c:=44) (λx hx b hb=>by
   obtain⟨r,hr,rfl⟩:=eD.1 hx
   have:=(J3 (h r hr)).1 b hb
   omega) (by omega) (by simp;omega) (by
   have:=WC (c:=44) (xs:=l.map rT) (k:=9) λx hx=>by
    obtain⟨r,hr,rfl⟩:=eD.1 hx
    exact(J3 (h r hr)).2
   simp only[oz]at this
   omega)
  simp only[K9,dL,bY,bO,Ll]
  show(pV.zC _ _).bind _=_
  rw[hj]
  rfl
theorem aew{c:Int}:∀{a b:List Int},(∀x∈a,x≠c)->aY c (a++c :: b)=a :: aY c b:=by
 intro a b
 induction a with
 |nil=>intro _;simp[aY]
 |cons x a ih=>
  intro h
  rw[iR,aY,aj (h x (by simp)),ih (λy hy=>h y (by simp[hy]))]
  rfl
theorem Uw{c:Int}:∀{xs:List (List Int)},xs≠[]->(∀x∈xs,∀b∈x,b≠c)->aY c ([c].intercalate xs)=xs
 | [],h,_=>absurd rfl h
 | [x],_,h=>by rw[List.intercalate_singleton,MB (h x (by simp))]
 |x :: y :: xs,_,h=>by
  rw[List.intercalate_cons_cons,fH,List.singleton_append,aew (h x (by simp)),Uw (by simp) λz hz=>h z (by simp[hz])]
theorem WB{N:Nat}{t:List Int}{ws:List (List Int)}(hw:∀w∈ws,dN w/\w.length<=1048576)(hl:ws.length<=9)(hN:8<N){B:((List Int)×(List (List Int))×Int×Int×(List ay)×Unit->Option ((List ay)×Bool×Unit))->(List Int)×(List (List Int))×Int×Int×(List ay)×Unit->Option ((List ay)×Bool×Unit)}
  (hB:∀L2 (v2:(List Int)×(List (List Int))×Int×Int×(List ay)×Unit),B L2 v2=(if decide (v2.2.2.2.1<v2.2.2.1)=true then(if aX v2.2.2.2.1 v2.2.1.length then((GI N (v2.2.1.getD v2.2.2.2.1.toNat ([]:List Int)) [58]).bind λr3=>(if(!r3.2.2.1)=true then((r_ N r3.1).bind λr4=>((r_ N r3.1).bind λr5=>(if(!r4.2.1)=true then some (([]:List ay),false,())else(if(!r5.2.1)=true then some (([]:List ay),false,())else(if(v2.2.2.2.2.1.length+[(r4.1,r5.1,())].length)*16<=140737488355328 then L2 (v2.1,v2.2.1,v2.2.2.1,IntKind.i64.wrap (v2.2.2.2.1+(1:Int)),v2.2.2.2.2.1++[(r4.1,r5.1,())],())else none)))))else((r_ N r3.1).bind λr6=>((r_ N r3.2.1).bind λr7=>(if(!r6.2.1)=true then some (([]:List ay),false,())else(if(!r7.2.1)=true then some (([]:List ay),false,())else(if(v2.2.2.2.2.1.length+[(r6.1,r7.1,())].length)*16<=140737488355328 then L2 (v2.1,v2.2.1,v2.2.2.1,IntKind.i64.wrap (v2.2.2.2.1+(1:Int)),v2.2.2.2.2.1++[(r6.1,r7.1,())],())else none)))))))else none)else((z8 N v2.2.2.2.2.1).bind λr8=>(if decide (r8.1=(0:Int))=true then((Ac N v2.2.2.2.2.1).bind λr9=>some (v2.2.2.2.2.1,decide (r9.1=v2.1),()))else some (v2.2.2.2.2.1,false,()))))) :
  ∀(m k i:Nat) (out:List ay),i+m=ws.length->m<k->out.length=i->rounds B k (t,ws,(ws.length:Int),(i:Int),out,())=some (match gY pI (ws.drop i)with|none=>([],false,())|some l=>(out++l,decide (fR (out++l)=0/\[44].intercalate ((out++l).map rT)=t),())):=by
 intro m
 induction m with
 |zero=>
  intro k i out hi hk ho
  obtain⟨k,rfl⟩:∃j,k=j+1:=⟨k-1,by omega⟩
  show B (rounds B k) _=_
  rw[hB,aj (by simp only[bN];omega),List.drop_of_length_le (by omega),Ty hN]
  simp only[gY,jJ,bf,bN]
  by_cases hf:fR out=0
  ·have hg:(1<=out.length/\out.length<=8)/\∀r∈out,lG r:=by
    unfold fR at hf
    split at hf
    ·rename_i h1
     split at hf
     ·rename_i h2;exact⟨h1,h2⟩
     ·omega
    ·omega
   rw[ak hf,aan hN hg.1.2 hg.2]
   simp[hf]
  ·rw[aj hf]
   simp[hf]
 |succ m ih=>
  intro k i out hi hk ho
  obtain⟨k,rfl⟩:∃j,k=j+1:=⟨k-1,by omega⟩
  have hlt:i<ws.length:=by omega
  show B (rounds B k) _=_
  rw[hB,ak (by simp only[bN];omega),ak (ig hlt),wM hlt]
  simp only[o9 hlt]
  obtain⟨hwb,hwl⟩:=hw _ (nM hlt)
  generalize ws[i]=w at hwb hwl ⊢
  obtain⟨x,y,d,hc,hd⟩:=ME hwb LY
  have e1:GI N w [58]=some (x,y,d,()):=by
   show aT.AR w [58]=_
   unfold aT.AR
   rw[ak hwl,hc]
  have hx:dN x/\x.length<=1048576:=by
   rcases hd with⟨_,rfl,_⟩|⟨_,h,_⟩
   ·exact⟨hwb,hwl⟩
   ·exact⟨λb hb=>hwb b (by rw[h];simp[hb]),by rw[h]at hwl;simp at hwl;omega⟩
  have hy:dN y/\y.length<=1048576:=by
   rcases hd with⟨_,_,rfl,_⟩|⟨_,h,_⟩
   ·exact⟨λb hb=>by simp at hb,by simp⟩
   ·exact⟨λb hb=>hwb b (by rw[h];simp[hb]),by rw[h]at hwl;simp at hwl;omega⟩
  obtain⟨xv,hx1,hx2⟩:=ZU (n:=N) hx.1 hx.2
  obtain⟨yv,hy1,hy2⟩:=ZU (n:=N) hy.1 hy.2
  rw[e1]
  simp only[bf,hx1,hy1]
  rw[wrap_i64 (x:=(i:Int)+1) (by omega) (by omega),show(i:Int)+1=((i+1:Nat):Int) by omega]
  have step:∀r:ay,pI w=some r->(if(out.length+[r].length)*16<=140737488355328 then rounds B k (t,ws,(ws.length:Int),((i+1:Nat):Int),out++[r],())else none)=some (match gY pI (w :: ws.drop (i+1))with|none=>([],false,())|some l=>(out++l,decide (fR (out++l)=0/\[44].intercalate ((out++l).map rT)=t),())):=by
   intro r hr
   rw[ak (by simp;omega),ih k (i+1) _ (by omega) (by omega) (by simp;omega)]
   simp only[gY,hr,bf]
   cases gY pI (ws.drop (i+1))with
   |none=>rfl
   |some l=>simp
  have no:pI w=none->some (([]:List ay),false,())=some (match gY pI (w :: ws.drop (i+1))with|none=>([],false,())|some l=>(out++l,decide (fR (out++l)=0/\[44].intercalate ((out++l).map rT)=t),())):=by
   intro hr
   simp[gY,hr]
  cases d with
  |false=>
   simp only[mq,bQ]
   cases hxe:rE x with
   |none=>
    have hp:pI w=none:=by unfold pI;rw[hc];simp[hxe]
    simp only[Option.isSome_none,mq,bQ]
    exact no hp
   |some a=>
    have hp:pI w=some (a,a,()):=by unfold pI;rw[hc];simp[hxe]
    have:=hx2 a hxe
    subst this
    simp only[Option.isSome_some,iM,bY,bO]
    exact step _ hp
  |true=>
   simp only[iM,bY,bO]
   cases hxe:rE x with
   |none=>
    have hp:pI w=none:=by unfold pI;rw[hc];simp[hxe]
    simp only[Option.isSome_none,mq,bQ]
    exact no hp
   |some a=>
    have:=hx2 a hxe
    subst this
    cases hye:rE y with
    |none=>
     have hp:pI w=none:=by unfold pI;rw[hc];simp[hxe,hye]
     simp only[Option.isSome_some,Option.isSome_none,iM,mq,bY,bO,bQ]
     exact no hp
    |some b=>
     have:=hy2 b hye
     subst this
     have hp:pI w=some (xv,yv,()):=by unfold pI;rw[hc];simp[hxe,hye]
     simp only[Option.isSome_some,iM,bY,bO]
     exact step _ hp
theorem v_{c:Int}{t:List Int}(h:dN t):∀w∈aY c t,dN w:=λw hw b hb=>h b (aex w hw b hb).1
theorem Hw{t:List Int}{l:List ay}(h:bJ t=some l):gY pS (aY 44 t)=some l/\l.length<=8:=by
 unfold bJ at h
 cases hx:gY pS (aY 44 t)with
 |none=>rw[hx]at h;simp at h
 |some l'=>
  rw[hx]at h
  simp only[bf]at h
  split at h
  ·rename_i h8
   simp only[aa]at h
   subst h
   exact⟨rfl,h8⟩
  ·simp at h
theorem aal{t:List Int}{l:List ay}(hb:dN t)(h:bJ t=some l):[44].intercalate (l.map rT)=t/\fR l=0/\l.length<=8/\∀r∈l,lG r:=by
 obtain⟨h1,h2⟩:=Hw h
 obtain⟨_,h4,h5⟩:=Hy (v_ hb) h1
 have h6:=Hu h1
 have h7:=qI 44 t
 refine⟨by rw[h4,MC],?_,h2,h5⟩
 unfold fR
 rw[ak (by omega),ak h5]
theorem U3{l:List ay}(h:fR l=0):(1<=l.length/\l.length<=8)/\∀r∈l,lG r:=by
 unfold fR at h
 split at h
 ·rename_i h1
  split at h
  ·rename_i h2;exact⟨h1,h2⟩
  ·omega
 ·omega
theorem anp{n:Nat}{t:List Int}(hb:dN t)(hl:t.length<=1048576)(hn:9<n):∃l ok,CJ n t=some (l,ok,())/\((ok=true/\bJ t=some l)\/(ok=false/\bJ t=none)):=by
 have hc:(0:Int)<=44/\(44:Int)<256:=by omega
 have e1:Af n t [44] 9=some (aT.iy t [44] 9,()):=QA hl (by omega) (by omega)
 by_cases h8:(aY 44 t).length<=9
 ·have e2:aT.iy t [44] 9=aY 44 t:=Kb hb hc h8
  have h:=WB (N:=n) (t:=t) (ws:=aY 44 t) (λw hw=>⟨v_ hb w hw,ve (Dt w hw) hl⟩) h8 (by omega) (λ_ _=>rfl) (aY 44 t).length n 0 [] (by omega) (by omega) rfl
  unfold CJ
  rw[e1]
  simp only[bf]
  rw[e2]
  rw[u6]at h
  cases hx:gY pI (aY 44 t)with
  |none=>
   rw[hx]at h
   refine⟨[],false,h,.inr ⟨rfl,?_⟩⟩
   cases hs:bJ t with
   |none=>rfl
   |some l=>
    have:=(Hy (v_ hb) (Hw hs).1).1
    rw[hx]at this
    simp at this
  |some l=>
   rw[hx]at h
   refine⟨l,_,h,?_⟩
   simp only[jq,bN,decide_eq_false_iff_not]
   by_cases hg:fR l=0/\[44].intercalate (l.map rT)=t
   ·refine .inl ⟨hg,?_⟩
    obtain⟨g1,g2⟩:=U3 hg.1
    have g3:l.map rT=aY 44 t:=by
     rw[<-hg.2,Uw]
     ·intro e
      have h0:=congrArg List.length e
      rw[oz,jA]at h0
      omega
     ·intro x hx b hb'
      obtain⟨r,hr,rfl⟩:=eD.1 hx
      exact((J3 (g2 r hr)).1 b hb').1
    have:=TQ (v_ hb) hx g2 g3
    unfold bJ
    rw[this]
    simp only[bf]
    rw[ak g1.2]
   ·refine .inr ⟨hg,?_⟩
    cases hs:bJ t with
    |none=>rfl
    |some l'=>
     have h2:=(Hy (v_ hb) (Hw hs).1).1
     rw[hx]at h2
     simp only[aa]at h2
     subst h2
     obtain⟨f1,f2,_⟩:=aal hb hs
     exact absurd ⟨f2,f1⟩ hg
 ·
  have e2:=QC hb hc (by omega) (show 9<(aY 44 t).length by omega)
  have hsp:=FL (N:=9) hb hc
  have hm:∀w∈aT.iy t [44] 9,dN w/\w.length<=1048576:=by
   rw[hsp]
   generalize min 9 (t.length+1)-1=k
   have key:∀(k:Nat) (s:List Int),dN s->∀w∈gT 44 k s,dN w/\w.length<=s.length:=by
    intro k s
    induction s generalizing k with
    |nil=>intro _ w hw;cases k<;>simp[gT]at hw<;>subst hw<;>simp[dN]
    |cons x r ih=>
     intro hs w hw
     have ih:=λk=>ih k (λy hy=>hs y (by simp[hy]))
     cases k with
     |zero=>simp[gT]at hw;subst hw;exact⟨hs,by simp⟩
     |succ k=>
      unfold gT at hw
      split at hw
      ·rcases bH.1 hw with rfl|hw
       ·simp[dN]
       ·have:=ih k w hw
        exact⟨this.1,by simp;omega⟩
      ·have ih:=ih (k+1)
       cases hcn:gT 44 (k+1) r with
       |nil=>have:=Ie 44 (k+1) r;rw[hcn]at this;simp at this
       |cons a l=>
        rw[hcn]at hw ih
        simp only[glue,bH,iR,jq]at hw
        rcases hw with rfl|hw
        ·have:=ih a (by simp)
         refine⟨λb hb'=>?_,by simp;omega⟩
         rcases bH.1 hb' with rfl|hb'
         ·exact hs _ (by simp)
         ·exact this.1 b hb'
        ·have:=ih w (by simp[hw])
         exact⟨this.1,by simp;omega⟩
   intro w hw
   have:=key k t hb w hw
   exact⟨this.1,by omega⟩
  have h:=WB (N:=n) (t:=t) (ws:=aT.iy t [44] 9) hm (by omega) (by omega) (λ_ _=>rfl) (aT.iy t [44] 9).length n 0 [] (by omega) (by omega) rfl
  unfold CJ
  rw[e1]
  simp only[bf]
  rw[u6]at h
  have hs:bJ t=none:=by
   cases hs:bJ t with
   |none=>rfl
   |some l=>
    obtain⟨h1,h2⟩:=Hw hs
    have:=Hu h1
    omega
  cases hx:gY pI (aT.iy t [44] 9)with
  |none=>
   rw[hx]at h
   exact⟨[],false,h,.inr ⟨rfl,hs⟩⟩
  |some l=>
   rw[hx]at h
   have h9:=Hu hx
   refine⟨l,_,h,.inr ⟨?_,hs⟩⟩
   simp only[jq,decide_eq_false_iff_not]
   rintro⟨h3,_⟩
   have:=(U3 h3).1
   omega
end Go.Proofs.YtgppmpedglhhfaaGreatDoor.vB
