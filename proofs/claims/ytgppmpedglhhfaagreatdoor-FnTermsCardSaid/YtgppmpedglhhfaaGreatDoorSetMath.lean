/- Sets of numbers: both readers read the same. -/
import Derived.Test.YtgppmpedglhhfaaGreatDoorLeafMath
set_option linter.unusedVariables false
set_option linter.unusedSimpArgs false
namespace Go.Proofs.YtgppmpedglhhfaaGreatDoor.oW
open Go Ow nL nM aI uo jC sF vB
theorem Wh{n:Nat}{s:List Int}{c:Int}(hl:s.length<=1048576)(hn:1048578<n):zR n s c=some (aX c s,()):=by
 unfold zR
 refine(amR hl (λ_ _=>rfl) s.length n 0 0 [] (by omega) (by omega) (by omega) (by simp)).trans ?_
 simp only[List.take_zero,List.drop_nil,vD,iA]
 rw[aa9 (qM c s)]
def kK(w:List Int):Int:=if w=[42]then 0 else if 1<=fP w/\fP w<=999 then fP w else -1
def rE(w:List Int):Option Int:=if w=[42]then some 0 else if 0<fP w then some (fP w)else none
def eT(v:Int):List Int:=if v=0 then [42]else kD v
theorem agA{n:Nat}(hn:6<=n)(w:List Int):zS n w=some (kK w,()):=by
 unfold zS kK
 by_cases h:w=[42]
 ·simp[h]
 ·simp only[h,dm,bP,bI,value hn,aQ,jC.uK]
  by_cases h2:1<=fP w/\fP w<=999<;>simp[h2]
theorem ahW{n:Nat}{w:List Int}(hb:dD w)(hl:w.length<=1048576):∃x,t_ n w=some (x,(rE w).isSome,())/\∀v,rE w=some v->x=v:=by
 unfold t_ rE
 by_cases h:w=[42]
 ·exact⟨0,by simp[h],λv hv=>by simpa[h]using hv⟩
 ·obtain⟨x,h1,h2⟩:=ahX (n:=n) hb hl
  rw[h1]
  simp only[h,dm,bP,bI,aQ,bF]
  by_cases h3:0<=fP w
  ·have:=h2 h3
   subst this
   by_cases h4:0<fP w<;>simp[h3,h4]
  ·have h4:¬0<fP w:=by omega
   simp[h3,h4]
theorem Fe{w:List Int}(hb:dD w){v:Int}(h:rE w=some v):0<=v/\v<10000/\(v<=999->kK w=v)/\eT v=w/\∀b∈w,b≠58:=by
 unfold rE at h
 split at h
 ·rename_i hw
  simp only[ak]at h
  subst h hw
  exact⟨by omega,by omega,λ_=>rfl,rfl,by simp⟩
 ·rename_i hw
  split at h
  ·rename_i hv
   simp only[ak]at h
   subst h
   have h0:0<=fP w:=by omega
   refine⟨by omega,aiV h0,λh=>?_,?_,λb hb'=>?_⟩
   ·unfold kK
    rw[ah hw,aj ⟨by omega,h⟩]
   ·unfold eT
    rw[ah (by omega),aau hb h0]
   ·have:=ayH h0 b hb'
    omega
  ·simp at h
theorem R_{w:List Int}(h:0<=kK w):rE w=some (kK w)/\kK w<=999:=by
 unfold kK rE at *
 split at h
 ·rename_i hw;simp[hw]
 ·rename_i hw
  split at h
  ·rename_i hv
   simp only[hw,bI,hv,and_self,bL]
   rw[aj (by omega)]
   exact⟨rfl,trivial⟩
  ·omega
theorem LX{v:Int}(h0:0<=v)(h1:v<10000):(∀b∈eT v,b≠44/\0<=b/\b<256)/\(eT v).length<=4:=by
 unfold eT
 split
 ·simp
 ·obtain⟨h2,h3⟩:=w9 h0 h1
  exact⟨λb hb=>by have:=h2 b hb;omega,h3⟩
theorem aaM{n:Nat}{v:Int}(h0:0<=v)(h1:v<10000):FU n v=some (eT v,()):=by
 unfold FU eT
 by_cases h:v=0
 ·simp[h]
 ·simp[h,aat h0 h1]
def rT(r:aB):List Int:=if r.1=r.2.1 then eT r.1 else eT r.1++([58]++eT r.2.1)
def kE(r:aB):Prop:=(0<=r.1/\r.1<=999)/\0<=r.2.1/\r.2.1<=999
instance (r:aB):Decidable (kE r):=by unfold kE;infer_instance
def pS(w:List Int):Option aB:=
 if(aX 58 w).length>2\/kK ((aX 58 w).getD 0 [])<0\/kK ((aX 58 w).getD ((aX 58 w).length-1) [])<0\/((aX 58 w).length=2/\kK ((aX 58 w).getD 0 [])=kK ((aX 58 w).getD ((aX 58 w).length-1) []))then none
 else some (kK ((aX 58 w).getD 0 []),kK ((aX 58 w).getD ((aX 58 w).length-1) []),())
def pI(w:List Int):Option aB:=
 if(aS.nQ w [58]).2.2=false then(rE (aS.nQ w [58]).1).map λa=>(a,a,())
 else(rE (aS.nQ w [58]).1).bind λa=>(rE (aS.nQ w [58]).2.1).map λb=>(a,b,())
theorem Re:(0:Int)<=58/\(58:Int)<256:=by omega
theorem axj{w:List Int}(hb:dD w){r:aB}(h:pS w=some r):pI w=some r/\rT r=w/\kE r:=by
 obtain⟨x,y,d,hc,hd⟩:=RS hb Re
 unfold pS at h
 split at h
 ·simp at h
 ·rename_i hn
  simp only[ak]at h
  simp only[not_or,not_and,Int.not_lt,Nat.not_lt]at hn
  obtain⟨n1,n2,n3,n4⟩:=hn
  unfold pI
  rw[hc]
  rcases hd with⟨rfl,rfl,rfl,hw⟩|⟨rfl,hw,hw2⟩
  ·rw[hw]at h n1 n2 n3 n4
   simp only[List.getD_cons_zero,iy,iF,Ad,jq]at h n2
   obtain⟨e1,e2⟩:=R_ n2
   obtain⟨f1,f2,f3,f4,f5⟩:=Fe hb e1
   subst h
   refine⟨by simp[e1],by unfold rT;simpa using f4,⟨⟨f1,e2⟩,f1,e2⟩⟩
  ·have hp:=qM 58 y
   have hxb:dD x:=λb hb'=>hb b (by rw[hw];simp[hb'])
   have hyb:dD y:=λb hb'=>hb b (by rw[hw];simp[hb'])
   rw[hw2]at h n1 n2 n3 n4
   simp only[iy]at n1
   obtain⟨y',hy⟩:∃y',aX 58 y=[y']:=by
    cases hcy:aX 58 y with
    |nil=>rw[hcy]at hp;simp at hp
    |cons y' l=>
     cases l with
     |nil=>exact⟨y',rfl⟩
     |cons a l=>rw[hcy]at n1;simp at n1
   have hyy:y'=y:=by
    have:=LU 58 y
    rw[hy]at this
    simpa using this
   subst hyy
   rw[hy]at h n2 n3 n4
   have g1:List.getD [x,y'] ([x,y'].length-1) []=y':=rfl
   have g0:List.getD [x,y'] 0 []=x:=rfl
   rw[g1,g0]at h n4
   rw[g1]at n3
   rw[g0]at n2
   obtain⟨e1,e2⟩:=R_ n2
   obtain⟨f1,f2,f3,f4,f5⟩:=Fe hxb e1
   obtain⟨e3,e4⟩:=R_ n3
   obtain⟨k1,k2,k3,k4,k5⟩:=Fe hyb e3
   subst h
   refine⟨by simp[e1,e3],?_,⟨⟨f1,e2⟩,k1,e4⟩⟩
   unfold rT
   rw[ah (n4 rfl),f4,k4,hw]
   rfl
theorem axi{w:List Int}(hb:dD w){r:aB}(h:pI w=some r)(hr:kE r)(ht:rT r=w):pS w=some r:=by
 obtain⟨x,y,d,hc,hd⟩:=RS hb Re
 unfold pI at h
 rw[hc]at h
 unfold pS
 rcases hd with⟨rfl,rfl,rfl,hw⟩|⟨rfl,hw,hw2⟩
 ·simp only[bL]at h
  cases hx:rE x with
  |none=>rw[hx]at h;simp at h
  |some a=>
   rw[hx]at h
   simp only[gq,ak]at h
   subst h
   obtain⟨f1,f2,f3,f4,f5⟩:=Fe hb hx
   have f3:=f3 hr.1.2
   rw[hw]
   simp only[List.getD_cons_zero,iy,iF,Ad,jq,f3]
   rw[ah (by omega)]
 ·simp only[Bool.true_eq_false,bI]at h
  have hxb:dD x:=λb hb'=>hb b (by rw[hw];simp[hb'])
  have hyb:dD y:=λb hb'=>hb b (by rw[hw];simp[hb'])
  cases hx:rE x with
  |none=>rw[hx]at h;simp at h
  |some a=>
   cases hy:rE y with
   |none=>rw[hx,hy]at h;simp at h
   |some b=>
    rw[hx,hy]at h
    simp only[aQ,gq,ak]at h
    subst h
    obtain⟨f1,f2,f3,f4,f5⟩:=Fe hxb hx
    obtain⟨k1,k2,k3,k4,k5⟩:=Fe hyb hy
    have f3:=f3 hr.1.2
    have k3:=k3 hr.2.2
    rw[hw2,Ar k5]
    have g1:List.getD [x,y] ([x,y].length-1) []=y:=rfl
    have g0:List.getD [x,y] 0 []=x:=rfl
    rw[g1,g0,f3,k3]
    have hne:a≠b:=by
     rintro rfl
     unfold rT at ht
     rw[aj rfl,f4]at ht
     have:=congrArg List.length (ht.trans hw)
     simp at this
    rw[ah (by simp;exact⟨f1,k1,hne⟩)]
def gT(f:List Int->Option aB):List (List Int)->Option (List aB)
 | []=>some []
 |w :: ws=>(f w).bind λr=>(gT f ws).map λl=>r :: l
theorem Lv{f:List Int->Option aB}:∀{ws:List (List Int)} {l:List aB},gT f ws=some l->l.length=ws.length
 | [],l,h=>by simp only[gT,ak]at h;subst h;rfl
 |w :: ws,l,h=>by
  simp only[gT]at h
  cases hw:f w with
  |none=>rw[hw]at h;simp at h
  |some r=>
   cases hs:gT f ws with
   |none=>rw[hw,hs]at h;simp at h
   |some l'=>
    rw[hw,hs]at h
    simp only[aQ,gq,ak]at h
    subst h
    simp[Lv hs]
theorem LA:∀{ws:List (List Int)} {l:List aB},(∀w∈ws,dD w)->gT pS ws=some l->gT pI ws=some l/\l.map rT=ws/\∀r∈l,kE r
 | [],l,_,h=>by simp only[gT,ak]at h;subst h;simp[gT]
 |w :: ws,l,hb,h=>by
  simp only[gT]at h
  cases hw:pS w with
  |none=>rw[hw]at h;simp at h
  |some r=>
   cases hs:gT pS ws with
   |none=>rw[hw,hs]at h;simp at h
   |some l'=>
    rw[hw,hs]at h
    simp only[aQ,gq,ak]at h
    subst h
    obtain⟨a1,a2,a3⟩:=axj (hb w (by simp)) hw
    obtain⟨b1,b2,b3⟩:=LA (λx hx=>hb x (by simp[hx])) hs
    refine⟨by simp[gT,a1,b1],by simp[a2,b2],λx hx=>?_⟩
    rcases bM.1 hx with rfl|hx
    ·exact a3
    ·exact b3 x hx
theorem ZL:∀{ws:List (List Int)} {l:List aB},(∀w∈ws,dD w)->gT pI ws=some l->(∀r∈l,kE r)->l.map rT=ws->gT pS ws=some l
 | [],l,_,h,_,_=>by simp only[gT,ak]at h;subst h;rfl
 |w :: ws,l,hb,h,hr,ht=>by
  simp only[gT]at h
  cases hw:pI w with
  |none=>rw[hw]at h;simp at h
  |some r=>
   cases hs:gT pI ws with
   |none=>rw[hw,hs]at h;simp at h
   |some l'=>
    rw[hw,hs]at h
    simp only[aQ,gq,ak]at h
    subst h
    simp only[jo,gW]at ht
    have a1:=axi (hb w (by simp)) hw (hr r (by simp)) ht.1
    have b1:=ZL (λx hx=>hb x (by simp[hx])) hs (λx hx=>hr x (by simp[hx])) ht.2
    simp[gT,a1,b1]
def bO(t:List Int):Option (List aB):=(gT pS (aX 44 t)).bind λl=>if l.length<=8 then some l else none
theorem ayi{N:Nat}{ws:List (List Int)}(hw:∀w∈ws,w.length<=1048576)(hl:ws.length<=1048577)(hN:1048578<N){B:(Int×(List aB)×(List (List Int))×Unit->Option ((List aB)×Bool×Unit))->Int×(List aB)×(List (List Int))×Unit->Option ((List aB)×Bool×Unit)}
  (hB:∀L2 (v2:Int×(List aB)×(List (List Int))×Unit),B L2 v2=(if decide (v2.1<(v2.2.2.1.length:Int))=true then(if aZ v2.1 v2.2.2.1.length then((zR N (v2.2.2.1.getD v2.1.toNat ([]:List Int)) (58:Int)).bind λr3=>(if aZ (0:Int) r3.1.length then((zS N (r3.1.getD (0:Int).toNat ([]:List Int))).bind λr4=>(if aZ (IntKind.i64.wrap ((r3.1.length:Int)-(1:Int))) r3.1.length then((zS N (r3.1.getD (IntKind.i64.wrap ((r3.1.length:Int)-(1:Int))).toNat ([]:List Int))).bind λr5=>(if decide ((r3.1.length:Int)>(2:Int))=true then some (([]:List aB),false,())else(if decide (r4.1<(0:Int))=true then some (([]:List aB),false,())else(if decide (r5.1<(0:Int))=true then some (([]:List aB),false,())else(if decide ((r3.1.length:Int)=(2:Int))=true then(if decide (r4.1=r5.1)=true then some (([]:List aB),false,())else(if(v2.2.1.length+[(r4.1,r5.1,())].length)*16<=140737488355328 then L2 (IntKind.i64.wrap (v2.1+(1:Int)),v2.2.1++[(r4.1,r5.1,())],v2.2.2.1,())else none))else(if(v2.2.1.length+[(r4.1,r5.1,())].length)*16<=140737488355328 then L2 (IntKind.i64.wrap (v2.1+(1:Int)),v2.2.1++[(r4.1,r5.1,())],v2.2.2.1,())else none))))))else none))else none))else none)else some (v2.2.1,decide ((v2.2.1.length:Int)<=(8:Int)),()))) :
  ∀(m k i:Nat) (out:List aB),i+m=ws.length->m<k->out.length=i->rounds B k ((i:Int),out,ws,())=some (match gT pS (ws.drop i)with|none=>([],false,())|some l=>(out++l,decide (out.length+l.length<=8),())):=by
 intro m
 induction m with
 |zero=>
  intro k i out hi hk ho
  obtain⟨k,rfl⟩:∃j,k=j+1:=⟨k-1,by omega⟩
  show B (rounds B k) _=_
  rw[hB,ah (by simp only[bF];omega),List.drop_of_length_le (by omega)]
  simp only[gT,jf,iF,mD]
  congr 3
  exact uA.2 (by omega)
 |succ m ih=>
  intro k i out hi hk ho
  obtain⟨k,rfl⟩:∃j,k=j+1:=⟨k-1,by omega⟩
  have hlt:i<ws.length:=by omega
  show B (rounds B k) _=_
  rw[hB,aj (by simp only[bF];omega),aj (fu hlt),x_ hlt]
  simp only[uB hlt]
  have hwi:=hw _ (om hlt)
  generalize ws[i]=w at hwi ⊢
  have hp:=qM 58 w
  have hq:=Au 58 w
  have ew:IntKind.i64.wrap (((aX 58 w).length:Int)-1)=(((aX 58 w).length-1:Nat):Int):=by rw[wrap_i64 (by omega) (by omega)];omega
  rw[Wh hwi hN]
  simp only[aQ]
  rw[aj (by exact fu (i:=0) hp),agA (by omega)]
  simp only[aQ,ew]
  rw[aj (fu (by omega)),agA (by omega)]
  simp only[aQ,iw,Int.toNat_zero,bF]
  rw[wrap_i64 (x:=(i:Int)+1) (by omega) (by omega),show(i:Int)+1=((i+1:Nat):Int) by omega,ih k (i+1) _ (by omega) (by omega) (by simp;omega)]
  simp only[gT]
  by_cases c1:(aX 58 w).length>2
  ·rw[aj (by omega),show pS w=none by unfold pS;rw[aj (.inl c1)]]
   rfl
  ·rw[ah (by omega)]
   by_cases c2:kK ((aX 58 w).getD 0 [])<0
   ·rw[aj c2,show pS w=none by unfold pS;rw[aj (.inr (.inl c2))]]
    rfl
   ·rw[ah c2]
    by_cases c3:kK ((aX 58 w).getD ((aX 58 w).length-1) [])<0
    ·rw[aj c3,show pS w=none by unfold pS;rw[aj (.inr (.inr (.inl c3)))]]
     rfl
    ·rw[ah c3]
     have fin:∀r:aB,(if(out.length+[r].length)*16<=140737488355328 then some (match gT pS (ws.drop (i+1))with|none=>([],false,())|some l=>(out++[r]++l,decide ((out++[r]).length+l.length<=8),()))else none)=some (match (some r).bind (λr=>(gT pS (ws.drop (i+1))).map λl=>r :: l)with|none=>([],false,())|some l=>(out++l,decide (out.length+l.length<=8),())):=by
      intro r
      rw[aj (by simp;omega)]
      cases gT pS (ws.drop (i+1))with
      |none=>rfl
      |some l=>
       simp only[aQ,gq,eG,List.singleton_append,dI,iy,iF]
       congr 3
       exact uA.2 (by omega)
     by_cases c4:(aX 58 w).length=2
     ·rw[aj (by omega)]
      by_cases c5:kK ((aX 58 w).getD 0 [])=kK ((aX 58 w).getD ((aX 58 w).length-1) [])
      ·rw[aj c5,show pS w=none by unfold pS;rw[aj (.inr (.inr (.inr ⟨c4,c5⟩)))]]
       rfl
      ·rw[ah c5,show pS w=some (kK ((aX 58 w).getD 0 []),kK ((aX 58 w).getD ((aX 58 w).length-1) []),()) by unfold pS;rw[ah λh=>h.elim c1 λh=>h.elim c2 λh=>h.elim c3 λh=>c5 h.2]]
       exact fin _
     ·rw[ah (by omega),show pS w=some (kK ((aX 58 w).getD 0 []),kK ((aX 58 w).getD ((aX 58 w).length-1) []),()) by unfold pS;rw[ah λh=>h.elim c1 λh=>h.elim c2 λh=>h.elim c3 λh=>c4 h.1]]
      exact fin _
theorem GM{c:Int}{s:List Int}:∀w∈aX c s,w.length<=s.length:=by
 induction s with
 |nil=>intro w hw;simp[aX]at hw;simp[hw]
 |cons x r ih=>
  intro w hw
  unfold aX at hw
  split at hw
  ·rcases bM.1 hw with rfl|hw
   ·simp
   ·have:=ih w hw
    simp;omega
  ·cases hc:aX c r with
   |nil=>have:=qM c r;rw[hc]at this;simp at this
   |cons a l=>
    rw[hc]at hw ih
    simp only[glue,bM]at hw
    rcases hw with rfl|hw
    ·have:=ih a (by simp)
     simp;omega
    ·have:=ih w (by simp[hw])
     simp;omega
theorem av4{n:Nat}{t:List Int}(hl:t.length<=1048576)(hn:1048578<n):∃l ok,wM n t=some (l,ok,())/\((ok=true/\bO t=some l)\/(ok=false/\bO t=none)):=by
 have h:=ayi (N:=n) (ws:=aX 44 t) (λw hw=>vG (GM w hw) hl) (vG (Au 44 t) (by omega)) hn (λ_ _=>rfl) (aX 44 t).length n 0 [] (by omega) (by have:=Au 44 t;omega) rfl
 unfold wM bO
 rw[Wh hl hn]
 rw[vD]at h
 cases hx:gT pS (aX 44 t)with
 |none=>
  rw[hx]at h
  exact⟨[],false,h,.inr ⟨rfl,rfl⟩⟩
 |some l=>
  rw[hx]at h
  refine⟨l,decide (l.length<=8),h.trans (by simp),?_⟩
  by_cases h8:l.length<=8
  ·exact .inl ⟨by simpa using h8,by simp[h8]⟩
  ·exact .inr ⟨by simpa using h8,by simp[h8]⟩
def fR(l:List aB):Int:=if 1<=l.length/\l.length<=8 then(if ∀r∈l,kE r then 0 else 3)else 2
theorem ahV{l:List aB}:nT (λi=>if kE (l.getD i (0,0,()))then none else some (some ((3:Int),()))) (some ((0:Int),())) l.length 0=some (if ∀r∈l,kE r then 0 else 3,()):=by
 rcases AL (p:=λi=>¬kE (l.getD i (0,0,()))) (r:=λ_:Nat=>some ((3:Int),())) (fin:=some ((0:Int),())) (m:=l.length) (i:=0)with⟨j,_,h2,h3,h4⟩|⟨h1,h2⟩
 ·simp only[ite_not]at h4
  rw[h4,ah]
  intro h
  apply h3
  rw[eP,fG (by omega)]
  exact h _ (om _)
 ·simp only[ite_not]at h2
  rw[h2,aj]
  intro r hr
  obtain⟨i,hi,rfl⟩:=List.getElem_of_mem hr
  have:=h1 i (dW _) (by omega)
  rw[eP,fG hi]at this
  exact Classical.not_not.1 this
theorem QL{n:Nat}(hn:8<n)(l:List aB):Cq n l=some (fR l,()):=by
 unfold Cq fR
 simp only[Qk,aQ,within]
 by_cases h:1<=l.length/\l.length<=8
 ·have h':(1:Int)<=(l.length:Int)/\(l.length:Int)<=8:=by omega
  rw[aj h]
  simp only[h',and_self,bY,gI,bP,bI]
  refine(qp (λi=>(l,(l.length:Int),(i:Int),())) (λi=>if kE (l.getD i (0,0,()))then none else some (some ((3:Int),()))) (some ((0:Int),())) (m:=l.length) rfl (by omega) ?_ ?_).trans ahV
  ·intro L i hi _
   have hg:l.getD i (0,0,())=l[i]:=by simp[eP,hi]
   simp only[qC,hi,bY,bL,fu hi,uB hi,hg,mR hi (by omega),within,aQ]
   unfold kE
   by_cases c1:0<=(l[i]).1/\(l[i]).1<=999<;>by_cases c2:0<=(l[i]).2.1/\(l[i]).2.1<=999<;>simp[c1,c2]
  ·intro L _
   simp
 ·have h':¬((1:Int)<=(l.length:Int)/\(l.length:Int)<=8):=by omega
  rw[ah h]
  simp only[h',dm,kr,bL]
theorem av3{n:Nat}(hn:8<n)(l:List aB):zT n l=some (fR l,()):=by
 unfold zT fR
 by_cases h:1<=l.length/\l.length<=8
 ·rw[aj h,ah (by rw[bF];omega),ah (by rw[bF];omega)]
  refine(qp (λi=>(l,(i:Int),())) (λi=>if kE (l.getD i (0,0,()))then none else some (some ((3:Int),()))) (some ((0:Int),())) (m:=l.length) rfl (by omega) ?_ ?_).trans ahV
  ·intro L i hi _
   have hg:l.getD i (0,0,())=l[i]:=by simp[eP,hi]
   simp only[qC,hi,bY,bL,fu hi,uB hi,hg,mR hi (by omega),jC.uK,aQ]
   unfold kE
   by_cases c1:0<=(l[i]).1/\(l[i]).1<=999<;>by_cases c2:0<=(l[i]).2.1/\(l[i]).2.1<=999<;>simp[c1,c2]
  ·intro L _
   simp
 ·rw[ah h]
  by_cases h1:l.length<1
  ·rw[aj (by rw[bF];omega)]
  ·rw[ah (by rw[bF];omega),aj (by rw[bF];omega)]
theorem Fg{r:aB}(h:kE r):(∀b∈rT r,b≠44/\0<=b/\b<256)/\(rT r).length<=9:=by
 obtain⟨⟨a1,a2⟩,a3,a4⟩:=h
 obtain⟨b1,b2⟩:=LX a1 (by omega)
 obtain⟨c1,c2⟩:=LX a3 (by omega)
 unfold rT
 split
 ·exact⟨b1,by omega⟩
 ·refine⟨λb hb=>?_,by simp;omega⟩
  simp only[dh,gY]at hb
  rcases hb with hb|rfl|hb
  ·exact b1 b hb
  ·omega
  ·exact c1 b hb
theorem acs{c:Int}{xs:List (List Int)}{k:Nat}(h:∀x∈xs,x.length<=k):([c].intercalate xs).length<=xs.length*(k+1):=by
 induction xs with
 |nil=>simp
 |cons x xs ih=>
  have ih:=ih λy hy=>h y (by simp[hy])
  have:=h x (by simp)
  cases xs with
  |nil=>simp;omega
  |cons y xs=>
   rw[List.intercalate_cons_cons]
   simp only[dI,iy,iF]at ih ⊢
   rw[iB (xs.length+1) 1 (k+1)]
   omega
theorem aio{n:Nat}(hn:8<n){l:List aB}(hl:l.length<=8)(h:∀r∈l,kE r):Cv n l=some ([44].intercalate (l.map rT),()):=by
 unfold Cv
 refine(qp (λi=>(l,(l.length:Int),(i:Int),(l.take i).map rT,())) (λ_=>none) (some ([44].intercalate (l.map rT),())) (m:=l.length) (by simp) (by omega) ?_ ?_).trans (G6 (λ_ _ _=>rfl))
 ·intro L i hi _
  have hr:=h _ (om hi)
  obtain⟨⟨a1,a2⟩,a3,a4⟩:=hr
  obtain⟨b1,b2⟩:=LX a1 (by omega)
  obtain⟨c1,c2⟩:=LX a3 (by omega)
  have et:(l.take (i+1)).map rT=(l.take i).map rT++[rT l[i]]:=by rw[Gp hi,Aa];rfl
  simp only[qC,hi,bY,bL,fu hi,uB hi,mR hi (by omega),aaM a1 (show(l[i]).1<10000 by omega),aaM a3 (show(l[i]).2.1<10000 by omega),aQ,et]
  unfold rT
  by_cases e:(l[i]).1=(l[i]).2.1
  ·simp only[e,bY,gI,bP,bI,bL]
   rw[aj (by simp;omega)]
  ·simp only[e,dm,kr,bL,bI]
   rw[aj (by simp;omega),aj (by simp;omega),aj (by simp;omega)]
 ·intro L _
  have hj:=aqK (xs:=l.map rT) (c:=44) (λx hx b hb=>by
   obtain⟨r,hr,rfl⟩:=d_.1 hx
   have:=(Fg (h r hr)).1 b hb
   omega) (by omega) (by simp;omega) (by
   have:=acs (c:=44) (xs:=l.map rT) (k:=9) λx hx=>by
    obtain⟨r,hr,rfl⟩:=d_.1 hx
    exact(Fg (h r hr)).2
   simp only[oq]at this
   omega)
  simp only[z8,dm,bP,bI,QG]
  show(qD.Bg _ _).bind _=_
  rw[hj]
  rfl
theorem GL{c:Int}:∀{a b:List Int},(∀x∈a,x≠c)->aX c (a++c :: b)=a :: aX c b:=by
 intro a b
 induction a with
 |nil=>intro _;simp[aX]
 |cons x a ih=>
  intro h
  rw[gX,aX,ah (h x (by simp)),ih (λy hy=>h y (by simp[hy]))]
  rfl
theorem RQ{c:Int}:∀{xs:List (List Int)},xs≠[]->(∀x∈xs,∀b∈x,b≠c)->aX c ([c].intercalate xs)=xs
 | [],h,_=>absurd rfl h
 | [x],_,h=>by rw[List.intercalate_singleton,Ar (h x (by simp))]
 |x :: y :: xs,_,h=>by
  rw[List.intercalate_cons_cons,eG,List.singleton_append,GL (h x (by simp)),RQ (by simp) λz hz=>h z (by simp[hz])]
theorem acp{N:Nat}{t:List Int}{ws:List (List Int)}(hw:∀w∈ws,dD w/\w.length<=1048576)(hl:ws.length<=9)(hN:8<N){B:((List Int)×(List (List Int))×Int×Int×(List aB)×Unit->Option ((List aB)×Bool×Unit))->(List Int)×(List (List Int))×Int×Int×(List aB)×Unit->Option ((List aB)×Bool×Unit)}
  (hB:∀L2 (v2:(List Int)×(List (List Int))×Int×Int×(List aB)×Unit),B L2 v2=(if decide (v2.2.2.2.1<v2.2.2.1)=true then(if aZ v2.2.2.2.1 v2.2.1.length then((KX N (v2.2.1.getD v2.2.2.2.1.toNat ([]:List Int)) [58]).bind λr3=>(if(!r3.2.2.1)=true then((t_ N r3.1).bind λr4=>((t_ N r3.1).bind λr5=>(if(!r4.2.1)=true then some (([]:List aB),false,())else(if(!r5.2.1)=true then some (([]:List aB),false,())else(if(v2.2.2.2.2.1.length+[(r4.1,r5.1,())].length)*16<=140737488355328 then L2 (v2.1,v2.2.1,v2.2.2.1,IntKind.i64.wrap (v2.2.2.2.1+(1:Int)),v2.2.2.2.2.1++[(r4.1,r5.1,())],())else none)))))else((t_ N r3.1).bind λr6=>((t_ N r3.2.1).bind λr7=>(if(!r6.2.1)=true then some (([]:List aB),false,())else(if(!r7.2.1)=true then some (([]:List aB),false,())else(if(v2.2.2.2.2.1.length+[(r6.1,r7.1,())].length)*16<=140737488355328 then L2 (v2.1,v2.2.1,v2.2.2.1,IntKind.i64.wrap (v2.2.2.2.1+(1:Int)),v2.2.2.2.2.1++[(r6.1,r7.1,())],())else none)))))))else none)else((Cq N v2.2.2.2.2.1).bind λr8=>(if decide (r8.1=(0:Int))=true then((Cv N v2.2.2.2.2.1).bind λr9=>some (v2.2.2.2.2.1,decide (r9.1=v2.1),()))else some (v2.2.2.2.2.1,false,()))))) :
  ∀(m k i:Nat) (out:List aB),i+m=ws.length->m<k->out.length=i->rounds B k (t,ws,(ws.length:Int),(i:Int),out,())=some (match gT pI (ws.drop i)with|none=>([],false,())|some l=>(out++l,decide (fR (out++l)=0/\[44].intercalate ((out++l).map rT)=t),())):=by
 intro m
 induction m with
 |zero=>
  intro k i out hi hk ho
  obtain⟨k,rfl⟩:∃j,k=j+1:=⟨k-1,by omega⟩
  show B (rounds B k) _=_
  rw[hB,ah (by simp only[bF];omega),List.drop_of_length_le (by omega),QL hN]
  simp only[gT,jf,aQ,bF]
  by_cases hf:fR out=0
  ·have hg:(1<=out.length/\out.length<=8)/\∀r∈out,kE r:=by
    unfold fR at hf
    split at hf
    ·rename_i h1
     split at hf
     ·rename_i h2;exact⟨h1,h2⟩
     ·omega
    ·omega
   rw[aj hf,aio hN hg.1.2 hg.2]
   simp[hf]
  ·rw[ah hf]
   simp[hf]
 |succ m ih=>
  intro k i out hi hk ho
  obtain⟨k,rfl⟩:∃j,k=j+1:=⟨k-1,by omega⟩
  have hlt:i<ws.length:=by omega
  show B (rounds B k) _=_
  rw[hB,aj (by simp only[bF];omega),aj (fu hlt),x_ hlt]
  simp only[uB hlt]
  obtain⟨hwb,hwl⟩:=hw _ (om hlt)
  generalize ws[i]=w at hwb hwl ⊢
  obtain⟨x,y,d,hc,hd⟩:=RS hwb Re
  have e1:KX N w [58]=some (x,y,d,()):=by
   show aS.De w [58]=_
   unfold aS.De
   rw[aj hwl,hc]
  have hx:dD x/\x.length<=1048576:=by
   rcases hd with⟨_,rfl,_⟩|⟨_,h,_⟩
   ·exact⟨hwb,hwl⟩
   ·exact⟨λb hb=>hwb b (by rw[h];simp[hb]),by rw[h]at hwl;simp at hwl;omega⟩
  have hy:dD y/\y.length<=1048576:=by
   rcases hd with⟨_,_,rfl,_⟩|⟨_,h,_⟩
   ·exact⟨λb hb=>by simp at hb,by simp⟩
   ·exact⟨λb hb=>hwb b (by rw[h];simp[hb]),by rw[h]at hwl;simp at hwl;omega⟩
  obtain⟨xv,hx1,hx2⟩:=ahW (n:=N) hx.1 hx.2
  obtain⟨yv,hy1,hy2⟩:=ahW (n:=N) hy.1 hy.2
  rw[e1]
  simp only[aQ,hx1,hy1]
  rw[wrap_i64 (x:=(i:Int)+1) (by omega) (by omega),show(i:Int)+1=((i+1:Nat):Int) by omega]
  have step:∀r:aB,pI w=some r->(if(out.length+[r].length)*16<=140737488355328 then rounds B k (t,ws,(ws.length:Int),((i+1:Nat):Int),out++[r],())else none)=some (match gT pI (w :: ws.drop (i+1))with|none=>([],false,())|some l=>(out++l,decide (fR (out++l)=0/\[44].intercalate ((out++l).map rT)=t),())):=by
   intro r hr
   rw[aj (by simp;omega),ih k (i+1) _ (by omega) (by omega) (by simp;omega)]
   simp only[gT,hr,aQ]
   cases gT pI (ws.drop (i+1))with
   |none=>rfl
   |some l=>simp
  have no:pI w=none->some (([]:List aB),false,())=some (match gT pI (w :: ws.drop (i+1))with|none=>([],false,())|some l=>(out++l,decide (fR (out++l)=0/\[44].intercalate ((out++l).map rT)=t),())):=by
   intro hr
   simp[gT,hr]
  cases d with
  |false=>
   simp only[kr,bL]
   cases hxe:rE x with
   |none=>
    have hp:pI w=none:=by unfold pI;rw[hc];simp[hxe]
    simp only[Option.isSome_none,kr,bL]
    exact no hp
   |some a=>
    have hp:pI w=some (a,a,()):=by unfold pI;rw[hc];simp[hxe]
    have:=hx2 a hxe
    subst this
    simp only[Option.isSome_some,gI,bP,bI]
    exact step _ hp
  |true=>
   simp only[gI,bP,bI]
   cases hxe:rE x with
   |none=>
    have hp:pI w=none:=by unfold pI;rw[hc];simp[hxe]
    simp only[Option.isSome_none,kr,bL]
    exact no hp
   |some a=>
    have:=hx2 a hxe
    subst this
    cases hye:rE y with
    |none=>
     have hp:pI w=none:=by unfold pI;rw[hc];simp[hxe,hye]
     simp only[Option.isSome_some,Option.isSome_none,gI,kr,bP,bI,bL]
     exact no hp
    |some b=>
     have:=hy2 b hye
     subst this
     have hp:pI w=some (xv,yv,()):=by unfold pI;rw[hc];simp[hxe,hye]
     simp only[Option.isSome_some,gI,bP,bI]
     exact step _ hp
theorem wz{c:Int}{t:List Int}(h:dD t):∀w∈aX c t,dD w:=λw hw b hb=>h b (amL w hw b hb).1
theorem Lx{t:List Int}{l:List aB}(h:bO t=some l):gT pS (aX 44 t)=some l/\l.length<=8:=by
 unfold bO at h
 cases hx:gT pS (aX 44 t)with
 |none=>rw[hx]at h;simp at h
 |some l'=>
  rw[hx]at h
  simp only[aQ]at h
  split at h
  ·rename_i h8
   simp only[ak]at h
   subst h
   exact⟨rfl,h8⟩
  ·simp at h
theorem aim{t:List Int}{l:List aB}(hb:dD t)(h:bO t=some l):[44].intercalate (l.map rT)=t/\fR l=0/\l.length<=8/\∀r∈l,kE r:=by
 obtain⟨h1,h2⟩:=Lx h
 obtain⟨_,h4,h5⟩:=LA (wz hb) h1
 have h6:=Lv h1
 have h7:=qM 44 t
 refine⟨by rw[h4,LU],?_,h2,h5⟩
 unfold fR
 rw[aj (by omega),aj h5]
theorem yK{l:List aB}(h:fR l=0):(1<=l.length/\l.length<=8)/\∀r∈l,kE r:=by
 unfold fR at h
 split at h
 ·rename_i h1
  split at h
  ·rename_i h2;exact⟨h1,h2⟩
  ·omega
 ·omega
theorem axo{n:Nat}{t:List Int}(hb:dD t)(hl:t.length<=1048576)(hn:9<n):∃l ok,FX n t=some (l,ok,())/\((ok=true/\bO t=some l)\/(ok=false/\bO t=none)):=by
 have hc:(0:Int)<=44/\(44:Int)<256:=by omega
 have e1:CB n t [44] 9=some (aS.iK t [44] 9,()):=Xi hl (by omega) (by omega)
 by_cases h8:(aX 44 t).length<=9
 ·have e2:aS.iK t [44] 9=aX 44 t:=Ph hb hc h8
  have h:=acp (N:=n) (t:=t) (ws:=aX 44 t) (λw hw=>⟨wz hb w hw,vG (GM w hw) hl⟩) h8 (by omega) (λ_ _=>rfl) (aX 44 t).length n 0 [] (by omega) (by omega) rfl
  unfold FX
  rw[e1]
  simp only[aQ]
  rw[e2]
  rw[vD]at h
  cases hx:gT pI (aX 44 t)with
  |none=>
   rw[hx]at h
   refine⟨[],false,h,.inr ⟨rfl,?_⟩⟩
   cases hs:bO t with
   |none=>rfl
   |some l=>
    have:=(LA (wz hb) (Lx hs).1).1
    rw[hx]at this
    simp at this
  |some l=>
   rw[hx]at h
   refine⟨l,_,h,?_⟩
   simp only[iA,bF,decide_eq_false_iff_not]
   by_cases hg:fR l=0/\[44].intercalate (l.map rT)=t
   ·refine .inl ⟨hg,?_⟩
    obtain⟨g1,g2⟩:=yK hg.1
    have g3:l.map rT=aX 44 t:=by
     rw[<-hg.2,RQ]
     ·intro e
      have h0:=congrArg List.length e
      rw[oq,iF]at h0
      omega
     ·intro x hx b hb'
      obtain⟨r,hr,rfl⟩:=d_.1 hx
      exact((Fg (g2 r hr)).1 b hb').1
    have:=ZL (wz hb) hx g2 g3
    unfold bO
    rw[this]
    simp only[aQ]
    rw[aj g1.2]
   ·refine .inr ⟨hg,?_⟩
    cases hs:bO t with
    |none=>rfl
    |some l'=>
     have h2:=(LA (wz hb) (Lx hs).1).1
     rw[hx]at h2
     simp only[ak]at h2
     subst h2
     obtain⟨f1,f2,_⟩:=aim hb hs
     exact absurd ⟨f2,f1⟩ hg
 ·
  have e2:=Xk hb hc (by omega) (show 9<(aX 44 t).length by omega)
  have hsp:=Kc (N:=9) hb hc
  have hm:∀w∈aS.iK t [44] 9,dD w/\w.length<=1048576:=by
   rw[hsp]
   generalize min 9 (t.length+1)-1=k
   have key:∀(k:Nat) (s:List Int),dD s->∀w∈gZ 44 k s,dD w/\w.length<=s.length:=by
    intro k s
    induction s generalizing k with
    |nil=>intro _ w hw;cases k<;>simp[gZ]at hw<;>subst hw<;>simp[dD]
    |cons x r ih=>
     intro hs w hw
     have ih:=λk=>ih k (λy hy=>hs y (by simp[hy]))
     cases k with
     |zero=>simp[gZ]at hw;subst hw;exact⟨hs,by simp⟩
     |succ k=>
      unfold gZ at hw
      split at hw
      ·rcases bM.1 hw with rfl|hw
       ·simp[dD]
       ·have:=ih k w hw
        exact⟨this.1,by simp;omega⟩
      ·have ih:=ih (k+1)
       cases hcn:gZ 44 (k+1) r with
       |nil=>have:=LV 44 (k+1) r;rw[hcn]at this;simp at this
       |cons a l=>
        rw[hcn]at hw ih
        simp only[glue,bM,gX,iA]at hw
        rcases hw with rfl|hw
        ·have:=ih a (by simp)
         refine⟨λb hb'=>?_,by simp;omega⟩
         rcases bM.1 hb' with rfl|hb'
         ·exact hs _ (by simp)
         ·exact this.1 b hb'
        ·have:=ih w (by simp[hw])
         exact⟨this.1,by simp;omega⟩
   intro w hw
   have:=key k t hb w hw
   exact⟨this.1,by omega⟩
  have h:=acp (N:=n) (t:=t) (ws:=aS.iK t [44] 9) hm (by omega) (by omega) (λ_ _=>rfl) (aS.iK t [44] 9).length n 0 [] (by omega) (by omega) rfl
  unfold FX
  rw[e1]
  simp only[aQ]
  rw[vD]at h
  have hs:bO t=none:=by
   cases hs:bO t with
   |none=>rfl
   |some l=>
    obtain⟨h1,h2⟩:=Lx hs
    have:=Lv h1
    omega
  cases hx:gT pI (aS.iK t [44] 9)with
  |none=>
   rw[hx]at h
   exact⟨[],false,h,.inr ⟨rfl,hs⟩⟩
  |some l=>
   rw[hx]at h
   have h9:=Lv hx
   refine⟨l,_,h,.inr ⟨?_,hs⟩⟩
   simp only[iA,decide_eq_false_iff_not]
   rintro⟨h3,_⟩
   have:=(yK h3).1
   omega
end Go.Proofs.YtgppmpedglhhfaaGreatDoor.oW
