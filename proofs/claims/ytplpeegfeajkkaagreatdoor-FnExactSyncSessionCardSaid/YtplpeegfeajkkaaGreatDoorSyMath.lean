/- 'FnExactSyncSession': what it comes to. -/
import Derived.Test.YtplpeegfeajkkaaGreatDoorSyTellMath
namespace Go.Proofs.YtplpeegfeajkkaaGreatDoor.YR
open Go Ow nE nQ oI nS xV tK w9 MV D_ IC YY YX YS
theorem amN{n:Nat}{w:gM}(h:uP w)(hn:big<n)(e:wR n w=some (0,())):(w.1.1=true->GS w.1.2.2.2.1)/\w.2.1.length<=3/\∀i,i<w.2.1.length->yZ (w.2.1.getD i dS)=0:=by
 obtain⟨c,_,g2,g3⟩:=aeM h.v hn
 have hc:c=0:=by
  unfold wR at e
  rw[g2]at e
  simp only[aG]at e
  by_cases d0:c=0
  ·exact d0
  ·simp[d0]at e
 by_cases hl:1<=w.2.1.length/\w.2.1.length<=3
 ·refine⟨λhu=>Sq.1 ((g3 hc).2 hu).1,hl.2,λi hi=>?_⟩
  rw[aeg h hn g2 hc hl]at e
  have:=Si (λj r hj=>by
   unfold xJ at hj
   split at hj
   ·rename_i q
    rw[<-jc hj]
    intro e2
    have e3:yZ (w.2.1.getD j dS)=0:=by simpa using e2
    rw[e3]at q
    simp at q
   ·simp at hj) e i (by omega) (by omega)
  unfold xJ at this
  split at this
  ·simp at this
  ·rename_i q
   simpa using q
 ·exfalso
  unfold wR at e
  rw[g2]at e
  simp only[aG,hc,bG,fK,bg,aZ]at e
  by_cases h1:(w.2.1.length:Int)<1
  ·rw[aj (by rw[dW];exact h1)]at e
   simp at e
  ·rw[aC (by rw[dW];exact h1),aj (by rw[dW];omega)]at e
   simp at e
theorem asK{s:nT}(h:yZ s=0):s.2.2.1.length<=6/\tF s.2.2.1=true:=by
 unfold yZ at h
 split at h
 ·omega
 split at h
 ·omega
 split at h
 ·omega
 rename_i c3
 split at h
 ·omega
 rename_i c4
 rw[dW]at c3
 refine⟨by omega,?_⟩
 cases hu:tF s.2.2.1
 ·rw[hu]at c4;simp at c4
 ·rfl
def Ik(r:WR):Prop:=r.2.1.length<=10/\LW r.2.2.1
theorem QH(c:Int):Ik (zQ c):=⟨by simp[zQ],(aj8 c).2⟩
theorem main{n:Nat}{w:gM}{k:Int}(h:uP w)(hn:big<n):∃r:WR,L_ n w k=some (r,())/\GK n w k=some (r,())/\Ik r:=by
 obtain⟨c,e1,e2⟩:=atz h hn
 have q3:∀c,Qc n c=some (zQ c,()):=λ_=>rfl
 have hll:w.2.1.length<=1048576:=h.l
 have q4:Du n w.2.1=some ((w.2.1.length:Int),()):=rfl
 have w1:IntKind.i64.wrap ((w.2.1.length:Int)-1)=(w.2.1.length:Int)-1:=wrap_i64 (by omega) (by omega)
 unfold L_ GK Qb PW
 simp only[e1,e2,aG,q3,q4,w1,wM,ql]
 by_cases c0:c=0
 ·simp only[gQ c0,fK,bg,aZ]
  cases hu:w.1.1 with
  |false=>
   simp only[jf,aQ,aG]
   rw[g_ (show ¬(9:Int)=0 by omega)]
   simp only[jf,aQ]
   exact⟨zQ 9,rfl,rfl,QH _⟩
  |true=>
   simp only[fK,bg,aZ]
   by_cases c1:0<=k/\k<=(w.2.1.length:Int)-1
   ·rw[gQ c1]
    simp only[fK,bg,aZ,aG,bG,alh h hn,aqU h hn]
    obtain⟨i,rfl⟩:∃i:Nat,k=(i:Int):=⟨k.toNat,by omega⟩
    have hi:i<w.2.1.length:=by omega
    obtain⟨f1,f2,f3⟩:=amN h hn (c0▸e2)
    obtain⟨g1,g2⟩:=asK (f3 i hi)
    obtain⟨l,s,t1,t2,t3,t4⟩:=told h hi g1 (λ_=>atr g2) (f1 hu) hn
    simp only[bU hi,aQ,t1,t2,aG]
    refine⟨(0,l,(w.1,w.2.1.set i s,()),()),rfl,rfl,t3,LV.of h.v,by rw[List.length_set];exact h.l,λx hx=>?_⟩
    rcases YI hx with g|rfl
    ·exact h.s x g
    ·exact t4
   ·rw[g_ c1]
    simp only[jf,aQ,aG]
    rw[g_ (show ¬(3:Int)=0 by omega)]
    simp only[jf,aQ]
    exact⟨zQ 3,rfl,rfl,QH _⟩
 ·simp only[g_ c0,jf,aQ,aG]
  exact⟨zQ c,rfl,rfl,QH _⟩
theorem amz{n:Nat}{xs:List (List Int)}(hb:xs.length<=10)(hn:big<n):Li n xs xs=some (true,()):=by
 unfold Li
 rw[aC (by simp)]
 exact z8 (f:=λx y=>some (decide (x=y),())) (d:=([]:List Int)) (λL v=>rfl) (λ_ _=>by simp) (by unfold big;omega) hn
def mT(n:Nat)(l:Nat):List (List Int):=(List.range l).map λ(i:Nat)=>txt n (1+(i:Int))
theorem aqj{n:Nat}{xs:List (List Int)}(hb:xs.length<=10)(hn:big<n):Lu n xs 1=some (1+(xs.length:Int),mT n xs.length,()):=by
 have hn':1048576<n:=hn
 unfold Lu
 have hl:(mT n xs.length).length=xs.length:=by simp[mT]
 have h:=FC (B:=λL1 v1=>(if decide (v1.2.1<(v1.2.2.1.length:Int))=true then((tN n v1.1).bind λr2=>(if aF v1.2.1 v1.2.2.1.length then L1 (IntKind.i64.wrap (v1.1+(1:Int)),IntKind.i64.wrap (v1.2.1+(1:Int)),v1.2.2.1.set v1.2.1.toNat r2.1,())else none))else some (v1.1,v1.2.2.1,())))
  (xs:=xs) (ys:=mT n xs.length) (K:=λi=>1+i) (n:=n) hl (by omega) ?_ ?_
 ·simpa using h
 ·intro L i hi
  simp only[Av hl (Nat.le_of_lt hi),eB,hi,bG,aQ,bU hi,F9 (n:=n) (by omega) (show 1+(i:Int)<_ by omega),aG,dA,dL hi (by omega)]
  rw[wrap_i64 (by omega) (by omega),yQ hl hi _ (by simp[mT])]
  congr 2
  first|done|omega
 ·intro L
  simp[hl]
theorem an7{n:Nat}{l:Nat}(hb:l<=10)(hn:big<n):G8 n (mT n l) 1=some (1+(l:Int),()):=by
 have hn':1048576<n:=hn
 unfold G8
 have hl:(mT n l).length=l:=by simp[mT]
 have h:=EN (B:=λL1 v1=>(if decide (v1.2.2.1<(v1.1.length:Int))=true then(if aF v1.2.2.1 v1.1.length then((tN n v1.2.1).bind λr2=>(if(!decide ((v1.1.getD v1.2.2.1.toNat ([]:List Int))=r2.1))=true then some ((-1:Int),())else L1 (v1.1,IntKind.i64.wrap (v1.2.1+(1:Int)),IntKind.i64.wrap (v1.2.2.1+(1:Int)),())))else none)else some (v1.2.1,())))
  (ys:=mT n l) (K:=λi=>1+i) (n:=n) (by omega) ?_ ?_
 ·rw[hl]at h
  simpa using h
 ·intro L i hi
  have hi':i<l:=by omega
  simp only[eB,hi,bG,aQ,bU hi,F9 (n:=n) (by omega) (show 1+(i:Int)<_ by omega),aG,ku hi,dL hi (by omega)]
  rw[wrap_i64 (by omega) (by omega)]
  have:(mT n l)[i]=txt n (1+i):=by simp[mT]
  rw[this]
  simp only[bG,fK,bg,aZ]
  congr 3
  first|done|omega
 ·intro L
  simp
theorem Ua{v:l_}{k:Int}(h:LV v)(h0:0<=k)(h1:k<=100):0<=kV k v/\kV k v<=1152925902656503808:=by
 have h2:=h.s1
 have h3:=h.s2
 unfold big at h2 h3
 have:=JL (k:=k+(v.2.1.length:Int)+(v.2.2.1.length:Int)) h.st
 unfold kV
 omega
def Fw(k:Int)(w:gM):Int:=gT (kV k w.1) w.2.1 w.2.1.length
def JW(n:Nat)(k:Int)(w:gM):gM:=(mV n k w.1,u6 n (kV k w.1) w.2.1,())
theorem Ub{w:gM}{k:Int}(h:LW w)(h0:0<=k)(h1:k<=100):¬Fw k w<0:=by
 have h2:=Ua h.v h0 h1
 have h3:=JM (k:=kV k w.1) h.s _ (bV _)
 unfold Fw
 omega
theorem aql{n:Nat}{w:gM}{k:Int}(h:LW w)(hn:big<n)(h0:0<=k)(h1:k<=100):Bf n w k=some (Fw k w,JW n k w,()):=by
 have h2:=Ua h.v h0 h1
 unfold Bf
 rw[ab9 h.v hn h0 (by omega)]
 simp only[aG]
 rw[ab8 h.l h.s hn h2.1 h2.2]
 rfl
theorem an9{n:Nat}{w:gM}{k:Int}(h:LW w)(hn:big<n)(h0:0<=k)(h1:k<=100):G_ n (JW n k w) k=some (Fw k w,()):=by
 have h2:=Ua h.v h0 h1
 have n1:¬kV k w.1<0:=by omega
 have n2:=Ub h h0 h1
 unfold G_
 have e1:G9 n (JW n k w).1 k=some (kV k w.1,()):=an8 h.v hn h0 (by omega)
 have e2:G6 n (JW n k w).2.1 (kV k w.1)=some (Fw k w,()):=an5 h.l h.s hn h2.1 h2.2
 simp only[e1,e2,aG,n1,n2,cO,bg,aZ]
theorem eqL{n:Nat}{r:WR}(h:Ik r)(hn:big<n):Dz n r r=some (true,()):=by
 obtain⟨hl,hw⟩:=h
 unfold Dz Dy GZ
 simp[amz hl hn,IW hw.v.s1 hn,IW hw.v.s2 hn,Z4 hw.v.st hn,amy hw.l hw.s hn]
def kR(r:WR):Int:=Fw (1+(r.2.1.length:Int)) r.2.2.1
def mR(n:Nat)(r:WR):WR:=(r.1,mT n r.2.1.length,JW n (1+(r.2.1.length:Int)) r.2.2.1,())
theorem aqg{n:Nat}{r:WR}(h:Ik r)(hn:big<n):Lx n r 1=some (kR r,mR n r,()):=by
 have hl:=h.1
 unfold Lx
 rw[aqj hl hn]
 simp only[aG]
 rw[aql h.2 hn (by omega) (by omega)]
 rfl
theorem an3{n:Nat}{r:WR}(h:Ik r)(hn:big<n):He n (mR n r) 1=some (kR r,()):=by
 have hl:=h.1
 have n2:¬kR r<0:=Ub h.2 (by omega) (by omega)
 have n1:¬1+(r.2.1.length:Int)<0:=by omega
 unfold He
 have e1:G8 n (mR n r).2.1 1=some (1+(r.2.1.length:Int),()):=an7 hl hn
 have e2:G_ n (mR n r).2.2.1 (1+(r.2.1.length:Int))=some (kR r,()):=an9 h.2 hn (by omega) (by omega)
 simp only[e1,e2,aG,n1,n2,cO,bg,aZ]
theorem law{w:gM}{k:Int}(hw:lW w):PX 1048577 w k=some (true,()):=by
 have hn:big<1048577:=by unfold big;omega
 unfold PX
 obtain⟨r1,a1,a2⟩:=as9 hw hn
 rw[a1]
 simp only[aG]
 by_cases c1:r1<0
 ·simp only[c1,bG,aQ]
 ·have hV:=a2.resolve_left c1
  obtain⟨r,e1,e2,hR⟩:=main (k:=k) hV hn
  have m0:=aqm (n:=1048577) (LW.of hV) hn
  have m2:=apA (LW.of hV)
  have m3:¬kR r<0:=Ub hR.2 (by omega) (by have:=hR.1;omega)
  simp only[c1,cO,bg,aZ,atm hV hn,e1,e2,aG,eqL hR hn,amB hV hn,fK,m0,m2,aqg hR hn,an3 hR hn,m3,bG]
theorem all:∀(N:Nat) (c:Cont (kin FQ)),Oq FQ c->Kt FQ c<=N->∃n out,Xr.F n c=some out/\out.1=true:=by
 intro N c hc _
 exact⟨1048577,(true,()),law (w:=c.1) (k:=c.2.1) (apP hc.1),rfl⟩
end Go.Proofs.YtplpeegfeajkkaaGreatDoor.YR
