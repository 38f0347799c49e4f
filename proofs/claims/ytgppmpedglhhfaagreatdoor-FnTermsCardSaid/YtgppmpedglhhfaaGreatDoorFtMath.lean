/- 'FnTerms': what it comes to. -/
import Derived.Test.YtgppmpedglhhfaaGreatDoorTDrawMath
namespace Go.Proofs.YtgppmpedglhhfaaGreatDoor.YJ
open Go Ow nL nM jC sF vB oW vK sD Ai QV Zu YK XM FO Zz
theorem anW{n:Nat}{l:List Int}(hl:l.length<n)(h2:l.length<=1048576):KP n l l=some (true,()):=by
 unfold KP
 rw[ah (by simp)]
 refine(qp (λi=>(l,l,(l.length:Int),(i:Int),())) (λ_=>none) (some (true,())) (m:=l.length) rfl hl ?_ ?_).trans ?_
 ·intro L i hi _
  simp only[qC,hi,bY,bL,fu hi,mR hi (by omega),gI,bP,bI]
 ·intro L _
  simp
 ·exact G6 (λ_ _ _=>rfl)
theorem anX{n:Nat}{l:List aB}(hl:l.length<n)(h2:l.length<=1048576):KO n l l=some (true,()):=by
 unfold KO
 rw[ah (by simp)]
 refine(qp (λi=>(l,l,(l.length:Int),(i:Int),())) (λ_=>none) (some (true,())) (m:=l.length) rfl hl ?_ ?_).trans ?_
 ·intro L i hi _
  simp only[qC,hi,bY,bL,fu hi,mR hi (by omega),gI,bP,bI,Bool.and_self]
 ·intro L _
  simp
 ·exact G6 (λ_ _ _=>rfl)
theorem anY{n:Nat}{t:aa}(h1:t.2.2.1.length<=1048576)(h2:t.2.2.2.1.length<=1048576)(hn:1048576<n):FY n t t=some (true,()):=by
 unfold FY
 simp only[bY,bL,anW (n:=n) (l:=t.2.2.1) (by omega) h1,anX (n:=n) (l:=t.2.2.2.1) (by omega) h2,aQ]
theorem anZ{n:Nat}{l:List aa}(hl:l.length<=1000)(h:∀t∈l,t.2.2.1.length<=1048576/\t.2.2.2.1.length<=1048576)(hn:1048576<n):Cr n l l=some (true,()):=by
 unfold Cr Qo
 rw[ah (by simp)]
 have e:∀i (hi:i<l.length),FY n (l.getD i aA) (l.getD i aA)=some (true,()):=λi hi=>by
  rw[eP,fG hi]
  exact anY (h _ (om hi)).1 (h _ (om hi)).2 hn
 refine(congrArg (λo:Option (Bool×Unit)=>o.bind λr1=>some (r1.1,())) ((qp (λi=>(l,l,(l.length:Int),(i:Int),())) (λ_=>none) (some (true,())) (m:=l.length) rfl (by omega) ?_ ?_).trans (G6 (λ_ _ _=>rfl)))).trans rfl
 ·intro L i hi _
  simp only[qC,hi,bY,bL,fu hi,iw,e i hi,aQ,mR hi (by omega),gI,bP,bI]
 ·intro L _
  simp
theorem aw9{t:aa}(hs:sL t)(ho:aN t):J2 t:=by
 obtain⟨k1,s1,s2,s3,s4,s5,_⟩:=hs
 refine⟨k1,λh=>?_,λh=>OU h ho,s1,λh c hc=>((BM h).1 ho).2 c hc |>.1,s2,λh=>?_,s3,s4,s5⟩
 ·have:=(BL h).1 ho
  omega
 ·have hf:=(tu h).1 ho
  obtain⟨g1,g2⟩:=yK hf
  exact⟨g1.2,hf,g2⟩
theorem OV:∀{tr:Tr},kH tr->okV tr->xJ tr
 |.leaf _,hs,ho=>aw9 hs ho
 |.one a,hs,ho=>OV (tr:=a) hs ho
 |.two _ a b,hs,ho=>⟨hs.1,OV (tr:=a) hs.2.1 ho.1,OV (tr:=b) hs.2.2 ho.2⟩
theorem acr{c:Int}(hc:0<=c/\c<256):∀{l:List (List Int)},(∀x∈l,dD x)->dD ([c].intercalate l)
 | [],_=>λb hb=>by simp[List.intercalate]at hb
 | [x],h=>by rw[List.intercalate_singleton];exact h x (by simp)
 |x :: y :: l,h=>by
  rw[List.intercalate_cons_cons,eG]
  intro b hb
  rcases dh.1 hb with hb|hb
  ·exact h x (by simp) b hb
  ·rcases dh.1 hb with hb|hb
   ·simp only[gY]at hb;omega
   ·exact acr hc (l:=y :: l) (λz hz=>h z (by simp[hz])) b hb
theorem ayC{t:aa}(hk:2<=t.1/\t.1<=8)(h:aN t):dD (tw t)/\(tw t).length<=100:=by
 unfold tw
 split
 ·rename_i c2
  have q:∀f:Nat,f<16->(tF f).all (λx=>decide (0<=x)&&decide (x<256))=true/\(tF f).length<=100:=by decide +kernel
  obtain⟨q1,q2⟩:=q t.2.1.toNat (by have:=(BL c2).1 h;omega)
  exact⟨λb hb=>by simpa using dV.1 q1 b hb,q2⟩
 ·split
  ·rename_i c8
   obtain⟨g1,g2⟩:=yK ((tu c8).1 h)
   refine⟨acr (by omega) λx hx=>?_,by have:=aip g1.2 g2;omega⟩
   obtain⟨r,hr,rfl⟩:=d_.1 hx
   exact λb hb=>((Fg (g2 r hr)).1 b hb).2
  ·split
   ·rename_i c6
    obtain⟨g1,g2⟩:=(BM c6).1 h
    refine⟨λb hb=>?_,by have:=R8 t.2.2.1;omega⟩
    obtain⟨c,hc1,hc2⟩:=mW.1 hb
    obtain⟨⟨⟨_,j2⟩,_⟩,j3,_⟩:=g2 c hc1
    have:=aaK ⟨j3,j2⟩ b hc2
    omega
   ·obtain⟨h0,h1⟩:=OU (t:=t) (by omega) h
    obtain⟨d1,d2⟩:=w9 h0 h1
    exact⟨λb hb=>by have:=d1 b hb;omega,by omega⟩
theorem Py(k:Int):dD (wd k):=by
 unfold wd
 by_cases h:(k-1).toNat<11
 ·exact(show ∀i,i<11->∀b∈WD.getD i [],0<=b/\b<256 by decide) _ h
 ·rw[eP,pY (by show 11<=_;omega)]
  intro b hb
  simp at hb
theorem y7{a b:List Int}(h:dD a)(h':dD b):dD (a++b):=λx hx=>(dh.1 hx).elim (h x) (h' x)
theorem MJ:dD [32]:=λb hb=>by simp at hb;omega
theorem Pq:∀{tr:Tr},kH tr->okV tr->dD (txt tr)/\(txt tr).length<=200*size tr
 |.leaf t,hs,ho=>by
  have hk:=hs.1
  have hw:=FJ t.1
  unfold txt tX
  simp only[size]
  by_cases c1:t.1=1
  ·rw[aj c1,jf]
   exact⟨Py _,by omega⟩
  ·rw[ah c1]
   obtain⟨h1,h2⟩:=ayC (t:=t) (by omega) ho
   show dD (wd t.1++([32]++tw t))/\(wd t.1++([32]++tw t)).length<=_
   exact⟨y7 (Py _) (y7 MJ h1),by simp;omega⟩
 |.one a,hs,ho=>by
  obtain⟨h1,h2⟩:=Pq (tr:=a) hs ho
  have hw:=FJ 9
  unfold txt
  simp only[size]
  exact⟨y7 (Py _) (y7 MJ h1),by simp;omega⟩
 |.two k a b,hs,ho=>by
  obtain⟨h1,h2⟩:=Pq (tr:=a) hs.2.1 ho.1
  obtain⟨h3,h4⟩:=Pq (tr:=b) hs.2.2 ho.2
  have hw:=FJ k
  unfold txt
  simp only[size]
  exact⟨y7 (Py _) (y7 (y7 (y7 MJ h1) MJ) h3),by simp;omega⟩
theorem Xz{k:Int}(h:1<=k/\k<=11):wd k≠[]:=by
 unfold wd
 exact(show ∀i,i<11->WD.getD i []≠[] by decide) _ (by omega)
theorem ayE{tr:Tr}(hs:kH tr):txt tr≠[]:=by
 cases tr with
 |leaf t=>unfold txt;intro e;exact Xz (by have:=hs.1;omega) (List.append_eq_nil_iff.1 e).1
 |one a=>unfold txt;intro e;exact Xz (k:=9) (by omega) (List.append_eq_nil_iff.1 e).1
 |two k a b=>unfold txt;intro e;exact Xz (k:=(k:Int)) (by have:=hs.1;omega) (List.append_eq_nil_iff.1 e).1
theorem aiO{tr:Tr}(hs:kH tr)(ho:okV tr)(h12:size tr<=12):wK NN (bD 0 tr)=some ((0,txt tr,()),()):=by
 have hp:=size_pos tr
 have hll:=jy 0 tr
 obtain⟨ss,k1,k2,k3⟩:=xQ tr [] [] ⟨rfl,λi hi=>by simp at hi⟩ hs
 simp only[iA,iF,jq]at k1 k3
 obtain⟨c,hc1,hc2⟩:=QW k1 (by omega) (by rw[hll];exact k3) (n:=NN) (by decide) (by omega)
 have hc0:c=0:=hc2.2 ((zm tr 0 hs).2 ho)
 subst hc0
 have htx:=(Kk tr [] [] NN (OV hs ho) hs (by omega) (by show _<4194304;omega)).1
 simp only[iA,iF,jf,jq]at htx
 have ew:IntKind.i64.wrap (((bD 0 tr).length:Int)-1)=((size tr-1:Nat):Int):=by rw[hll,wrap_i64 (by omega) (by omega)];omega
 unfold wK
 rw[hc1]
 simp only[aQ,bY,gI,bP,bI,lu.nW,ew,htx]
theorem second{ts:List aa}(hcs:∀i,i<ts.length->(ts.getD i aA).2.2.1.length<=1048576) :
  (∃c,c≠0/\wK NN ts=some ((c,[],()),())/\F4 NN ts=some ((c,[],()),())/\rY NN ts=some (c,()))\/
  ∃t us,wK NN ts=some ((0,t,()),())/\tZ NN t=some ((0,us,()),())/\Cr NN us ts=some (true,())/\t≠[]:=by
 obtain⟨c,h1,h2,h3⟩:=faults hcs (n:=NN) (by decide)
 by_cases hc:c=0
 ·obtain⟨tr,g1,g2,g3,g4⟩:=h3 hc
  obtain⟨b1,b2⟩:=Pq g1 g4
  refine .inr ⟨txt tr,bD 0 tr,by rw[g3];exact aiO g1 g4 g2,(aco b1 (by omega) (axF g1 g4) g2 g4 g1).1,?_,ayE g1⟩
  rw[<-g3]
  have hl:ts.length<=1000:=by rw[g3,jy];omega
  refine anZ hl (λt ht=>?_) (by decide)
  obtain⟨i,hi,rfl⟩:=List.getElem_of_mem ht
  have:=hcs i hi
  rw[eP,fG hi]at this
  refine⟨this,?_⟩
  obtain⟨ss,k1,_⟩:=xQ tr [] [] ⟨rfl,λi hi=>by simp at hi⟩ g1
  simp only[iA,iF]at k1
  rw[<-g3]at k1
  have hok:aN ts[i]:=by
   have:=(zm tr 0 g1).2 g4
   rw[<-g3]at this
   exact this _ ht
  have hno:=k1.2 i hi
  unfold node at hno
  rw[eP,fG hi,su]at hno
  rcases hno with⟨hL,_⟩|⟨_,e,_⟩|⟨_,⟨k,_,e⟩,_⟩
  ·by_cases h8:ts[i].1=8
   ·have:=(yK ((tu h8).1 hok)).1
    omega
   ·rw[hL.2.2.2.1 h8];exact dW _
  ·rw[e];exact dW _
  ·rw[e];exact dW _
 ·refine .inl ⟨c,hc,?_,?_,h1⟩
  ·unfold wK
   rw[h1]
   simp[hc]
  ·unfold F4
   rw[h2]
   simp[hc]
theorem law{xs:List Int}(hb:jR xs):Qm NN xs=some (true,()):=by
 have e0:Qn NN xs=some (decide ((xs.length:Int)>1048576),()):=rfl
 unfold Qm
 rw[e0]
 simp only[aQ]
 by_cases hl:(xs.length:Int)>1048576
 ·rw[aj (by rw[bF];exact hl)]
 ·rw[ah (by rw[bF];exact hl)]
  have hl':xs.length<=big:=by unfold big;omega
  obtain⟨⟨t,u⟩,d1,d2,d3⟩:=parseText (n:=NN) hb hl' (by decide)
  obtain⟨⟨ts,u'⟩,d4,d5⟩:=al_ (n:=NN) hb hl' (by decide)
  simp only at d2 d3 d5
  have tB:dD t:=λb hb=>by have:=d2 b hb;omega
  have s2:=second d5
  simp only[d1,d4,aQ]
  rcases ame tB (by omega)with⟨h1,h2⟩|⟨tr,q1,q2,q3,q4,q5,q6,q7⟩
  ·simp only[h1,h2,aQ,bY,gI,bP,bI,Int.reduceEq,dm]
   rcases s2 with⟨c,hc,k1,k2,k3⟩|⟨t',us,k1,k2,k3,k4⟩
   ·simp[k1,k2,k3,hc]
   ·simp[k1,k2,k3,k4]
  ·obtain⟨_,used,f1,_,_,f4⟩:=rd_facts (wz tB) q1
   rw[jf]at f1
   have et:txt tr=t:=by rw[<-f4,<-f1];exact LU 32 t
   have tt:=aiO q4 q3 q2
   rw[et]at tt
   simp only[q6,q7,tt,aQ,bY,gI,bP,bI,bL]
   rcases s2 with⟨c,hc,k1,k2,k3⟩|⟨t',us,k1,k2,k3,k4⟩
   ·simp[k1,k2,k3,hc]
   ·simp[k1,k2,k3,k4]
theorem codeOf{c:List Int}(h:c.length<=9223372036854775807/\∀x∈c,0<=x/\x<256):jR c:=λx hx=>by have:=h.2 x hx;omega
theorem all:∀(N:Nat) (c:Cont (kin Fb)),OG Fb c->Ki Fb c<=N->∃n out,YG.F n c=some out/\out.1=true:=by
 intro N c hc _
 refine⟨NN,(true,()),?_,rfl⟩
 exact law (xs:=c.1) (codeOf hc.1)
end Go.Proofs.YtgppmpedglhhfaaGreatDoor.YJ
