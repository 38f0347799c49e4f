/- Ops on stores: what the printed functions of both sides come to. -/
import Derived.Test.YtplpeegfeajkkaaGreatDoorStArgMath
set_option linter.unusedVariables false
set_option linter.unusedSimpArgs false
namespace Go.Proofs.YtplpeegfeajkkaaGreatDoor.nS
open Go Ow nE nQ oI
abbrev OpC:=Int×List Int×List Int×List Int×Int×Int×Int×List Int×Unit
def okO(o:OpC):Prop:=o.2.1.length<=big/\o.2.2.1.length<=big/\o.2.2.2.1.length<=big/\o.2.2.2.2.2.2.2.1.length<=big
theorem Ol{n:Nat}{bs:List Int}(h:bs.length<=big):Bl n bs=some (bs,()):=by
 unfold big at h
 unfold Bl
 rw[aj (by simp;omega)]
 rfl
theorem clone{n:Nat}{bs:List Int}(h:bs.length<=big):zm n bs=some (bs,()):=by
 unfold big at h
 unfold zm
 have hc:(([]:List Int).length+bs.length)*1<=140737488355328:=by simp;omega
 simp only[aj hc]
 cases bs with
 |nil=>exact(aj (show([]:List Int).isEmpty=true from rfl)).trans (Y3 (ks:=[.sl 5 (.int .u8)]) (some (([]:List Int),())))
 |cons b bs=>rfl
theorem apG{n:Nat}{ms:List cK}(hb:ms.length<=big)(h:∀m∈ms,lG m)(hn:big<n):Mf n ms=some (ms,()):=by
 have hb':=hb
 unfold big at hb
 unfold Mf
 refine(gp (λi=>(ms,(i:Int),ms.take i,())) (λ_=>none) (some (ms,())) (m:=ms.length) (by simp) (by omega) ?_ ?_).trans (ko (λ_ _ _=>rfl))
 ·intro L i hi _
  have ht:ms.take (i+1)=ms.take i++[ms[i]]:=by simp
  have hl:(ms.take i).length<=i:=by simp;omega
  simp only[eB,hi,bG,aQ,bU hi,ku hi,dL hi (by omega),Ol (h ms[i] (iC hi)),aG,gL,ht]
  rw[aj (by omega)]
 ·intro L _
  simp
theorem Ud{n:Nat}{b:Bx}(h:okB b)(hn:big<n):DK n b=some (b,()):=by
 unfold DK
 rw[apG h.2.1 h.2.2 hn]
 rfl
theorem Oo{n:Nat}{s:cu}(h:iK s)(hn:big<n):Bp n s=some (s,()):=by
 have hb:=h.1
 unfold big at hb
 unfold Bp
 refine(gp (λi=>((i:Int),s,(0,[],()),(s.1,s.2.1.take i,()),())) (λ_=>none) (some (s,())) (m:=s.2.1.length) (by simp) (by have:=h.1;omega) ?_ ?_).trans (ko (λ_ _ _=>rfl))
 ·intro L i hi _
  have ht:s.2.1.take (i+1)=s.2.1.take i++[s.2.1[i]]:=by simp
  have hl:(s.2.1.take i).length<=i:=by simp;omega
  simp only[eB,hi,bG,aQ,bU hi,ku hi,dL hi (by omega),Ud (h.2 _ (iC hi)) hn,aG,gL,ht]
  rw[aj (by omega)]
 ·intro L _
  simp
theorem own{n:Nat}{s:cu}(h:iK s)(hn:big<n):Dq n s=some (s,()):=by
 have hb:=h.1
 unfold big at hb
 unfold Dq
 refine(gp (λi=>(s.2.1,(s.2.1.length:Int),(i:Int),(0,[],()),(s.1,s.2.1.take i,()),())) (λ_=>none) (some (s,())) (m:=s.2.1.length) (by simp) (by have:=h.1;omega) ?_ ?_).trans (ko (λ_ _ _=>rfl))
 ·intro L i hi _
  have ht:s.2.1.take (i+1)=s.2.1.take i++[s.2.1[i]]:=by simp
  have hl:(s.2.1.take i).length<=i:=by simp;omega
  simp only[eB,hi,bG,aQ,bU hi,ku hi]
  have hB:=h.2 _ (iC hi)
  generalize s.2.1[i]=b at hB ht ⊢
  have hb2:=hB.2.1
  unfold big at hb2
  refine(gp (λj=>(s.2.1,(s.2.1.length:Int),(i:Int),b.2.2.2.1,(b.2.2.2.1.length:Int),(j:Int),(0,[],()),(s.1,s.2.1.take i,()),(b.1,b.2.1,b.2.2.1,b.2.2.2.1.take j,()),())) (λ_=>none) (L (s.2.1,(s.2.1.length:Int),((i+1:Nat):Int),(0,[],()),(s.1,s.2.1.take (i+1),()),())) (m:=b.2.2.2.1.length) (by simp) (by have:=hB.2.1;omega) ?_ ?_).trans (ko (λ_ _ _=>rfl))
  ·intro L2 j hj _
   have htj:b.2.2.2.1.take (j+1)=b.2.2.2.1.take j++[b.2.2.2.1[j]]:=by simp
   have hlj:(b.2.2.2.1.take j).length<=j:=by simp;omega
   simp only[eB,hj,bG,aQ,bU hj,ku hj,dL hj (by omega),clone (hB.2.2 _ (iC hj)),aG,gL,htj]
   rw[aj (by omega)]
  ·intro L2 _
   simp only[qz,cO,bg,aZ,pY,gL,dL hi (by omega),ht]
   rw[aj (by omega)]
 ·intro L _
  simp
def oZ(s:cu)(nm:List Int):Int:=if s.2.1.findIdx (λb=>decide (b.1=nm))<s.2.1.length then((s.2.1.findIdx (λb=>decide (b.1=nm)):Nat):Int)else -1
theorem yU(s:cu)(nm:List Int):oZ s nm=-1\/∃i:Nat,oZ s nm=(i:Int)/\i<s.2.1.length:=by
 unfold oZ
 split
 ·exact .inr ⟨_,rfl,by assumption⟩
 ·exact .inl rfl
theorem Om{n:Nat}{s:cu}{nm:List Int}(hb:s.2.1.length<=big)(hn:big<n):Bn n s nm=some (oZ s nm,()):=by
 have hb':=hb
 unfold big at hb
 unfold Bn
 refine(gp (λi=>(s,nm,(i:Int),())) (λj=>if decide ((s.2.1.getD j dB).1=nm)=true then some (some ((j:Int),()))else none) (some (-1,())) (m:=s.2.1.length) rfl (by omega) ?_ ?_).trans ?_
 ·intro L i hi _
  simp only[eB,hi,bG,aQ,bU hi,dA,dL hi (by omega)]
  split<;>rfl
 ·intro L _
  simp
 ·rw[nA.I6 (p:=λb:Bx=>decide (b.1=nm)) (r:=λj=>some ((j:Int),())) s.2.1.length 0 (by omega)]
  simp only[BA,nR]
  unfold oZ
  split<;>rfl
theorem box{n:Nat}{s:cu}{nm:List Int}(hb:s.2.1.length<=big)(hn:big<n):Bb n s nm=some (oZ s nm,()):=by
 unfold Bb
 have h:P8 n s.2.1 nm=some (_,()):=nA.TW (p:=λb:Bx=>decide (b.1=nm)) (q:=λc x=>PS n x c) (d:=dB) (λ_ _=>rfl) (λ_=>rfl) (by unfold big at hb;omega) (by omega)
 rw[h]
 rfl
theorem has{n:Nat}{us:List Int}{x:Int}(hb:us.length<=big)(hn:big<n):Bu n us x=some (us.contains x,()):=
 pq.aaD (λ_ _=>rfl) (by unfold big at hb;omega) (by omega)
theorem contains{n:Nat}{us:List Int}{x:Int}(hb:us.length<=big)(hn:big<n):vH n us x=some (us.contains x,()):=
 nA.R7 (λ_ _=>rfl) (by unfold big at hb;omega) (by omega)
def om(b:Bx)(m:cK):Bx:=(b.1,b.2.1,b.2.2.1+1,b.2.2.2.1++[(b.2.2.1,m.2.1,m.2.2.1,m.2.2.2.1,())],())
theorem adO{n:Nat}{b:Bx}{m:cK}(hm:lG m)(h1:0<=b.2.2.1)(h2:b.2.2.1<=2000)(h3:b.2.2.2.1.length<=2000):Bv n b m=some (b.2.2.1,om b m,()):=by
 unfold Bv
 rw[Ol hm]
 simp only[aG,gL]
 rw[aj (by omega),wrap_i64 (by omega) (by omega)]
 rfl
theorem adN{n:Nat}{b:Bx}{m:cK}(hm:lG m)(h1:0<=b.2.2.1)(h2:b.2.2.1<=2000)(h3:b.2.2.2.1.length<=2000):KX n b m=some (b.2.2.1,om b m,()):=by
 unfold KX
 rw[clone hm]
 simp only[aG,gL]
 rw[aj ⟨trivial,by omega⟩,wrap_i64 (x:=b.2.2.1+1) (by omega) (by omega),show b.2.2.1+1-1=b.2.2.1 by omega,wrap_i64 (by omega) (by omega)]
 rfl
theorem ara{n:Nat}{b:Bx}{m:cK}(hm:lG m)(h1:0<=b.2.2.1)(h2:b.2.2.1<=2000)(h3:b.2.2.2.1.length<=2000):Gz n b m=some (b.2.2.1,om b m,()):=adN hm h1 h2 h3
def turn(was mode fl:Int):Int:=
 if mode=2 then IntKind.i64.wrap ((BitVec.ofInt (IntKind.bits .i64) was ||| BitVec.ofInt (IntKind.bits .i64) fl).toNat)else if mode=3 then IntKind.i64.wrap ((BitVec.ofInt (IntKind.bits .i64) was &&& ~~~ BitVec.ofInt (IntKind.bits .i64) fl).toNat)else fl
def kN(o:OpC)(m:cK):cK:=if o.2.2.2.1.contains m.1=true then(m.1,turn m.2.1 o.2.2.2.2.1 o.2.2.2.2.2.1,m.2.2)else m
def Ck(o:OpC)(b:Bx):Bx:=(b.1,b.2.1,b.2.2.1,b.2.2.2.1.map (kN o),())
def EE(o:OpC)(b:Bx):List Int:=(b.2.2.2.1.filter λm=>o.2.2.2.1.contains m.1).map (·.1)
theorem flags{n:Nat}(a m f:Int):Mm n a m f=some (turn a m f,()):=by
 unfold Mm turn
 by_cases h2:m=2
 ·simp[h2]
 ·by_cases h3:m=3<;>simp[h2,h3]
theorem OC{A:Type}{p:A->Bool}{x:A}(h:p x=false):[x].filter p=[]:=by simp[QL,h]
theorem one_pos{A:Type}{p:A->Bool}{x:A}(h:p x=true):[x].filter p=[x]:=by simp[QL,h]
theorem aei{A:Type}{f:A->A}{xs:List A}{i:Nat}(hi:i<xs.length)(h:f xs[i]=xs[i]):(xs.map f).take i++xs.drop i=(xs.map f).take (i+1)++xs.drop (i+1):=by
 have h1:=yQ (xs:=xs) (ys:=xs.map f) (by simp) hi xs[i] (by simp[h])
 rw[<-h1]
 symm
 have hl:i<((xs.map f).take i++xs.drop i).length:=by simp;omega
 have hg:=FJ (xs:=xs) (ys:=xs.map f) (by simp) hi xs[i]
 rw[iR,jl hl]at hg
 simp only[tX]at hg
 conv=>lhs;rw[<-hg]
 exact List.set_getElem_self hl
theorem amZ{n:Nat}{b:Bx}{o:OpC}(hb:b.2.2.2.1.length<=big)(ho:o.2.2.2.1.length<=big)(hn:big<n):Ml n b o=some (EE o b,Ck o b,()):=by
 have hb':=hb
 unfold big at hb
 unfold Ml
 obtain⟨nm,va,ne,ms,u⟩:=b
 have hb:ms.length<=1048576:=hb
 refine(gp (λi=>(o,(i:Int),(nm,va,ne,(ms.map (kN o)).take i++ms.drop i,()),((ms.take i).filter λm=>o.2.2.2.1.contains m.1).map (·.1),())) (λ_=>none) (some (EE o (nm,va,ne,ms,()),Ck o (nm,va,ne,ms,()),())) (m:=ms.length) (by simp) (by unfold big at hn;omega) ?_ ?_).trans (ko (λ_ _ _=>rfl))
 ·intro L i hi _
  have hy:(ms.map (kN o)).length=ms.length:=by simp
  have hlen:=Av (xs:=ms) (ys:=ms.map (kN o)) hy (Nat.le_of_lt hi)
  have hget:=FJ (xs:=ms) (ys:=ms.map (kN o)) hy hi dM
  have ht:ms.take (i+1)=ms.take i++[ms[i]]:=by simp
  have hl1:(((ms.take i).filter λm=>o.2.2.2.1.contains m.1).map (·.1)).length<=i:=by
   rw[nP];exact nC (q8 _ _) (by simp;omega)
  simp only[hlen,eB,hi,bG,aQ,bU hi,dA,bY,hget,has ho hn,aG,flags,dL hi (by omega)]
  cases hc:o.2.2.2.1.contains ms[i].1 with
  |false=>
   have hf:kN o ms[i]=ms[i]:=by unfold kN;rw[hc];rfl
   rw[aC qW,aei hi hf,ht,xX,OC (p:=λm:cK=>o.2.2.2.1.contains m.1) hc,iq]
  |true=>
   have hset:=yQ (xs:=ms) (ys:=ms.map (kN o)) hy hi (ms[i].1,turn ms[i].2.1 o.2.2.2.2.1 o.2.2.2.2.2.1,ms[i].2.2) (by rw[List.getElem_map];unfold kN;rw[aj hc])
   have hgs:((ms.map (kN o)).take (i+1)++ms.drop (i+1)).getD i dM=(ms[i].1,turn ms[i].2.1 o.2.2.2.2.1 o.2.2.2.2.2.1,ms[i].2.2):=by
    rw[<-hset,iR,List.getElem?_set_self (by omega)];rfl
   simp only[aQ,hset,hgs,gL]
   rw[aj (by omega),ht,xX,one_pos (p:=λm:cK=>o.2.2.2.1.contains m.1) hc,q9]
   rfl
 ·intro L _
  have ht:(ms.map (kN o)).take ms.length=ms.map (kN o):=DZ (by simp)
  simp only[ht,nP,qz,cO,bg,aZ,pY,MM,iq]
  rfl
theorem amY{n:Nat}{b:Bx}{o:OpC}(hb:b.2.2.2.1.length<=big)(ho:o.2.2.2.1.length<=big)(hn:big<n)(hm:1<=o.2.2.2.2.1/\o.2.2.2.2.1<=3):KW n b o=some (EE o b,Ck o b,()):=by
 have hb':=hb
 unfold big at hb
 unfold KW
 obtain⟨nm,va,ne,ms,u⟩:=b
 have hb:ms.length<=1048576:=hb
 refine(gp (λi=>((ms.length:Int),(i:Int),(nm,va,ne,(ms.map (kN o)).take i++ms.drop i,()),o,((ms.take i).filter λm=>o.2.2.2.1.contains m.1).map (·.1),())) (λ_=>none) (some (EE o (nm,va,ne,ms,()),Ck o (nm,va,ne,ms,()),())) (m:=ms.length) (by simp) (by unfold big at hn;omega) ?_ ?_).trans (ko (λ_ _ _=>rfl))
 ·intro L i hi _
  have hy:(ms.map (kN o)).length=ms.length:=by simp
  have hlen:=Av (xs:=ms) (ys:=ms.map (kN o)) hy (Nat.le_of_lt hi)
  have hget:=FJ (xs:=ms) (ys:=ms.map (kN o)) hy hi dM
  have ht:ms.take (i+1)=ms.take i++[ms[i]]:=by simp
  have hl1:(((ms.take i).filter λm=>o.2.2.2.1.contains m.1).map (·.1)).length<=i:=by
   rw[nP];exact nC (q8 _ _) (by simp;omega)
  simp only[hlen,eB,hi,bG,aQ,bU hi,dA,bY,hget,contains ho hn,aG,dL hi (by omega)]
  cases hc:o.2.2.2.1.contains ms[i].1 with
  |false=>
   have hf:kN o ms[i]=ms[i]:=by unfold kN;rw[hc];rfl
   rw[jf,aj rfl,aei hi hf,ht,xX,OC (p:=λm:cK=>o.2.2.2.1.contains m.1) hc,iq]
  |true=>
   have hset:=yQ (xs:=ms) (ys:=ms.map (kN o)) hy hi (ms[i].1,turn ms[i].2.1 o.2.2.2.2.1 o.2.2.2.2.2.1,ms[i].2.2) (by rw[List.getElem_map];unfold kN;rw[aj hc])
   rw[fK,aC qW]
   simp only[gL]
   rw[aj (by omega),ht,xX,one_pos (p:=λm:cK=>o.2.2.2.1.contains m.1) hc,q9,<-hset]
   unfold turn
   by_cases h1:o.2.2.2.2.1=1
   ·simp[h1]
   ·by_cases h2:o.2.2.2.2.1=2
    ·simp[h2]
    ·have h3:o.2.2.2.2.1=3:=by omega
     simp[h3]
 ·intro L _
  have ht:(ms.map (kN o)).take ms.length=ms.map (kN o):=DZ (by simp)
  simp only[ht,qz,cO,bg,aZ,pY,MM,iq]
  rfl
theorem aq3(us:List Int)(u f:Int):pq.pick us 0 u f=us.contains u:=by
 unfold pq.pick
 rw[show BitVec.ofInt (IntKind.bits .i64) f &&& BitVec.ofInt (IntKind.bits .i64) 0=BitVec.ofInt (IntKind.bits .i64) 0 from BitVec.and_zero]
 have:(IntKind.i64.wrap ((BitVec.ofInt (IntKind.bits .i64) 0).toNat:Int))=0:=by decide
 rw[this]
 simp
def Sn(b:Bx):List Int:=(b.2.2.2.1.filter λm=>r_.del m.2.1).map (·.1)
def Ue(b:Bx):Bx:=(b.1,b.2.1,b.2.2.1,b.2.2.2.1.filter (λm=>!r_.del m.2.1),())
theorem aq7{n:Nat}{b:Bx}(hb:b.2.2.2.1.length<=big)(hn:big<n):Ba n b=some (Sn b,Ue b,()):=by
 unfold big at hb hn
 show r_.DI n b=_
 unfold r_.DI
 rw[aj ⟨by omega,by omega⟩]
 rfl
theorem atb{n:Nat}{b:Bx}(hb:b.2.2.2.1.length<=big)(hn:big<n):wS n b [] 8=some (b.2.2.2.1.filter (λm=>r_.del m.2.1),Ue b,()):=by
 unfold big at hb hn
 show pq.zu pq.pick n b [] 8=_
 unfold pq.zu
 rw[aj ⟨by omega,by omega,by simp,by simp;omega⟩]
 rfl
def eT(o:OpC)(b:Bx):List cK:=b.2.2.2.1.filter λm=>o.2.2.2.1.contains m.1
def adX(o:OpC)(b:Bx):Bx:=(b.1,b.2.1,b.2.2.1,b.2.2.2.1.filter (λm=>!o.2.2.2.1.contains m.1),())
theorem aeE{n:Nat}{b:Bx}{o:OpC}(hb:b.2.2.2.1.length<=big)(ho:o.2.2.2.1.length<=big)(hn:big<n):wS n b o.2.2.2.1 0=some (eT o b,adX o b,()):=by
 have hb':=hb
 have ho':=ho
 unfold big at hb ho hn
 show pq.zu pq.pick n b o.2.2.2.1 0=_
 unfold pq.zu
 rw[aj ⟨by omega,by omega,by omega,by omega⟩]
 simp only[aq3]
 rfl
def jW(b:Bx)(l:List cK):Bx:=l.foldl om b
def vD(b:Bx):Nat->List Int
 |0=>[]
 |k+1=>vD b k++[b.2.2.1+(k:Int)]
theorem O5(b:Bx):∀k,(vD b k).length=k
 |0=>rfl
 |k+1=>by simp[vD,O5 b k]
theorem aq_(b:Bx)(l:List cK)(m:cK):jW b (l++[m])=om (jW b l) m:=by simp[jW]
theorem adL(b:Bx):∀l:List cK,(jW b l).2.2.1=b.2.2.1+(l.length:Int)/\(jW b l).2.2.2.1.length=b.2.2.2.1.length+l.length:=by
 intro l
 induction l generalizing b with
 |nil=>simp[jW]
 |cons m l ih=>
  have:=ih (om b m)
  simp only[jW,List.foldl_cons,gF]at this ⊢
  rw[this.1,this.2]
  simp[om]
  omega
theorem adM{l:List cK}:∀{b:Bx},okB b->(∀m∈l,lG m)->b.2.2.2.1.length+l.length<=big->okB (jW b l):=by
 induction l with
 |nil=>intro b h _ _;exact h
 |cons m l ih=>
  intro b h hl hb
  simp only[gF]at hb
  refine ih (b:=om b m) ⟨h.1,?_,?_⟩ (λx hx=>hl x (by simp[hx])) ?_
  ·simp only[om,dN,gL];omega
  ·intro x hx
   simp only[om,dD,iD]at hx
   rcases hx with hx|rfl
   ·exact h.2.2 x hx
   ·exact hl m (by simp)
  ·simp only[om,dN,gL];omega
theorem xK{A:Type}{xs:List A}{k:Nat}(h:k<xs.length)(y d:A):(xs.set k y).getD k d=y:=by
 rw[iR,List.getElem?_set_self h];rfl
theorem getD_lt{A:Type}{xs:List A}{k:Nat}(h:k<xs.length)(d:A):xs.getD k d=xs[k]:=by
 rw[iR,jl h];rfl
theorem OV{A:Type}{xs:List A}{k:Nat}(h:k<xs.length)(d:A):xs.set k (xs.getD k d)=xs:=by
 rw[iR,jl h]
 exact List.set_getElem_self h
theorem adP{s:cu}{k j:Nat}{l:List cK}{b:Bx}(hk:k<s.2.1.length)(hj:j<l.length) :
  ((s.2.1.set k (jW b (l.take j))).set k (om (jW b (l.take j)) l[j]))=s.2.1.set k (jW b (l.take (j+1))):=by
 rw[List.set_set,<-aq_]
 congr 2
 simp
theorem Zy{n:Nat}{s:cu}{at':Int}{k:Nat}{o:OpC}{part:Bx}{l:List cK}{b:Bx}{fin:Int×OpC×Int×Int×cu×Bx×List cK×List Int×Unit->Option (List Int×Int×cu×Unit)}
  {B:(Int×OpC×Int×Int×cu×Bx×List cK×List Int×Unit->Option (List Int×Int×cu×Unit))->Int×OpC×Int×Int×cu×Bx×List cK×List Int×Unit->Option (List Int×Int×cu×Unit)}
  (hB:∀L v,B L v=(if decide (v.2.2.2.1<(v.2.2.2.2.2.2.1.length:Int))=true then(if aF v.2.2.2.1 v.2.2.2.2.2.2.1.length then((Bv n (v.2.2.2.2.1.2.1.getD v.2.2.1.toNat dB) (v.2.2.2.2.2.2.1.getD v.2.2.2.1.toNat dM)).bind λr5=>(if(v.2.2.2.2.2.2.2.1.length+[r5.1].length)*8<=140737488355328 then L (v.1,v.2.1,v.2.2.1,IntKind.i64.wrap (v.2.2.2.1+(1:Int)),(v.2.2.2.2.1.1,v.2.2.2.2.1.2.1.set v.2.2.1.toNat r5.2.1,v.2.2.2.2.1.2.2),v.2.2.2.2.2.1,v.2.2.2.2.2.2.1,v.2.2.2.2.2.2.2.1++[r5.1],())else none))else none)else fin v))
  (hk:k<s.2.1.length) (hb:s.2.1.getD k dB=b) (hl:∀m∈l,lG m) (hl6:l.length<=6) (h1:0<=b.2.2.1) (h2:b.2.2.1<=1000) (h3:b.2.2.2.1.length<=6) (hn:big<n) :
  rounds B n (at',o,(k:Int),(0:Int),s,part,l,[],())=fin (at',o,(k:Int),(l.length:Int),(s.1,s.2.1.set k (jW b l),()),part,l,vD b l.length,()):=by
 have hn':1048576<n:=hn
 refine(gp (λj=>(at',o,(k:Int),(j:Int),(s.1,s.2.1.set k (jW b (l.take j)),()),part,l,vD b j,())) (λ_=>none) (fin (at',o,(k:Int),(l.length:Int),(s.1,s.2.1.set k (jW b l),()),part,l,vD b l.length,())) (m:=l.length) ?_ (by omega) ?_ ?_).trans (ko (λ_ _ _=>rfl))
 ·rw[List.take_zero]
  show _=(_,_,_,_,(s.1,s.2.1.set k b,()),_,_,[],())
  rw[<-hb,OV hk]
  rfl
 ·intro L j hj _
  have hp:=adL b (l.take j)
  have hlt:(l.take j).length=j:=by simp;omega
  rw[hlt]at hp
  have hput:=adO (n:=n) (b:=jW b (l.take j)) (m:=l[j]) (hl _ (iC hj)) (by rw[hp.1];omega) (by rw[hp.1];omega) (by rw[hp.2];omega)
  simp only[hB,eB,hj,bG,aQ,bU hj,dA,getD_lt hj,xK hk,hput,aG,dL hj (by omega),O5,gL,adP hk hj]
  rw[aj (by omega),hp.1]
  rfl
 ·intro L _
  simp only[hB,qz,cO,bg,aZ,pY]
theorem Zx{n:Nat}{s:cu}{at':Int}{k:Nat}{o:OpC}{l:List cK}{b:Bx}{fin:Int×Int×Int×Int×cu×OpC×List cK×List Int×Unit->Option (List Int×Int×cu×Unit)}
  {B:(Int×Int×Int×Int×cu×OpC×List cK×List Int×Unit->Option (List Int×Int×cu×Unit))->Int×Int×Int×Int×cu×OpC×List cK×List Int×Unit->Option (List Int×Int×cu×Unit)}
  (hB:∀L v,B L v=(if decide (v.2.2.2.1<v.2.2.1)=true then(if aF v.2.2.2.1 v.2.2.2.2.2.2.1.length then((Gz n (v.2.2.2.2.1.2.1.getD v.2.1.toNat dB) (v.2.2.2.2.2.2.1.getD v.2.2.2.1.toNat dM)).bind λr6=>(if(v.2.2.2.2.2.2.2.1.length+[r6.1].length)*8<=140737488355328 then L (v.1,v.2.1,v.2.2.1,IntKind.i64.wrap (v.2.2.2.1+(1:Int)),(v.2.2.2.2.1.1,v.2.2.2.2.1.2.1.set v.2.1.toNat r6.2.1,v.2.2.2.2.1.2.2),v.2.2.2.2.2.1,v.2.2.2.2.2.2.1,v.2.2.2.2.2.2.2.1++[r6.1],())else none))else none)else fin v))
  (hk:k<s.2.1.length) (hb:s.2.1.getD k dB=b) (hl:∀m∈l,lG m) (hl6:l.length<=6) (h1:0<=b.2.2.1) (h2:b.2.2.1<=1000) (h3:b.2.2.2.1.length<=6) (hn:big<n) :
  rounds B n (at',(k:Int),(l.length:Int),(0:Int),s,o,l,[],())=fin (at',(k:Int),(l.length:Int),(l.length:Int),(s.1,s.2.1.set k (jW b l),()),o,l,vD b l.length,()):=by
 have hn':1048576<n:=hn
 refine(gp (λj=>(at',(k:Int),(l.length:Int),(j:Int),(s.1,s.2.1.set k (jW b (l.take j)),()),o,l,vD b j,())) (λ_=>none) (fin (at',(k:Int),(l.length:Int),(l.length:Int),(s.1,s.2.1.set k (jW b l),()),o,l,vD b l.length,())) (m:=l.length) ?_ (by omega) ?_ ?_).trans (ko (λ_ _ _=>rfl))
 ·rw[List.take_zero]
  show _=(_,_,_,_,(s.1,s.2.1.set k b,()),_,_,[],())
  rw[<-hb,OV hk]
  rfl
 ·intro L j hj _
  have hp:=adL b (l.take j)
  have hlt:(l.take j).length=j:=by simp;omega
  rw[hlt]at hp
  have hput:=ara (n:=n) (b:=jW b (l.take j)) (m:=l[j]) (hl _ (iC hj)) (by rw[hp.1];omega) (by rw[hp.1];omega) (by rw[hp.2];omega)
  simp only[hB,eB,hj,bG,aQ,bU hj,dA,getD_lt hj,xK hk,hput,aG,dL hj (by omega),O5,gL,adP hk hj]
  rw[aj (by omega),hp.1]
  rfl
 ·intro L _
  simp only[hB,qz,cO,bg,aZ,pY]
theorem abT{n:Nat}{ms:List cK}{o:OpC}{a b:Int}{s:cu}{fin:Int×Int×List cK×Int×Int×cu×OpC×List cK×Unit->Option (List Int×Int×cu×Unit)}
  {B:(Int×Int×List cK×Int×Int×cu×OpC×List cK×Unit->Option (List Int×Int×cu×Unit))->Int×Int×List cK×Int×Int×cu×OpC×List cK×Unit->Option (List Int×Int×cu×Unit)}
  (hB:∀L v,B L v=(if decide (v.2.2.2.2.1<v.2.2.2.1)=true then(if aF v.2.2.2.2.1 v.2.2.1.length then((vH n v.2.2.2.2.2.2.1.2.2.2.1 ((v.2.2.1.getD v.2.2.2.2.1.toNat dM).1)).bind λr3=>(if r3.1=true then(if(v.2.2.2.2.2.2.2.1.length+[v.2.2.1.getD v.2.2.2.2.1.toNat dM].length)*48<=140737488355328 then L (v.1,v.2.1,v.2.2.1,v.2.2.2.1,IntKind.i64.wrap (v.2.2.2.2.1+(1:Int)),v.2.2.2.2.2.1,v.2.2.2.2.2.2.1,v.2.2.2.2.2.2.2.1++[v.2.2.1.getD v.2.2.2.2.1.toNat dM],())else none)else L (v.1,v.2.1,v.2.2.1,v.2.2.2.1,IntKind.i64.wrap (v.2.2.2.2.1+(1:Int)),v.2.2.2.2.2.1,v.2.2.2.2.2.2.1,v.2.2.2.2.2.2.2.1,())))else none)else fin v))
  (hb:ms.length<=big) (ho:o.2.2.2.1.length<=big) (hn:big<n) :
  rounds B n (a,b,ms,(ms.length:Int),(0:Int),s,o,[],())=fin (a,b,ms,(ms.length:Int),(ms.length:Int),s,o,ms.filter (λm=>o.2.2.2.1.contains m.1),()):=by
 have hb':ms.length<=1048576:=hb
 refine(gp (λi=>(a,b,ms,(ms.length:Int),(i:Int),s,o,(ms.take i).filter (λm=>o.2.2.2.1.contains m.1),())) (λ_=>none) (fin (a,b,ms,(ms.length:Int),(ms.length:Int),s,o,ms.filter (λm=>o.2.2.2.1.contains m.1),())) (m:=ms.length) (by simp) (by omega) ?_ ?_).trans (ko (λ_ _ _=>rfl))
 ·intro L i hi _
  have ht:ms.take (i+1)=ms.take i++[ms[i]]:=by simp
  have hl:((ms.take i).filter λm=>o.2.2.2.1.contains m.1).length<=i:=nC (q8 _ _) (by simp;omega)
  simp only[hB,eB,hi,bG,aQ,bU hi,ku hi,contains ho hn,aG,dL hi (by omega),gL,ht,xX]
  cases hc:o.2.2.2.1.contains ms[i].1 with
  |false=>rw[aC qW,OC (p:=λm:cK=>o.2.2.2.1.contains m.1) hc,iq]
  |true=>rw[aj rfl,aj (by omega),one_pos (p:=λm:cK=>o.2.2.2.1.contains m.1) hc]
 ·intro L _
  simp only[hB,qz,cO,bg,aZ,pY]
def OX(b:Bx):Prop:=(0<=b.2.2.1/\b.2.2.1<=1000)/\b.2.2.2.1.length<=6
def yz(s:cu)(i k:Nat)(o:OpC):List Int×Int×cu×Unit:=
 if(s.2.1.getD k dB).2.2.2.1.length+(eT o (s.2.1.getD i dB)).length>6 then([],10,s,())else
 if(s.2.1.getD k dB).2.2.1+((eT o (s.2.1.getD i dB)).length:Int)>1000 then([],10,s,())else
 (vD (s.2.1.getD k dB) (eT o (s.2.1.getD i dB)).length,0,(s.1,if o.1=6 then(s.2.1.set k (jW (s.2.1.getD k dB) (eT o (s.2.1.getD i dB)))).set i (adX o (s.2.1.getD i dB))else s.2.1.set k (jW (s.2.1.getD k dB) (eT o (s.2.1.getD i dB))),()),())
def carried(s:cu)(i:Nat)(o:OpC):List Int×Int×cu×Unit:=
 if oZ s o.2.2.1<0 then([],4,s,())else if o.1=6/\oZ s o.2.2.1=(i:Int)then([],9,s,())else yz s i (oZ s o.2.2.1).toNat o
theorem kP{A:Type}{xs:List A}{k:Nat}(h:k<xs.length)(d:A):xs.getD k d∈xs:=by
 rw[getD_lt h];exact iC h
theorem apI{n:Nat}{s:cu}{i:Nat}{o:OpC}(hs:iK s)(ho:okO o)(hsm:∀b∈s.2.1,OX b)(hi:i<s.2.1.length)(hn:big<n):Mk n s (i:Int) o=some (carried s i o):=by
 unfold Mk carried
 rw[Om hs.1 hn]
 simp only[aG]
 rcases yU s o.2.2.1 with h|⟨k,h,hk⟩
 ·rw[h];rfl
 ·rw[h]
  have h0:¬((k:Int)<0):=by omega
  rw[g_ h0,aC qW,aC h0]
  have hA:=hsm _ (kP hi dB)
  have hK:=hsm _ (kP hk dB)
  have xA:=hs.2 _ (kP hi dB)
  have hKo:=hs.2 _ (kP hk dB)
  have hT:(eT o (s.2.1.getD i dB)).length<=6:=nC (q8 _ _) hA.2
  have Jf:∀m∈eT o (s.2.1.getD i dB),lG m:=λm hm=>xA.2.2 m (eH.1 hm).1
  have hK2:=hK.2
  have hK1:=hK.1
  by_cases h6:o.1=6
  ·rw[gQ h6,aj rfl]
   by_cases he:(k:Int)=(i:Int)
   ·rw[gQ he,aj rfl,aj ⟨h6,he⟩]
   ·rw[g_ he,aC qW,aC (show ¬(o.1=6/\(k:Int)=(i:Int))from λh=>he h.2),aj (bU hi)]
    simp only[dA,Ud xA hn,aG,aeE xA.2.1 ho.2.2.1 hn,aj (bU hk)]
    unfold yz
    have w1:IntKind.i64.wrap (((s.2.1.getD k dB).2.2.2.1.length:Int)+((eT o (s.2.1.getD i dB)).length:Int))=((s.2.1.getD k dB).2.2.2.1.length:Int)+((eT o (s.2.1.getD i dB)).length:Int):=wrap_i64 (by omega) (by omega)
    have w2:IntKind.i64.wrap ((s.2.1.getD k dB).2.2.1+((eT o (s.2.1.getD i dB)).length:Int))=(s.2.1.getD k dB).2.2.1+((eT o (s.2.1.getD i dB)).length:Int):=wrap_i64 (by omega) (by omega)
    simp only[w1,w2]
    by_cases c1:(s.2.1.getD k dB).2.2.2.1.length+(eT o (s.2.1.getD i dB)).length>6
    ·have c1':((s.2.1.getD k dB).2.2.2.1.length:Int)+((eT o (s.2.1.getD i dB)).length:Int)>6:=by omega
     simp only[c1,c1',bG,aQ]
    ·have c1':¬(((s.2.1.getD k dB).2.2.2.1.length:Int)+((eT o (s.2.1.getD i dB)).length:Int)>6):=by omega
     simp only[c1,c1',cO,bg,aZ]
     by_cases c2:(s.2.1.getD k dB).2.2.1+((eT o (s.2.1.getD i dB)).length:Int)>1000
     ·simp only[c2,bG,aQ]
     ·simp only[c2,cO,bg,aZ]
      refine(Zy (s:=s) (k:=k) (l:=eT o (s.2.1.getD i dB)) (b:=s.2.1.getD k dB) (λ_ _=>rfl) hk rfl Jf hT hK1.1 hK1.2 hK2 hn).trans ?_
      have hi2:i<(s.2.1.set k (jW (s.2.1.getD k dB) (eT o (s.2.1.getD i dB)))).length:=by simpa using hi
      simp only[h6,bG,aQ,aj (bU hi2),dA]
  ·rw[g_ h6,aC qW,aC (show ¬(o.1=6/\(k:Int)=(i:Int))from λh=>h6 h.1),aj (bU hi)]
   simp only[dA,Ud xA hn,aG,aeE xA.2.1 ho.2.2.1 hn,aj (bU hk)]
   unfold yz
   have w1:IntKind.i64.wrap (((s.2.1.getD k dB).2.2.2.1.length:Int)+((eT o (s.2.1.getD i dB)).length:Int))=((s.2.1.getD k dB).2.2.2.1.length:Int)+((eT o (s.2.1.getD i dB)).length:Int):=wrap_i64 (by omega) (by omega)
   have w2:IntKind.i64.wrap ((s.2.1.getD k dB).2.2.1+((eT o (s.2.1.getD i dB)).length:Int))=(s.2.1.getD k dB).2.2.1+((eT o (s.2.1.getD i dB)).length:Int):=wrap_i64 (by omega) (by omega)
   simp only[w1,w2]
   by_cases c1:(s.2.1.getD k dB).2.2.2.1.length+(eT o (s.2.1.getD i dB)).length>6
   ·have c1':((s.2.1.getD k dB).2.2.2.1.length:Int)+((eT o (s.2.1.getD i dB)).length:Int)>6:=by omega
    simp only[c1,c1',bG,aQ]
   ·have c1':¬(((s.2.1.getD k dB).2.2.2.1.length:Int)+((eT o (s.2.1.getD i dB)).length:Int)>6):=by omega
    simp only[c1,c1',cO,bg,aZ]
    by_cases c2:(s.2.1.getD k dB).2.2.1+((eT o (s.2.1.getD i dB)).length:Int)>1000
    ·simp only[c2,bG,aQ]
    ·simp only[c2,cO,bg,aZ]
     refine(Zy (s:=s) (k:=k) (l:=eT o (s.2.1.getD i dB)) (b:=s.2.1.getD k dB) (λ_ _=>rfl) hk rfl Jf hT hK1.1 hK1.2 hK2 hn).trans ?_
     simp only[h6,cO,bg,aZ]
theorem getD_set_ne{A:Type}{xs:List A}{i k:Nat}(h:k≠i)(y d:A):(xs.set k y).getD i d=xs.getD i d:=by
 rw[iR,iR,List.getElem?_set_ne h]
theorem alv{n:Nat}{ms:List cK}{o:OpC}(hb:ms.length<=big)(ho:o.2.2.2.1.length<=big)(hn:big<n) :
  zn n ms o=some (((ms.filter λm=>!o.2.2.2.1.contains m.1).length:Int),(ms.filter λm=>!o.2.2.2.1.contains m.1)++List.replicate (ms.length-(ms.filter λm=>!o.2.2.2.1.contains m.1).length) dM,()):=by
 unfold big at hb ho hn
 show nA.Dm n ms o=_
 unfold nA.Dm
 rw[aj ⟨by omega,by omega,by omega,by omega⟩]
 rfl
theorem copied{n:Nat}{s:cu}{i:Nat}{o:OpC}(hs:iK s)(ho:okO o)(hsm:∀b∈s.2.1,OX b)(hi:i<s.2.1.length)(hn:big<n):K5 n s (i:Int) o=some (carried s i o):=by
 unfold K5 carried
 rw[box hs.1 hn]
 simp only[aG]
 rcases yU s o.2.2.1 with h|⟨k,h,hk⟩
 ·rw[h];rfl
 ·rw[h]
  have h0:¬((k:Int)<0):=by omega
  rw[g_ h0,aC qW,aC h0]
  have hA:=hsm _ (kP hi dB)
  have hK:=hsm _ (kP hk dB)
  have xA:=hs.2 _ (kP hi dB)
  have hKo:=hs.2 _ (kP hk dB)
  have hT:(eT o (s.2.1.getD i dB)).length<=6:=nC (q8 _ _) hA.2
  have Jf:∀m∈eT o (s.2.1.getD i dB),lG m:=λm hm=>xA.2.2 m (eH.1 hm).1
  have hK2:=hK.2
  have hK1:=hK.1
  have w1:IntKind.i64.wrap (((s.2.1.getD k dB).2.2.2.1.length:Int)+((eT o (s.2.1.getD i dB)).length:Int))=((s.2.1.getD k dB).2.2.2.1.length:Int)+((eT o (s.2.1.getD i dB)).length:Int):=wrap_i64 (by omega) (by omega)
  have w2:IntKind.i64.wrap ((s.2.1.getD k dB).2.2.1+((eT o (s.2.1.getD i dB)).length:Int))=(s.2.1.getD k dB).2.2.1+((eT o (s.2.1.getD i dB)).length:Int):=wrap_i64 (by omega) (by omega)
  have hlist:(s.2.1.getD i dB).2.2.2.1.filter (λm=>o.2.2.2.1.contains m.1)=eT o (s.2.1.getD i dB):=rfl
  by_cases h6:o.1=6
  ·rw[gQ h6,aj rfl]
   by_cases he:(k:Int)=(i:Int)
   ·rw[gQ he,aj rfl,aj ⟨h6,he⟩]
   ·rw[g_ he,aC qW,aC (show ¬(o.1=6/\(k:Int)=(i:Int))from λh=>he h.2),aj (bU hi)]
    simp only[dA]
    refine(abT (s:=s) (o:=o) (a:=(i:Int)) (b:=(k:Int)) (ms:=(s.2.1.getD i dB).2.2.2.1) (λ_ _=>rfl) xA.2.1 ho.2.2.1 hn).trans ?_
    simp only[aj (bU hk),dA,hlist,w1]
    unfold yz
    by_cases c1:(s.2.1.getD k dB).2.2.2.1.length+(eT o (s.2.1.getD i dB)).length>6
    ·have c1':((s.2.1.getD k dB).2.2.2.1.length:Int)+((eT o (s.2.1.getD i dB)).length:Int)>6:=by omega
     simp only[c1,c1',bG,aQ]
    ·have c1':¬(((s.2.1.getD k dB).2.2.2.1.length:Int)+((eT o (s.2.1.getD i dB)).length:Int)>6):=by omega
     have hlen:GN n (eT o (s.2.1.getD i dB))=some (((eT o (s.2.1.getD i dB)).length:Int),()):=rfl
     simp only[c1,c1',cO,bg,aZ,hlen,aG,w2]
     by_cases c2:(s.2.1.getD k dB).2.2.1+((eT o (s.2.1.getD i dB)).length:Int)>1000
     ·simp only[c2,bG,aQ]
     ·simp only[c2,cO,bg,aZ]
      refine(Zx (s:=s) (k:=k) (l:=eT o (s.2.1.getD i dB)) (b:=s.2.1.getD k dB) (λ_ _=>rfl) hk rfl Jf hT hK1.1 hK1.2 hK2 hn).trans ?_
      have hki:k≠i:=λh=>he (by omega)
      have hi2:i<(s.2.1.set k (jW (s.2.1.getD k dB) (eT o (s.2.1.getD i dB)))).length:=by simpa using hi
      simp only[h6,bG,aQ,aj (bU hi2),dA,bY,getD_set_ne hki,alv xA.2.1 ho.2.2.1 hn,aG,List.set_set,xK hi2,List.take_left']
      rfl
  ·rw[g_ h6,aC qW,aC (show ¬(o.1=6/\(k:Int)=(i:Int))from λh=>h6 h.1),aj (bU hi)]
   simp only[dA]
   refine(abT (s:=s) (o:=o) (a:=(i:Int)) (b:=(k:Int)) (ms:=(s.2.1.getD i dB).2.2.2.1) (λ_ _=>rfl) xA.2.1 ho.2.2.1 hn).trans ?_
   simp only[aj (bU hk),dA,hlist,w1]
   unfold yz
   by_cases c1:(s.2.1.getD k dB).2.2.2.1.length+(eT o (s.2.1.getD i dB)).length>6
   ·have c1':((s.2.1.getD k dB).2.2.2.1.length:Int)+((eT o (s.2.1.getD i dB)).length:Int)>6:=by omega
    simp only[c1,c1',bG,aQ]
   ·have c1':¬(((s.2.1.getD k dB).2.2.2.1.length:Int)+((eT o (s.2.1.getD i dB)).length:Int)>6):=by omega
    have hlen:GN n (eT o (s.2.1.getD i dB))=some (((eT o (s.2.1.getD i dB)).length:Int),()):=rfl
    simp only[c1,c1',cO,bg,aZ,hlen,aG,w2]
    by_cases c2:(s.2.1.getD k dB).2.2.1+((eT o (s.2.1.getD i dB)).length:Int)>1000
    ·simp only[c2,bG,aQ]
    ·simp only[c2,cO,bg,aZ]
     refine(Zx (s:=s) (k:=k) (l:=eT o (s.2.1.getD i dB)) (b:=s.2.1.getD k dB) (λ_ _=>rfl) hk rfl Jf hT hK1.1 hK1.2 hK2 hn).trans ?_
     simp only[h6,cO,bg,aZ]
abbrev oG:=Int×List Int×cu×Unit
def bad(c:Int):oG:=(c,[],(0,[],()),())
def yO(s:cu)(o:OpC):List Int×Int×cu×Unit:=
 if oZ s o.2.1>=0 then([],6,s,())else if s.2.1.length=3 then([],10,s,())else if s.1=1000 then([],10,s,())else([],0,(s.1+1,s.2.1++[(o.2.1,s.1,1,[],())],()),())
def IG(s:cu)(i:Nat)(o:OpC):List Int×Int×cu×Unit:=
 if(s.2.1.getD i dB).2.2.2.1.length=6 then([],10,s,())else if(s.2.1.getD i dB).2.2.1=1000 then([],10,s,())else
  ([(s.2.1.getD i dB).2.2.1],0,(s.1,s.2.1.set i (om (s.2.1.getD i dB) (0,o.2.2.2.2.2.1,o.2.2.2.2.2.2.1,o.2.2.2.2.2.2.2.1,())),()),())
def Ki(s:cu)(i:Nat)(o:OpC):List Int×Int×cu×Unit:=
 if o.1=2 then([],0,(s.1,s.2.1.take i++s.2.1.drop (i+1),()),())else
 if o.1=3 then IG s i o else
 if o.1=4 then(EE o (s.2.1.getD i dB),0,(s.1,s.2.1.set i (Ck o (s.2.1.getD i dB)),()),())else
 if o.1=7 then(Sn (s.2.1.getD i dB),0,(s.1,s.2.1.set i (Ue (s.2.1.getD i dB)),()),())else carried s i o
def qG(s:cu)(o:OpC):List Int×Int×cu×Unit:=
 if o.1=1 then yO s o else if oZ s o.2.1<0 then([],4,s,())else Ki s (oZ s o.2.1).toNat o
def oq(r:List Int×Int×cu×Unit):oG:=if r.2.1=0 then(0,r.1,r.2.2.1,())else bad r.2.1
structure Fit(s:cu)(o:OpC):Prop where
 iK:iK s
 okO:okO o
 val:1<=s.1/\s.1<=1000
 few:s.2.1.length<=3
 small:∀b∈s.2.1,OX b
 mode:o.1=4->1<=o.2.2.2.2.1/\o.2.2.2.2.1<=3
theorem made{n:Nat}{s:cu}{o:OpC}(h:Fit s o)(hn:big<n):K6 n s o.2.1=some ((yO s o).2.1,(yO s o).2.2.1,())/\(yO s o).1=[]:=by
 have hf:=h.few
 have hv:=h.val
 unfold K6 yO
 rw[box h.iK.1 hn]
 simp only[aG]
 by_cases c0:oZ s o.2.1>=0
 ·simp only[c0,bG,aQ,and_self]
 ·simp only[c0,cO,bg,aZ]
  by_cases c1:s.2.1.length=3
  ·simp only[c1,aQ]
   exact⟨rfl,trivial⟩
  ·have:¬(s.2.1.length:Int)=3:=by omega
   simp only[c1,this,cO,bg,aZ]
   by_cases c2:s.1=1000
   ·simp only[c2,bG,aQ,and_self]
   ·simp only[c2,cO,bg,aZ,gL,fM]
    rw[aj (by omega),wrap_i64 (by omega) (by omega)]
theorem apJ{n:Nat}{s:cu}{o:OpC}(h:Fit s o)(hn:big<n):Mq n s o=some (oq (yO s o),()):=by
 have hf:=h.few
 have hv:=h.val
 unfold Mq yO
 rw[Om h.iK.1 hn]
 simp only[aG]
 by_cases c0:oZ s o.2.1>=0
 ·simp only[c0,bG,aQ];rfl
 ·simp only[c0,cO,bg,aZ]
  by_cases c1:s.2.1.length=3
  ·have:(s.2.1.length:Int)>=3:=by omega
   simp only[c1,this,bG,aQ];rfl
  ·have:¬(s.2.1.length:Int)>=3:=by omega
   simp only[c1,this,cO,bg,aZ]
   by_cases c2:s.1=1000
   ·have:s.1>=1000:=by omega
    simp only[c2,bG,aQ];rfl
   ·have:¬s.1>=1000:=by omega
    simp only[c2,this,cO,bg,aZ,Oo h.iK hn,aG,gL]
    rw[aj (by omega),wrap_i64 (by omega) (by omega)]
    rfl
theorem UD{o:OpC}(ho:okO o):lG (0,o.2.2.2.2.2.1,o.2.2.2.2.2.2.1,o.2.2.2.2.2.2.2.1,()):=ho.2.2.2
theorem akC{n:Nat}{s:cu}{o:OpC}(h:Fit s o)(hn:big<n):K4 n s o=some (qG s o):=by
 unfold K4 qG
 by_cases k1:o.1=1
 ·obtain⟨h1,h2⟩:=made h hn
  simp only[k1,bG,aQ,h1,aG]
  rw[<-h2]
 ·simp only[k1,cO,bg,aZ,box h.iK.1 hn,aG]
  rcases yU s o.2.1 with hp|⟨i,hp,hi⟩
  ·rw[hp];rfl
  ·rw[hp]
   have h0:¬((i:Int)<0):=by omega
   simp only[h0,cO,bg,aZ,aj (bU hi),dA]
   have hB:=h.small _ (kP hi dB)
   have rC:=h.iK.2 _ (kP hi dB)
   have hB1:=hB.1
   have hB2:=hB.2
   have hf:=h.few
   unfold Ki
   by_cases k2:o.1=2
   ·have hw:IntKind.i64.wrap ((i:Int)+1)=((i+1:Nat):Int):=dL hi (by omega)
    have hdel:DJ n s.2.1 (i:Int) ((i+1:Nat):Int)=some (((s.2.1.length-1:Nat):Int),s.2.1.take i++s.2.1.drop (i+1)++[dB],()):=by
     show nA.vT dB s.2.1 (i:Int) ((i+1:Nat):Int)=_
     unfold nA.vT
     rw[aj ⟨by omega,by omega,by omega⟩]
     simp only[dA,Nat.add_sub_cancel_left]
     rfl
    have hl:(s.2.1.take i++s.2.1.drop (i+1)).length=s.2.1.length-1:=by simp;omega
    simp only[k2,bG,aQ,hw,hdel,aG,dA]
    rw[<-hl,List.take_left']
    rfl
   ·simp only[k2,cO,bg,aZ]
    by_cases k3:o.1=3
    ·simp only[k3,bG,aQ]
     unfold IG
     by_cases c1:(s.2.1.getD i dB).2.2.2.1.length=6
     ·simp only[c1,aQ]
      rfl
     ·have:¬((s.2.1.getD i dB).2.2.2.1.length:Int)=6:=by omega
      simp only[c1,this,cO,bg,aZ]
      by_cases c2:(s.2.1.getD i dB).2.2.1=1000
      ·simp only[c2,bG,aQ]
      ·have hput:=adN (n:=n) (b:=s.2.1.getD i dB) (UD h.okO) (by omega) (by omega) (by omega)
       simp only[c2,cO,bg,aZ,hput,aG]
    ·simp only[k3,cO,bg,aZ]
     by_cases k4:o.1=4
     ·simp only[k4,bG,aQ,amY rC.2.1 h.okO.2.2.1 hn (h.mode k4),aG]
     ·simp only[k4,cO,bg,aZ]
      by_cases k7:o.1=7
      ·simp only[k7,bG,aQ,aq7 rC.2.1 hn,aG]
      ·simp only[k7,cO,bg,aZ,copied h.iK h.okO h.small hi hn,aG]
theorem anc{n:Nat}{ms:List cK}{r0:oG}{st:cu}{c:Int}{B:(Int×oG×oG×List cK×Unit->Option (oG×Unit))->Int×oG×oG×List cK×Unit->Option (oG×Unit)}
  (hB:∀L v,B L v=(if decide (v.1<(v.2.2.2.1.length:Int))=true then(if aF v.1 v.2.2.2.1.length then(if(v.2.2.1.2.1.length+[(v.2.2.2.1.getD v.1.toNat dM).1].length)*8<=140737488355328 then L (IntKind.i64.wrap (v.1+(1:Int)),v.2.1,(v.2.2.1.1,v.2.2.1.2.1++[(v.2.2.2.1.getD v.1.toNat dM).1],v.2.2.1.2.2),v.2.2.2.1,())else none)else none)else some (v.2.2.1,())))
  (hb:ms.length<=big) (hn:big<n):rounds B n ((0:Int),r0,(c,[],st,()),ms,())=some ((c,ms.map (·.1),st,()),()):=by
 have hb':ms.length<=1048576:=hb
 refine(gp (λi=>((i:Int),r0,(c,(ms.take i).map (·.1),st,()),ms,())) (λ_=>none) (some ((c,ms.map (·.1),st,()),())) (m:=ms.length) (by simp) (by omega) ?_ ?_).trans (ko (λ_ _ _=>rfl))
 ·intro L i hi _
  have ht:ms.take (i+1)=ms.take i++[ms[i]]:=by simp
  have hl:((ms.take i).map (·.1)).length<=i:=by simp;omega
  simp only[hB,eB,hi,bG,aQ,bU hi,ku hi,dL hi (by omega),gL,ht,q9,kZ,List.map_nil]
  rw[aj (by omega)]
 ·intro L _
  simp only[hB,qz,cO,bg,aZ,pY]
theorem akD{n:Nat}{s:cu}{o:OpC}(h:Fit s o)(hn:big<n):Mj n s o=some (oq (qG s o),()):=by
 unfold Mj qG
 by_cases k1:o.1=1
 ·simp only[k1,bG,aQ,apJ h hn,aG]
 ·simp only[k1,cO,bg,aZ,Om h.iK.1 hn,aG]
  rcases yU s o.2.1 with hp|⟨i,hp,hi⟩
  ·rw[hp];rfl
  ·rw[hp]
   have h0:¬((i:Int)<0):=by omega
   simp only[h0,cO,bg,aZ,Oo h.iK hn,aG,aj (bU hi),dA]
   have hB:=h.small _ (kP hi dB)
   have rC:=h.iK.2 _ (kP hi dB)
   have hB1:=hB.1
   have hB2:=hB.2
   have hf:=h.few
   unfold Ki
   by_cases k2:o.1=2
   ·have hw:IntKind.i64.wrap ((i:Int)+1)=((i+1:Nat):Int):=dL hi (by omega)
    simp only[k2,bG,aQ,hw,dA]
    rw[aj ⟨by omega,by omega,by omega⟩,aj ⟨by first|trivial|rfl,by first|trivial|rfl,by omega⟩,aj ⟨by omega,by omega,by omega⟩,aj ⟨by omega,by omega,by first|trivial|rfl,by first|trivial|rfl,by omega⟩]
    rfl
   ·simp only[k2,cO,bg,aZ]
    by_cases k3:o.1=3
    ·simp only[k3,bG,aQ]
     unfold IG
     by_cases c1:(s.2.1.getD i dB).2.2.2.1.length=6
     ·have:((s.2.1.getD i dB).2.2.2.1.length:Int)>=6:=by omega
      simp only[c1,this,bG,aQ];rfl
     ·have:¬((s.2.1.getD i dB).2.2.2.1.length:Int)>=6:=by omega
      simp only[c1,this,cO,bg,aZ]
      by_cases c2:(s.2.1.getD i dB).2.2.1=1000
      ·have:(s.2.1.getD i dB).2.2.1>=1000:=by omega
       simp only[c2,this,bG,aQ];rfl
      ·have:¬(s.2.1.getD i dB).2.2.1>=1000:=by omega
       have hput:=adO (n:=n) (b:=s.2.1.getD i dB) (UD h.okO) (by omega) (by omega) (by omega)
       simp only[c2,this,cO,bg,aZ,hput,aG]
       rfl
    ·simp only[k3,cO,bg,aZ]
     by_cases k4:o.1=4
     ·simp only[k4,bG,aQ,amZ rC.2.1 h.okO.2.2.1 hn,aG]
      rfl
     ·simp only[k4,cO,bg,aZ]
      by_cases k7:o.1=7
      ·simp only[k7,bG,aQ,atb rC.2.1 hn,aG]
       exact anc (λ_ _=>rfl) (nC (q8 _ _) rC.2.1) hn
      ·simp only[k7,cO,bg,aZ,apI h.iK h.okO h.small hi hn,aG]
       unfold oq
       by_cases c:(carried s i o).2.1=0
       ·simp only[c,bG,fK,bg,aZ,aQ]
       ·simp only[c,cO,jf,aQ,aZ];rfl
theorem copies{n:Nat}(k:Int):Bt n k=some (decide (k=5)||decide (k=6),()):=by
 unfold Bt
 cases decide (k=5)<;>rfl
theorem SX{n:Nat}(o:OpC):GH n o=some (decide (o.1=5)||decide (o.1=6),()):=copies (n:=n) o.1
theorem anI{n:Nat}(o:OpC):GI n o=some ((decide (o.1=5)||decide (o.1=6))||decide (o.1=4),()):=by
 unfold GI
 rw[SX]
 simp only[aG]
 cases(decide (o.1=5)||decide (o.1=6))<;>rfl
theorem anf(k:Nat):decide ((k:Int)>0)=!decide ((k:Int)=0):=by
 by_cases h:k=0
 ·subst h;rfl
 ·rw[gQ (by omega),g_ (by omega)];rfl
def vV(o:OpC):Bool:=(((decide (o.1=5)||decide (o.1=6))||decide (o.2.2.1=[]))&&((((decide (o.1=5)||decide (o.1=6))||decide (o.1=4))||decide ((o.2.2.2.1.length:Int)=0))&&((decide (o.1=4)||decide (o.2.2.2.2.1=0)) &&
 ((decide (o.1=4)||(decide (o.1=3)||decide (o.2.2.2.2.2.1=0)))&&(decide (o.1=3)||(decide (o.2.2.2.2.2.2.1=0)&&decide ((o.2.2.2.2.2.2.2.1.length:Int)=0)))))))
set_option maxRecDepth 20000 in
theorem only{n:Nat}(o:OpC):KY n o=some (vV o,()):=by
 unfold KY vV
 simp only[SX,anI,aG]
 generalize (decide (o.1=5)||decide (o.1=6))=c
 generalize decide (o.2.2.1=[])=b1
 generalize decide (o.1=4)=b2
 generalize decide ((o.2.2.2.1.length:Int)=0)=b3
 generalize decide (o.2.2.2.2.1=0)=b4
 generalize decide (o.1=3)=b5
 generalize decide (o.2.2.2.2.2.1=0)=b6
 generalize decide (o.2.2.2.2.2.2.1=0)=b7
 generalize decide ((o.2.2.2.2.2.2.2.1.length:Int)=0)=b8
 revert c b1 b2 b3 b4 b5 b6 b7 b8
 decide +kernel
set_option maxRecDepth 20000 in
theorem form{n:Nat}(o:OpC):Mo n o=some (decide (1<=o.1/\o.1<=7)&&vV o,()):=by
 unfold Mo vV
 simp only[ql,copies,aG,anf]
 generalize (decide (o.1=5)||decide (o.1=6))=c
 generalize decide (o.2.2.1=[])=b1
 generalize decide (o.1=4)=b2
 generalize decide ((o.2.2.2.1.length:Int)=0)=b3
 generalize decide (o.2.2.2.2.1=0)=b4
 generalize decide (o.1=3)=b5
 generalize decide (o.2.2.2.2.2.1=0)=b6
 generalize decide (o.2.2.2.2.2.2.1=0)=b7
 generalize decide ((o.2.2.2.2.2.2.2.1.length:Int)=0)=b8
 generalize decide (1<=o.1/\o.1<=7)=b9
 revert c b1 b2 b3 b4 b5 b6 b7 b8 b9
 decide +kernel
def sD(us:List Int)(j:Nat):Bool:=!decide (1<=us.getD j 0/\us.getD j 0<=999)||(decide ((j:Int)>0)&&decide (us.getD j 0<=us.getD (j-1) 0))
theorem aeL{n:Nat}{us:List Int}(hb:us.length<=big)(hn:big<n):DL n us=fJ (λj=>if sD us j=true then some (some (false,()))else none) (some (true,())) us.length 0:=by
 have hb':us.length<=1048576:=hb
 unfold DL
 refine gp (λi=>(us,(i:Int),())) (λj=>if sD us j=true then some (some (false,()))else none) (some (true,())) (m:=us.length) rfl (by omega) ?_ ?_
 ·intro L i hi _
  simp only[eB,hi,bG,aQ,bU hi,dA,ql,aG,dL hi (by omega)]
  unfold sD
  cases h1:decide (1<=us.getD i 0/\us.getD i 0<=999)with
  |false=>rfl
  |true=>
   cases i with
   |zero=>rfl
   |succ j=>
    have hj:j<us.length:=by omega
    rw[gQ (show((j+1:Nat):Int)>0 by omega),VE hj (by omega)]
    simp only[bU hj,aQ,dA,Nat.add_sub_cancel,fK,bg,aZ,Gj,xO]
    by_cases hle:us.getD (j+1) 0<=us.getD j 0
    ·simp only[hle,bG,aQ]
    ·simp only[hle,cO,bg,aZ]
 ·intro L _
  simp
theorem aeK{n:Nat}{us:List Int}(hb:us.length<=big)(hn:big<n):Dr n us=fJ (λj=>if sD us j=true then some (some (false,()))else none) (some (true,())) us.length 0:=by
 have hb':us.length<=1048576:=hb
 unfold Dr
 refine gp (λi=>(us,us,(us.length:Int),(i:Int),())) (λj=>if sD us j=true then some (some (false,()))else none) (some (true,())) (m:=us.length) rfl (by omega) ?_ ?_
 ·intro L i hi _
  have hu:Dt n (us.getD i 0)=some (decide (1<=us.getD i 0/\us.getD i 0<=999),()):=by
   unfold Dt
   rw[wM,ql];rfl
  simp only[eB,hi,bG,aQ,bU hi,dA,hu,aG,dL hi (by omega)]
  unfold sD
  cases h1:decide (1<=us.getD i 0/\us.getD i 0<=999)with
  |false=>rfl
  |true=>
   cases i with
   |zero=>rfl
   |succ j=>
    have hj:j<us.length:=by omega
    rw[gQ (show((j+1:Nat):Int)>0 by omega),VE hj (by omega)]
    simp only[bU hj,aQ,dA,Nat.add_sub_cancel,fK,bg,aZ,Gj,xO,ge_iff_le]
    cases decide (us.getD (j+1) 0<=us.getD j 0)<;>rfl
 ·intro L _
  simp
def tF(us:List Int):Bool:=((fJ (λj=>if sD us j=true then some (some (false,()))else none) (some (true,())) us.length 0).getD (false,())).1
theorem F_(us:List Int):fJ (λj=>if sD us j=true then some (some (false,()))else none) (some (true,())) us.length 0=some (tF us,()):=by
 unfold tF
 rcases aab (step:=λj=>if sD us j=true then some (some (false,()))else none) (fin:=some (true,())) (r:=some (false,())) (λj=>by by_cases h:sD us j=true<;>simp[h]) (m:=us.length) (i:=0)with h|h<;>rw[h]<;>rfl
def lQ(o:OpC):Int:=
 if(!(decide (1<=o.1/\o.1<=7)&&vV o))=true then 1 else
 if(!decide (ni o.2.1)||((decide (o.1=5)||decide (o.1=6)) && !decide (ni o.2.2.1)))=true then 5 else
 if decide ((o.2.2.2.1.length:Int)>6)=true then 2 else
 if(!tF o.2.2.2.1||(decide (o.1=4) && !decide (1<=o.2.2.2.2.1/\o.2.2.2.2.1<=3)) || !decide (0<=o.2.2.2.2.2.1/\o.2.2.2.2.2.1<=15) || !decide (0<=o.2.2.2.2.2.2.1/\o.2.2.2.2.2.2.1<=9999))=true then 3 else
 if decide ((o.2.2.2.2.2.2.2.1.length:Int)>400)=true then 2 else 0
set_option maxRecDepth 20000 in
theorem Sd{n:Nat}{o:OpC}(ho:okO o)(hn:big<n):HZ n o=some (lQ o,()):=by
 unfold HZ lQ
 simp only[form,(name_eq ho.1 hn).2,(name_eq ho.2.1 hn).2,copies,ql,aeL ho.2.2.1 hn,F_,aG]
 generalize (decide (1<=o.1/\o.1<=7)&&vV o)=b0
 generalize decide (ni o.2.1)=b1
 generalize (decide (o.1=5)||decide (o.1=6))=b2
 generalize decide (ni o.2.2.1)=b3
 generalize decide ((o.2.2.2.1.length:Int)>6)=b4
 generalize tF o.2.2.2.1=b5
 generalize decide (o.1=4)=b6
 generalize decide (1<=o.2.2.2.2.1/\o.2.2.2.2.1<=3)=b7
 generalize decide (0<=o.2.2.2.2.2.1/\o.2.2.2.2.2.1<=15)=b8
 generalize decide (0<=o.2.2.2.2.2.2.1/\o.2.2.2.2.2.2.1<=9999)=b9
 generalize decide ((o.2.2.2.2.2.2.2.1.length:Int)>400)=c
 revert b0 b1 b2 b3 b4 b5 b6 b7 b8 b9 c
 decide +kernel
set_option maxRecDepth 20000 in
theorem Z7{n:Nat}{o:OpC}(ho:okO o)(hn:big<n):GG n o=some (lQ o,()):=by
 have hfl:∀x,xR n x=some (decide (0<=x/\x<=15),()):=λx=>by unfold xR;rw[wM,ql];rfl
 have hda:∀x,xS n x=some (decide (0<=x/\x<=9999),()):=λx=>by unfold xS;rw[wM,ql];rfl
 unfold GG lQ
 simp only[only,(name_eq ho.1 hn).1,(name_eq ho.2.1 hn).1,SX,wM,ql,aeK ho.2.2.1 hn,F_,hfl,hda,aG]
 generalize vV o=b0
 generalize decide (1<=o.1/\o.1<=7)=a0
 generalize decide (ni o.2.1)=b1
 generalize (decide (o.1=5)||decide (o.1=6))=b2
 generalize decide (ni o.2.2.1)=b3
 generalize decide ((o.2.2.2.1.length:Int)>6)=b4
 generalize tF o.2.2.2.1=b5
 generalize decide (o.1=4)=b6
 generalize decide (1<=o.2.2.2.2.1/\o.2.2.2.2.1<=3)=b7
 generalize decide (0<=o.2.2.2.2.2.1/\o.2.2.2.2.2.1<=15)=b8
 generalize decide (0<=o.2.2.2.2.2.2.1/\o.2.2.2.2.2.2.1<=9999)=b9
 generalize decide ((o.2.2.2.2.2.2.2.1.length:Int)>400)=c
 revert a0 b0 b1 b2 b3 b4 b5 b6 b7 b8 b9 c
 decide +kernel
def J6(r:oG):Prop:=r.2.1.length<=big/\iK r.2.2.1
theorem OA(c:Int):J6 (bad c):=by
 refine⟨by simp[bad,big],by simp[bad,big],λb hb=>?_⟩
 simp[bad]at hb
theorem J7{s:cu}{i:Nat}{b:Bx}{v:Int}(hs:iK s)(hb:okB b):iK (v,s.2.1.set i b,()):=by
 refine⟨by simpa using hs.1,λx hx=>?_⟩
 rcases YI hx with h|rfl
 ·exact hs.2 x h
 ·exact hb
theorem acv{b:Bx}{p:cK->Bool}(h:okB b):okB (b.1,b.2.1,b.2.2.1,b.2.2.2.1.filter p,()):=
 ⟨h.1,nC (q8 _ _) h.2.1,λm hm=>h.2.2 m (eH.1 hm).1⟩
theorem ak5{s:cu}{i k:Nat}{o:OpC}(hs:iK s)(hsm:∀b∈s.2.1,OX b)(hi:i<s.2.1.length)(hk:k<s.2.1.length):(yz s i k o).1.length<=big/\iK (yz s i k o).2.2.1:=by
 have hT:(eT o (s.2.1.getD i dB)).length<=6:=nC (q8 _ _) (hsm _ (kP hi dB)).2
 have hK:=(hsm _ (kP hk dB)).2
 unfold yz
 split
 ·exact⟨by simp[big],hs⟩
 ·split
  ·exact⟨by simp[big],hs⟩
  ·have hP:okB (jW (s.2.1.getD k dB) (eT o (s.2.1.getD i dB))):=adM (hs.2 _ (kP hk dB)) (λm hm=>(hs.2 _ (kP hi dB)).2.2 m (eH.1 hm).1) (by unfold big;omega)
   refine⟨by rw[O5];unfold big;omega,?_⟩
   have h1:iK (s.1,s.2.1.set k (jW (s.2.1.getD k dB) (eT o (s.2.1.getD i dB))),()):=J7 hs hP
   by_cases h6:o.1=6
   ·simp only[h6,aQ]
    exact J7 (s:=(s.1,s.2.1.set k (jW (s.2.1.getD k dB) (eT o (s.2.1.getD i dB))),())) h1 (acv (hs.2 _ (kP hi dB)))
   ·simp only[h6,aZ]
    exact h1
theorem akB{s:cu}{o:OpC}(h:Fit s o):(qG s o).1.length<=big/\iK (qG s o).2.2.1:=by
 have hs:=h.iK
 have hf:=h.few
 unfold qG
 by_cases k1:o.1=1
 ·rw[aj k1]
  unfold yO
  split
  ·exact⟨by simp[big],hs⟩
  ·split
   ·exact⟨by simp[big],hs⟩
   ·split
    ·exact⟨by simp[big],hs⟩
    ·refine⟨by simp[big],?_,λb hb=>?_⟩
     ·simp[big];omega
     ·rcases dD.1 hb with hb|hb
      ·exact hs.2 b hb
      ·simp only[iD]at hb
       subst hb
       exact⟨h.okO.1,by simp[big],by simp⟩
 ·rw[aC k1]
  rcases yU s o.2.1 with hp|⟨i,hp,hi⟩
  ·rw[hp,aj (by decide)]
   exact⟨by simp[big],hs⟩
  ·rw[hp,aC (by omega),dA]
   have hB:=h.small _ (kP hi dB)
   have rC:=hs.2 _ (kP hi dB)
   have hB2:=hB.2
   unfold Ki
   split
   ·refine⟨by simp[big],?_,λb hb=>?_⟩
    ·simp[big];omega
    ·rcases dD.1 hb with hb|hb
     ·exact hs.2 b (MU hb)
     ·exact hs.2 b (List.mem_of_mem_drop hb)
   ·split
    ·unfold IG
     split
     ·exact⟨by simp[big],hs⟩
     ·split
      ·exact⟨by simp[big],hs⟩
      ·refine⟨by simp[big],J7 hs (adM (l:=[_]) rC (λm hm=>?_) (by simp only[gL];unfold big;omega))⟩
       simp only[iD]at hm
       subst hm
       exact UD h.okO
    ·split
     ·refine⟨?_,J7 hs ⟨rC.1,by simpa[Ck]using rC.2.1,λm hm=>?_⟩⟩
      ·unfold EE
       rw[nP]
       exact nC (q8 _ _) rC.2.1
      ·obtain⟨x,hx,rfl⟩:=fP.1 hm
       unfold kN
       split
       ·exact rC.2.2 x hx
       ·exact rC.2.2 x hx
     ·split
      ·refine⟨?_,J7 hs (acv rC)⟩
       unfold Sn
       rw[nP]
       exact nC (q8 _ _) rC.2.1
      ·unfold carried
       split
       ·exact⟨by simp[big],hs⟩
       ·split
        ·exact⟨by simp[big],hs⟩
        ·rename_i hneg _
         rcases yU s o.2.2.1 with hp2|⟨k,hp2,hk⟩
         ·rw[hp2]at hneg;exact absurd (by decide) hneg
         ·rw[hp2,dA]
          exact ak5 hs h.small hi hk
theorem ark{s:cu}{o:OpC}(h:Fit s o):J6 (oq (qG s o)):=by
 unfold oq
 split
 ·exact akB h
 ·exact OA _
theorem fit{s:cu}{o:OpC}(hs:iK s)(ho:okO o)(hg:uw s)(hf:lQ o=0):Fit s o:=by
 refine⟨hs,ho,hg.1,hg.2.1,λb hb=>?_,λh4=>?_⟩
 ·obtain⟨i,hi,rfl⟩:=qC.1 hb
  have:=(hg.2.2 i hi).1
  rw[getD_lt hi]at this
  obtain⟨_,_,h3,h4,_⟩:=this
  exact⟨⟨by omega,h3.2⟩,h4⟩
 ·unfold lQ at hf
  split at hf
  ·omega
  ·split at hf
   ·omega
   ·split at hf
    ·omega
    ·split at hf
     ·omega
     ·rename_i hc
      rw[gQ h4]at hc
      simp only[Bool.not_eq_true,za,xO]at hc
      have:=hc.1.1.2
      simpa using this
theorem akz{n:Nat}{s:cu}{o:OpC}(hs:iK s)(ho:okO o)(hg:uw s)(hn:big<n):∃r:oG,LZ n s o=some (r,())/\K9 n s o=some (r,())/\J6 r/\
  ((lQ o=0/\r=oq (qG s o))\/(lQ o≠0/\r=bad (lQ o))):=by
 obtain⟨he,c,hc,hgc⟩:=Sc hs hn
 have h0:=hgc.2 hg
 unfold LZ K9
 rw[hc]
 simp only[aG,h0,bG,fK,bg,aZ,Sd ho hn,Z7 ho hn]
 by_cases h1:lQ o=0
 ·have hF:=fit hs ho hg h1
  simp only[h1,bG,fK,bg,aZ,akD hF hn,own hs hn,akC hF hn,aG]
  refine⟨oq (qG s o),rfl,?_,ark hF,.inl ⟨trivial,rfl⟩⟩
  unfold oq
  by_cases h2:(qG s o).2.1=0
  ·simp only[h2,bG,fK,bg,aZ,aQ]
  ·simp only[h2,cO,jf,aQ,aZ]
   rfl
 ·refine⟨bad (lQ o),?_,?_,OA _,.inr ⟨h1,rfl⟩⟩
  ·simp only[h1,cO,jf,aQ];rfl
  ·simp only[h1,cO,jf,aQ];rfl
end Go.Proofs.YtplpeegfeajkkaaGreatDoor.nS
