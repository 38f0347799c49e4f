/- A function that takes rows out of a box and gives them: over owned rows, from the same over ids. No program in sight. -/
import Derived.Test.YtplpeegfeajkkaaGreatDoorPurgeLib
set_option linter.unusedVariables false
set_option linter.unusedSimpArgs false
namespace Go.Proofs.YtplpeegfeajkkaaGreatDoor.pq
open Go Ow r_
def zu(p:List Int->Int->Int->Int->Bool)(n:Nat)(a:List Int×Int×Int×List oH×Unit)(us:List Int)(fl:Int):Option (List oH×(List Int×Int×Int×List oH×Unit)×Unit):=
 if a.2.2.2.1.length*48<=140737488355328/\a.2.2.2.1.length<n/\us.length<=1048576/\us.length<n then
  some (a.2.2.2.1.filter (λx=>p us fl x.1 x.2.1),(a.1,a.2.1,a.2.2.1,a.2.2.2.1.filter (λx=>!p us fl x.1 x.2.1),()),())
 else none
abbrev CX(e m i:Nat):List aD:=[.rw (CL e m) [e,m] [4294967295] [m],.val (.sl i (.int .i64)) [],.val (.int .i64) []]
abbrev Ke(e m i:Nat):List aD:=[.rw (JI e m) [e,m] [4294967295,e] [m,4294967294],.val (.sl i (.int .i64)) [],.val (.int .i64) []]
abbrev UW(e m:Nat)(ow:List TypeId):List bN:=[.own (.sl m (Fv e)) ow [] []]
abbrev FW(e m:Nat):List bN:=[.own (.sl m (JK e)) [e,m] [] []]
theorem aq1{A:Type}{p:A->Bool}{g:A->Nat}{l:List A}(h:(l.map g).Nodup):((l.filter p).map g++(l.filter λx=>!p x).map g).Nodup:=by
 rw[<-q9]
 exact((List.filter_append_perm p l).map g).nodup_iff.2 h
theorem as_[Fr]{p:List Int->Int->Int->Int->Bool}{P:Program}{f:FuncId}{e m i n:Nat}{ow:List TypeId}{FI:Nat->Cont (kin (CX e m i))->Option (Cont (eU (UW e m ow)++gI (CX e m i)))}
  (how:((K.sl m (Fv e)).tys.all λt=>ah t ow)=true)
  (hK:∀fr:Fr,@aA fr P n ⟨f,CX e m i,UW e m ow,FI⟩)
  (hI:∀(nm:List Int) (w h:Int) (xs:List tZ) (us:List Int) (fl:Int),xs.length*48<=140737488355328->xs.length<n->us.length<=1048576->us.length<n->FI n ((nm,w,h,xs,()),us,fl,())=some (xs.filter (λx=>p us fl x.1 x.2.1),(nm,w,h,xs.filter (λx=>!p us fl x.1 x.2.1),()),())) :
  aA P n ⟨f,Ke e m i,FW e m,λn (c:Cont (kin (Ke e m i)))=>zu p n c.1 c.2.1 c.2.2.1⟩:=by
 refine abR (e:=e) (kk:=.int .u8) (k':=CL e m) (eG:=[4294967295]) (ht':=[m]) (rs':=UW e m ow) (F':=FI) (by rfl) (by simp[K.tys,dh]) (by simp[K.tys,dh]) (by simp[K.tys,dh]) hK (by simp[iM,dh]) (by simp[K.tys]) (by simp) ?_
 rintro⟨⟨nm,w,h,xs,u⟩,us,fl,u'⟩ out hF
 have hF:zu p n (nm,w,h,xs,u) us fl=some out:=hF
 unfold zu at hF
 split at hF
 case isFalse=>exact absurd hF (by simp)
 case isTrue hc=>
 have hF:=(jc hF).symm
 subst hF
 have e1:(xs.zipIdx 1).map (·.1)=xs:=J5 xs
 have hlen:((xs.zipIdx 1).map num).length=xs.length:=by simp
 have e2:∀q:oH->Bool,xs.filter q=((xs.zipIdx 1).filter λc=>q c.1).map (·.1):=λq=>by
  conv=>lhs;rw[<-e1,zw]
  rfl
 have e4:((xs.zipIdx 1).map num).filter (λx=>!p us fl x.1 x.2.1)=((xs.zipIdx 1).filter λq=>!p us fl q.1.1 q.1.2.1).map num:=by
  rw[zw];rfl
 have e5:((xs.zipIdx 1).map num).filter (λx=>p us fl x.1 x.2.1)=((xs.zipIdx 1).filter λq=>p us fl q.1.1 q.1.2.1).map num:=by
  rw[zw];rfl
 have hb0:=Nh (e:=e) (m:=m) (xs:=xs) (z:=false) (nm:=nm) (w:=w) (h:=h) (xs.zipIdx 1) (λq hq=>hq)
 have hb1:=Nh (e:=e) (m:=m) (xs:=xs) (z:=true) (nm:=nm) (w:=w) (h:=h) ((xs.zipIdx 1).filter λq=>!p us fl q.1.1 q.1.2.1) (λq hq=>(eH.1 hq).1)
 have hr:=IA (t:=m) (k:=JK e) (k':=Fv e) (e:=e) (kk:=.int .u8) (z:=true) (tb:=xL xs) rfl ((xs.zipIdx 1).filter λq=>p us fl q.1.1 q.1.2.1) (·.1) num (λq=>[q.2]) (λq hq=>ad3 q (eH.1 hq).1)
 have hz:∀l:List (oH×Nat),(l.map λq=>[q.2]).flatten=l.map (·.2):=λl=>by induction l<;>simp_all
 rw[hz,<-e2 (λx=>p us fl x.1 x.2.1),<-e5]at hr
 rw[e1]at hb0
 rw[<-e2 (λx=>!p us fl x.1 x.2.1),<-e4]at hb1
 refine⟨(nm,w,h,(xs.zipIdx 1).map num,()),(xs.zipIdx 1).map (·.2),((xs.zipIdx 1).filter λq=>p us fl q.1.1 q.1.2.1).map (·.2),((xs.zipIdx 1).filter λq=>!p us fl q.1.1 q.1.2.1).map (·.2),xL xs,(((xs.zipIdx 1).map num).filter (λx=>p us fl x.1 x.2.1),(nm,w,h,((xs.zipIdx 1).map num).filter (λx=>!p us fl x.1 x.2.1),()),()),hb0,(yS xs).1,(yS xs).2,hI nm w h _ us fl (by rw[hlen];exact hc.1) (by rw[hlen];exact hc.2.1) hc.2.2.1 hc.2.2.2,?_,?_,?_,?_⟩
 ·refine⟨_,[],(iq _).symm,⟨by simp[K.tys,dh],how,?_⟩,rfl⟩
  exact hr
 ·show Rw e (.int .u8) true (xL xs) (JI e m) (CL e m) (nm,w,h,xs.filter (λx=>!p us fl x.1 x.2.1),()) (nm,w,h,((xs.zipIdx 1).map num).filter (λx=>!p us fl x.1 x.2.1),()) _
  exact hb1
 ·exact aq1 (yS xs).1
 ·intro a ha
  rcases dD.1 ha with ha|ha<;>exact(List.filter_sublist.map _).subset ha
theorem aac{R:Type}{us:List Int}{x:Int}{r fin:R}:∀d i,i+d=us.length->fJ (λj=>if us.getD j 0=x then some r else none) fin d i=if(us.drop i).contains x=true then r else fin
 |0,i,h=>by
  have:us.drop i=[]:=Il (by omega)
  simp[fJ,this]
 |d+1,i,h=>by
  have hi:i<us.length:=by omega
  have ih:=aac (us:=us) (x:=x) (r:=r) (fin:=fin) d (i+1) (by omega)
  have hd:us.drop i=us[i] :: us.drop (i+1):=ML hi
  have hg:us.getD i 0=us[i]:=by simp[hi]
  unfold fJ
  simp only[hg,hd,List.contains_cons]
  by_cases e:us[i]=x
  ·simp[e]
  ·have e':(x==us[i])=false:=by simp[Ne.symm e]
   simp only[aC e,ih,e',Gj]
theorem aaD{us:List Int}{x:Int}{n:Nat}{B:(List Int×Int×Int×Unit->Option (Bool×Unit))->List Int×Int×Int×Unit->Option (Bool×Unit)}
  (hB:∀L v,B L v=(if decide (v.2.2.1<(v.1.length:Int))=true then(if aF v.2.2.1 v.1.length then(if decide ((v.1.getD v.2.2.1.toNat (0:Int))=v.2.1)=true then some (true,())else L (v.1,v.2.1,IntKind.i64.wrap (v.2.2.1+(1:Int)),()))else none)else some (false,())))
  (hb:us.length<=1048576) (hn:us.length<n):rounds B n (us,x,(0:Int),())=some (us.contains x,()):=by
 refine(gp (λi=>(us,x,(i:Int),())) (λj=>if us.getD j 0=x then some (some (true,()))else none) (some (false,())) (m:=us.length) rfl hn ?_ ?_).trans ?_
 ·intro L i hi _
  simp only[hB,eB,hi,bG,aQ,bU hi,dA,dL hi (by omega)]
  by_cases e:us.getD i 0=x
  ·simp only[e,bG,aQ]
  ·simp only[e,cO,bg,aZ]
 ·intro L _
  simp[hB]
 ·rw[aac us.length 0 (by omega)]
  rw[BA]
  cases us.contains x<;>rfl
def pick(us:List Int)(fl u f:Int):Bool:=us.contains u || !decide ((IntKind.i64.wrap ((BitVec.ofInt (IntKind.bits .i64) f &&& BitVec.ofInt (IntKind.bits .i64) fl).toNat))=(0:Int))
theorem atc{has:List Int->Int->Option (Bool×Unit)}{nm us:List Int}{w h fl:Int}{xs:List tZ}{n:Nat}{B:(List Int×Int×Int×(List Int×Int×Int×List tZ×Unit)×List tZ×List tZ×Unit->Option (List tZ×(List Int×Int×Int×List tZ×Unit)×Unit))->List Int×Int×Int×(List Int×Int×Int×List tZ×Unit)×List tZ×List tZ×Unit->Option (List tZ×(List Int×Int×Int×List tZ×Unit)×Unit)}
  (hB:∀L1 v1,B L1 v1=(if decide (v1.2.2.1<(v1.2.2.2.1.2.2.2.1.length:Int))=true then(if aF v1.2.2.1 v1.2.2.2.1.2.2.2.1.length then((has v1.1 ((v1.2.2.2.1.2.2.2.1.getD v1.2.2.1.toNat ((0:Int),(0:Int),(0:Int),(0:Nat),())).1)).bind λr2=>(if r2.1=true then(if(v1.2.2.2.2.1.length+[v1.2.2.2.1.2.2.2.1.getD v1.2.2.1.toNat ((0:Int),(0:Int),(0:Int),(0:Nat),())].length)*48<=140737488355328 then L1 (v1.1,v1.2.1,IntKind.i64.wrap (v1.2.2.1+(1:Int)),v1.2.2.2.1,v1.2.2.2.2.1++[v1.2.2.2.1.2.2.2.1.getD v1.2.2.1.toNat ((0:Int),(0:Int),(0:Int),(0:Nat),())],v1.2.2.2.2.2.1,())else none)else(if(!decide ((IntKind.i64.wrap ((BitVec.ofInt (IntKind.bits .i64) (((v1.2.2.2.1.2.2.2.1.getD v1.2.2.1.toNat ((0:Int),(0:Int),(0:Int),(0:Nat),())).2).1) &&& BitVec.ofInt (IntKind.bits .i64) v1.2.1).toNat))=(0:Int)))=true then(if(v1.2.2.2.2.1.length+[v1.2.2.2.1.2.2.2.1.getD v1.2.2.1.toNat ((0:Int),(0:Int),(0:Int),(0:Nat),())].length)*48<=140737488355328 then L1 (v1.1,v1.2.1,IntKind.i64.wrap (v1.2.2.1+(1:Int)),v1.2.2.2.1,v1.2.2.2.2.1++[v1.2.2.2.1.2.2.2.1.getD v1.2.2.1.toNat ((0:Int),(0:Int),(0:Int),(0:Nat),())],v1.2.2.2.2.2.1,())else none)else(if(v1.2.2.2.2.2.1.length+[v1.2.2.2.1.2.2.2.1.getD v1.2.2.1.toNat ((0:Int),(0:Int),(0:Int),(0:Nat),())].length)*48<=140737488355328 then L1 (v1.1,v1.2.1,IntKind.i64.wrap (v1.2.2.1+(1:Int)),v1.2.2.2.1,v1.2.2.2.2.1,v1.2.2.2.2.2.1++[v1.2.2.2.1.2.2.2.1.getD v1.2.2.1.toNat ((0:Int),(0:Int),(0:Int),(0:Nat),())],())else none))))else none)else some (v1.2.2.2.2.1,(v1.2.2.2.1.1,v1.2.2.2.1.2.1,v1.2.2.2.1.2.2.1,v1.2.2.2.2.2.1,v1.2.2.2.1.2.2.2.2),())))
  (hh:∀x,has us x=some (us.contains x,())) (hc:xs.length*48<=140737488355328) (hn:xs.length<n) :
  rounds B n (us,fl,(0:Int),(nm,w,h,xs,()),[],[],())=some (xs.filter (λx=>pick us fl x.1 x.2.1),(nm,w,h,xs.filter (λx=>!pick us fl x.1 x.2.1),()),()):=by
 refine(gp (λi=>(us,fl,(i:Int),(nm,w,h,xs,()),(xs.take i).filter (λx=>pick us fl x.1 x.2.1),(xs.take i).filter (λx=>!pick us fl x.1 x.2.1),())) (λ_=>none) (some (xs.filter (λx=>pick us fl x.1 x.2.1),(nm,w,h,xs.filter (λx=>!pick us fl x.1 x.2.1),()),())) (m:=xs.length) (by simp) hn ?_ ?_).trans ?_
 ·intro L i hi _
  have hl1:((xs.take i).filter λx=>pick us fl x.1 x.2.1).length<=i:=nC (q8 _ _) (by simp;omega)
  have hl2:((xs.take i).filter λx=>!pick us fl x.1 x.2.1).length<=i:=nC (q8 _ _) (by simp;omega)
  have hs1:(((xs.take i).filter λx=>pick us fl x.1 x.2.1).length+1)*48<=140737488355328:=by omega
  have hs2:(((xs.take i).filter λx=>!pick us fl x.1 x.2.1).length+1)*48<=140737488355328:=by omega
  have ht:xs.take (i+1)=xs.take i++[xs[i]]:=by simp
  simp only[hB,eB,hi,bG,aQ,bU hi,ku hi,dL hi (by omega),gL,hs1,hs2,ht,xX,hh,aG]
  have hp:pick us fl xs[i].1 xs[i].2.1=(us.contains xs[i].1 || !decide ((IntKind.i64.wrap ((BitVec.ofInt (IntKind.bits .i64) xs[i].2.1 &&& BitVec.ofInt (IntKind.bits .i64) fl).toNat))=(0:Int))):=rfl
  cases e1:us.contains xs[i].1 with
  |true=>
   have e:pick us fl xs[i].1 xs[i].2.1=true:=by rw[hp,e1,Bool.true_or]
   simp only[aQ,QL,e,List.filter_nil,fK,bg,aZ,iq]
  |false=>
   rw[e1,Gj]at hp
   simp only[bg,aZ,<-hp]
   cases e:pick us fl xs[i].1 xs[i].2.1<;>simp only[aQ,QL,e,List.filter_nil,fK,jf,bg,aZ,iq]
 ·intro L _
  simp[hB]
 ·exact ko (λ_ _ _=>rfl)
end Go.Proofs.YtplpeegfeajkkaaGreatDoor.pq
