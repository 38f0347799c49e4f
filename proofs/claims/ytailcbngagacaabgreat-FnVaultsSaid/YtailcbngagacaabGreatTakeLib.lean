/- A function that takes rows out of a box and gives them: over owned rows, from the same over ids. No program in sight. -/
import Derived.Test.YtailcbngagacaabGreatPurgeLib
set_option linter.unusedVariables false
set_option linter.unusedSimpArgs false
namespace Go.Proofs.YtailcbngagacaabGreat.oU
open Go Ow rR
def y7 (p:List Int->Int->Int->Int->Bool) (n:Nat) (a:List Int×Int×Int×List oh×Unit) (us:List Int) (fl:Int):Option (List oh×(List Int×Int×Int×List oh×Unit)×Unit):=
 if a.2.2.2.1.length * 48<=140737488355328/\a.2.2.2.1.length<n/\us.length<=1048576/\us.length<n then
  some (a.2.2.2.1.filter (fun x=>p us fl x.1 x.2.1),(a.1,a.2.1,a.2.2.1,a.2.2.2.1.filter (fun x=>!p us fl x.1 x.2.1),()),())
 else none
abbrev CQ (e m i:Nat):List aV:=[.rw (CE e m) [e,m] [4294967295] [m], .val (.sl i (.int .i64)) [], .val (.int .i64) []]
abbrev JI (e m i:Nat):List aV:=[.rw (Jj e m) [e,m] [4294967295,e] [m,4294967294], .val (.sl i (.int .i64)) [], .val (.int .i64) []]
abbrev Ur (e m:Nat) (ow:List TypeId):List gK:=[.own (.sl m (Fv e)) ow [] []]
abbrev FV (e m:Nat):List gK:=[.own (.sl m (Jk e)) [e,m] [] []]
theorem am5 {A:Type} {p:A->Bool} {g:A->Nat} {l:List A} (h:(l.map g).Nodup):((l.filter p).map g++(l.filter fun x=>!p x).map g).Nodup:=by
 rw [<-rM]
 exact ((List.filter_append_perm p l).map g).nodup_iff.2 h
theorem an8 [Fr] {p:List Int->Int->Int->Int->Bool} {P:Program} {f:FuncId} {e m i n:Nat} {ow:List TypeId} {FI:Nat->Cont (kin (CQ e m i))->Option (Cont (eP (Ur e m ow)++gy (CQ e m i)))}
  (how:((K.sl m (Fv e)).tys.all fun t=>aa t ow)=true)
  (hK:∀fr:Fr, @aC fr P n ⟨f,CQ e m i,Ur e m ow,FI⟩)
  (hI:∀(nm:List Int) (w h:Int) (xs:List sZ) (us:List Int) (fl:Int),xs.length * 48<=140737488355328->xs.length<n->us.length<=1048576->us.length<n->FI n ((nm,w,h,xs,()),us,fl,())=some (xs.filter (fun x=>p us fl x.1 x.2.1),(nm,w,h,xs.filter (fun x=>!p us fl x.1 x.2.1),()),())) :
  aC P n ⟨f,JI e m i,FV e m,fun n (c:Cont (kin (JI e m i)))=>y7 p n c.1 c.2.1 c.2.2.1⟩:=by
 refine aat (e:=e) (kk:=.int .u8) (k':=CE e m) (dY:=[4294967295]) (ht':=[m]) (rs':=Ur e m ow) (F':=FI) (by rfl) (by simp [K.tys,b_]) (by simp [K.tys,b_]) (by simp [K.tys,b_]) hK (by simp [iL,b_]) (by simp [K.tys]) (by simp) ?_
 rintro ⟨⟨nm,w,h,xs,u⟩,us,fl,u'⟩ out hF
 have hF:y7 p n (nm,w,h,xs,u) us fl=some out:=hF
 unfold y7 at hF
 split at hF
 case isFalse=>exact absurd hF (by simp)
 case isTrue hc=>
 have hF:=(jZ hF).symm
 subst hF
 have e1:(xs.zipIdx 1).map (·.1)=xs:=Jz xs
 have hlen:((xs.zipIdx 1).map num).length=xs.length:=by simp
 have e2:∀q:oh->Bool,xs.filter q=((xs.zipIdx 1).filter fun c=>q c.1).map (·.1):=fun q=>by
  conv=>lhs; rw [<-e1,y_]
  rfl
 have e4:((xs.zipIdx 1).map num).filter (fun x=>!p us fl x.1 x.2.1)=((xs.zipIdx 1).filter fun q=>!p us fl q.1.1 q.1.2.1).map num:=by
  rw [y_]; rfl
 have e5:((xs.zipIdx 1).map num).filter (fun x=>p us fl x.1 x.2.1)=((xs.zipIdx 1).filter fun q=>p us fl q.1.1 q.1.2.1).map num:=by
  rw [y_]; rfl
 have hb0:=MH (e:=e) (m:=m) (xs:=xs) (z:=false) (nm:=nm) (w:=w) (h:=h) (xs.zipIdx 1) (fun q hq=>hq)
 have hb1:=MH (e:=e) (m:=m) (xs:=xs) (z:=true) (nm:=nm) (w:=w) (h:=h) ((xs.zipIdx 1).filter fun q=>!p us fl q.1.1 q.1.2.1) (fun q hq=>(eG.1 hq).1)
 have hr:=H_ (t:=m) (k:=Jk e) (k':=Fv e) (e:=e) (kk:=.int .u8) (z:=true) (tb:=xy xs) rfl ((xs.zipIdx 1).filter fun q=>p us fl q.1.1 q.1.2.1) (·.1) num (fun q=>[q.2]) (fun q hq=>abV q (eG.1 hq).1)
 have hz:∀l:List (oh×Nat),(l.map fun q=>[q.2]).flatten=l.map (·.2):=fun l=>by induction l <;> simp_all
 rw [hz, <-e2 (fun x=>p us fl x.1 x.2.1), <-e5] at hr
 rw [e1] at hb0
 rw [<-e2 (fun x=>!p us fl x.1 x.2.1), <-e4] at hb1
 refine ⟨(nm,w,h,(xs.zipIdx 1).map num,()),(xs.zipIdx 1).map (·.2),((xs.zipIdx 1).filter fun q=>p us fl q.1.1 q.1.2.1).map (·.2),((xs.zipIdx 1).filter fun q=>!p us fl q.1.1 q.1.2.1).map (·.2),xy xs,(((xs.zipIdx 1).map num).filter (fun x=>p us fl x.1 x.2.1),(nm,w,h,((xs.zipIdx 1).map num).filter (fun x=>!p us fl x.1 x.2.1),()),()),hb0,(yD xs).1,(yD xs).2,hI nm w h _ us fl (by rw [hlen]; exact hc.1) (by rw [hlen]; exact hc.2.1) hc.2.2.1 hc.2.2.2, ?_, ?_, ?_, ?_⟩
 ·refine ⟨_,[],(gT _).symm,⟨by simp [K.tys,b_],how, ?_⟩,rfl⟩
  exact hr
 ·show Rw e (.int .u8) true (xy xs) (Jj e m) (CE e m) (nm,w,h,xs.filter (fun x=>!p us fl x.1 x.2.1),()) (nm,w,h,((xs.zipIdx 1).map num).filter (fun x=>!p us fl x.1 x.2.1),()) _
  exact hb1
 ·exact am5 (yD xs).1
 ·intro a ha
  rcases bW.1 ha with ha | ha <;> exact (List.filter_sublist.map _).subset ha
theorem YM {R:Type} {us:List Int} {x:Int} {r fin:R}:∀d i,i+d=us.length->gD (fun j=>if us.getD j 0=x then some r else none) fin d i=if (us.drop i).contains x=true then r else fin
 | 0,i,h=>by
  have:us.drop i=[]:=DZ (by omega)
  simp [gD,this]
 | d+1,i,h=>by
  have hi:i<us.length:=by omega
  have ih:=YM (us:=us) (x:=x) (r:=r) (fin:=fin) d (i+1) (by omega)
  have hd:us.drop i=us[i] :: us.drop (i+1):=Hu hi
  have hg:us.getD i 0=us[i]:=by simp [hi]
  unfold gD
  simp only [hg,hd,List.contains_cons]
  by_cases e:us[i]=x
  ·simp [e]
  ·have e':(x == us[i])=false:=by simp [Ne.symm e]
   simp only [aA e,ih,e',Gf]
theorem Zd {us:List Int} {x:Int} {n:Nat} {B:(List Int×Int×Int×Unit->Option (Bool×Unit))->List Int×Int×Int×Unit->Option (Bool×Unit)}
  (hB:∀L v,B L v=(if decide (v.2.2.1<(v.1.length:Int))=true then (if aN v.2.2.1 v.1.length then (if decide ((v.1.getD v.2.2.1.toNat (0:Int))=v.2.1)=true then some (true,()) else L (v.1,v.2.1,IntKind.i64.wrap (v.2.2.1+(1:Int)),())) else none) else some (false,())))
  (hb:us.length<=1048576) (hn:us.length<n):rounds B n (us,x,(0:Int),())=some (us.contains x,()):=by
 refine (iy (fun i=>(us,x,(i:Int),())) (fun j=>if us.getD j 0=x then some (some (true,())) else none) (some (false,())) (m:=us.length) rfl hn ?_ ?_).trans ?_
 ·intro L i hi _
  simp only [hB,gZ,hi,bL,a_,dA hi,eF,gp hi (by omega)]
  by_cases e:us.getD i 0=x
  ·simp only [e,bL,a_]
  ·simp only [e,eB,bG,bE]
 ·intro L _
  simp [hB]
 ·rw [YM us.length 0 (by omega)]
  rw [D5]
  cases us.contains x <;> rfl
def pick (us:List Int) (fl u f:Int):Bool:=us.contains u || !decide ((IntKind.i64.wrap ((BitVec.ofInt (IntKind.bits .i64) f &&& BitVec.ofInt (IntKind.bits .i64) fl).toNat))=(0:Int))
theorem an_ {has:List Int->Int->Option (Bool×Unit)} {nm us:List Int} {w h fl:Int} {xs:List sZ} {n:Nat} {B:(List Int×Int×Int×(List Int×Int×Int×List sZ×Unit)×List sZ×List sZ×Unit->Option (List sZ×(List Int×Int×Int×List sZ×Unit)×Unit))->List Int×Int×Int×(List Int×Int×Int×List sZ×Unit)×List sZ×List sZ×Unit->Option (List sZ×(List Int×Int×Int×List sZ×Unit)×Unit)}
  (hB:∀L1 v1,B L1 v1=(if decide (v1.2.2.1<(v1.2.2.2.1.2.2.2.1.length:Int))=true then (if aN v1.2.2.1 v1.2.2.2.1.2.2.2.1.length then ((has v1.1 ((v1.2.2.2.1.2.2.2.1.getD v1.2.2.1.toNat ((0:Int),(0:Int),(0:Int),(0:Nat),())).1)).bind fun r2=>(if r2.1=true then (if (v1.2.2.2.2.1.length+[v1.2.2.2.1.2.2.2.1.getD v1.2.2.1.toNat ((0:Int),(0:Int),(0:Int),(0:Nat),())].length) * 48<=140737488355328 then L1 (v1.1,v1.2.1,IntKind.i64.wrap (v1.2.2.1+(1:Int)),v1.2.2.2.1,v1.2.2.2.2.1++[v1.2.2.2.1.2.2.2.1.getD v1.2.2.1.toNat ((0:Int),(0:Int),(0:Int),(0:Nat),())],v1.2.2.2.2.2.1,()) else none) else (if (!decide ((IntKind.i64.wrap ((BitVec.ofInt (IntKind.bits .i64) (((v1.2.2.2.1.2.2.2.1.getD v1.2.2.1.toNat ((0:Int),(0:Int),(0:Int),(0:Nat),())).2).1) &&& BitVec.ofInt (IntKind.bits .i64) v1.2.1).toNat))=(0:Int)))=true then (if (v1.2.2.2.2.1.length+[v1.2.2.2.1.2.2.2.1.getD v1.2.2.1.toNat ((0:Int),(0:Int),(0:Int),(0:Nat),())].length) * 48<=140737488355328 then L1 (v1.1,v1.2.1,IntKind.i64.wrap (v1.2.2.1+(1:Int)),v1.2.2.2.1,v1.2.2.2.2.1++[v1.2.2.2.1.2.2.2.1.getD v1.2.2.1.toNat ((0:Int),(0:Int),(0:Int),(0:Nat),())],v1.2.2.2.2.2.1,()) else none) else (if (v1.2.2.2.2.2.1.length+[v1.2.2.2.1.2.2.2.1.getD v1.2.2.1.toNat ((0:Int),(0:Int),(0:Int),(0:Nat),())].length) * 48<=140737488355328 then L1 (v1.1,v1.2.1,IntKind.i64.wrap (v1.2.2.1+(1:Int)),v1.2.2.2.1,v1.2.2.2.2.1,v1.2.2.2.2.2.1++[v1.2.2.2.1.2.2.2.1.getD v1.2.2.1.toNat ((0:Int),(0:Int),(0:Int),(0:Nat),())],()) else none)))) else none) else some (v1.2.2.2.2.1,(v1.2.2.2.1.1,v1.2.2.2.1.2.1,v1.2.2.2.1.2.2.1,v1.2.2.2.2.2.1,v1.2.2.2.1.2.2.2.2),())))
  (hh:∀x,has us x=some (us.contains x,())) (hc:xs.length * 48<=140737488355328) (hn:xs.length<n) :
  rounds B n (us,fl,(0:Int),(nm,w,h,xs,()),[],[],())=some (xs.filter (fun x=>pick us fl x.1 x.2.1),(nm,w,h,xs.filter (fun x=>!pick us fl x.1 x.2.1),()),()):=by
 refine (iy (fun i=>(us,fl,(i:Int),(nm,w,h,xs,()),(xs.take i).filter (fun x=>pick us fl x.1 x.2.1),(xs.take i).filter (fun x=>!pick us fl x.1 x.2.1),())) (fun _=>none) (some (xs.filter (fun x=>pick us fl x.1 x.2.1),(nm,w,h,xs.filter (fun x=>!pick us fl x.1 x.2.1),()),())) (m:=xs.length) (by simp) hn ?_ ?_).trans ?_
 ·intro L i hi _
  have hl1:((xs.take i).filter fun x=>pick us fl x.1 x.2.1).length<=i:=lY (qN _ _) (by simp; omega)
  have hl2:((xs.take i).filter fun x=>!pick us fl x.1 x.2.1).length<=i:=lY (qN _ _) (by simp; omega)
  have hs1:(((xs.take i).filter fun x=>pick us fl x.1 x.2.1).length+1) * 48<=140737488355328:=by omega
  have hs2:(((xs.take i).filter fun x=>!pick us fl x.1 x.2.1).length+1) * 48<=140737488355328:=by omega
  have ht:xs.take (i+1)=xs.take i++[xs[i]]:=by simp
  simp only [hB,gZ,hi,bL,a_,dA hi,oD hi,gp hi (by omega),jC,hs1,hs2,ht,y9,hh,aJ]
  have hp:pick us fl xs[i].1 xs[i].2.1=(us.contains xs[i].1 || !decide ((IntKind.i64.wrap ((BitVec.ofInt (IntKind.bits .i64) xs[i].2.1 &&& BitVec.ofInt (IntKind.bits .i64) fl).toNat))=(0:Int))):=rfl
  cases e1:us.contains xs[i].1 with
  | true=>
   have e:pick us fl xs[i].1 xs[i].2.1=true:=by rw [hp,e1,Bool.true_or]
   simp only [a_,P_,e,List.filter_nil,iB,bG,bE,gT]
  | false=>
   rw [e1,Gf] at hp
   simp only [bG,bE, <-hp]
   cases e:pick us fl xs[i].1 xs[i].2.1 <;> simp only [a_,P_,e,List.filter_nil,iB,lD,bG,bE,gT]
 ·intro L _
  simp [hB]
 ·exact mh (fun _ _ _=>rfl)
end Go.Proofs.YtailcbngagacaabGreat.oU
