/- A function that takes rows out of a box and gives them: over owned rows, from the same over ids. No program in sight. -/
import Derived.Test.YtailcbngagacaaaGreatPurgeLib
set_option linter.unusedVariables false
set_option linter.unusedSimpArgs false
namespace Go.Proofs.YtailcbngagacaaaGreat.oV
open Go Ow rV
def yY (p:List Int->Int->Int->Int->Bool) (n:Nat) (a:List Int×Int×Int×List oq×Unit) (us:List Int) (fl:Int):Option (List oq×(List Int×Int×Int×List oq×Unit)×Unit):=
 if a.2.2.2.1.length * 48<=140737488355328/\a.2.2.2.1.length<n/\us.length<=1048576/\us.length<n then
  some (a.2.2.2.1.filter (fun x=>p us fl x.1 x.2.1),(a.1,a.2.1,a.2.2.1,a.2.2.2.1.filter (fun x=>!p us fl x.1 x.2.1),()),())
 else none
abbrev CZ (e m i:Nat):List aV:=[.rw (CQ e m) [e,m] [4294967295] [m], .val (.sl i (.int .i64)) [], .val (.int .i64) []]
abbrev JJ (e m i:Nat):List aV:=[.rw (Jm e m) [e,m] [4294967295,e] [m,4294967294], .val (.sl i (.int .i64)) [], .val (.int .i64) []]
abbrev Ui (e m:Nat) (ow:List TypeId):List gN:=[.own (.sl m (Fp e)) ow [] []]
abbrev FT (e m:Nat):List gN:=[.own (.sl m (Jn e)) [e,m] [] []]
theorem amR {A:Type} {p:A->Bool} {g:A->Nat} {l:List A} (h:(l.map g).Nodup):((l.filter p).map g++(l.filter fun x=>!p x).map g).Nodup:=by
 rw [<-rQ]
 exact ((List.filter_append_perm p l).map g).nodup_iff.2 h
theorem anT [Fr] {p:List Int->Int->Int->Int->Bool} {P:Program} {f:FuncId} {e m i n:Nat} {ow:List TypeId} {FI:Nat->Cont (kin (CZ e m i))->Option (Cont (eO (Ui e m ow)++gq (CZ e m i)))}
  (how:((K.sl m (Fp e)).tys.all fun t=>aa t ow)=true)
  (hK:∀fr:Fr, @aD fr P n ⟨f,CZ e m i,Ui e m ow,FI⟩)
  (hI:∀(nm:List Int) (w h:Int) (xs:List tC) (us:List Int) (fl:Int),xs.length * 48<=140737488355328->xs.length<n->us.length<=1048576->us.length<n->FI n ((nm,w,h,xs,()),us,fl,())=some (xs.filter (fun x=>p us fl x.1 x.2.1),(nm,w,h,xs.filter (fun x=>!p us fl x.1 x.2.1),()),())) :
  aD P n ⟨f,JJ e m i,FT e m,fun n (c:Cont (kin (JJ e m i)))=>yY p n c.1 c.2.1 c.2.2.1⟩:=by
 refine aas (e:=e) (kk:=.int .u8) (k':=CQ e m) (dX:=[4294967295]) (ht':=[m]) (rs':=Ui e m ow) (F':=FI) (by rfl) (by simp [K.tys,b_]) (by simp [K.tys,b_]) (by simp [K.tys,b_]) hK (by simp [iK,b_]) (by simp [K.tys]) (by simp) ?_
 rintro ⟨⟨nm,w,h,xs,u⟩,us,fl,u'⟩ out hF
 have hF:yY p n (nm,w,h,xs,u) us fl=some out:=hF
 unfold yY at hF
 split at hF
 case isFalse=>exact absurd hF (by simp)
 case isTrue hc=>
 have hF:=(j4 hF).symm
 subst hF
 have e1:(xs.zipIdx 1).map (·.1)=xs:=JB xs
 have hlen:((xs.zipIdx 1).map num).length=xs.length:=by simp
 have e2:∀q:oq->Bool,xs.filter q=((xs.zipIdx 1).filter fun c=>q c.1).map (·.1):=fun q=>by
  conv=>lhs; rw [<-e1,y8]
  rfl
 have e4:((xs.zipIdx 1).map num).filter (fun x=>!p us fl x.1 x.2.1)=((xs.zipIdx 1).filter fun q=>!p us fl q.1.1 q.1.2.1).map num:=by
  rw [y8]; rfl
 have e5:((xs.zipIdx 1).map num).filter (fun x=>p us fl x.1 x.2.1)=((xs.zipIdx 1).filter fun q=>p us fl q.1.1 q.1.2.1).map num:=by
  rw [y8]; rfl
 have hb0:=MJ (e:=e) (m:=m) (xs:=xs) (z:=false) (nm:=nm) (w:=w) (h:=h) (xs.zipIdx 1) (fun q hq=>hq)
 have hb1:=MJ (e:=e) (m:=m) (xs:=xs) (z:=true) (nm:=nm) (w:=w) (h:=h) ((xs.zipIdx 1).filter fun q=>!p us fl q.1.1 q.1.2.1) (fun q hq=>(eF.1 hq).1)
 have hr:=Ic (t:=m) (k:=Jn e) (k':=Fp e) (e:=e) (kk:=.int .u8) (z:=true) (tb:=xA xs) rfl ((xs.zipIdx 1).filter fun q=>p us fl q.1.1 q.1.2.1) (·.1) num (fun q=>[q.2]) (fun q hq=>abW q (eF.1 hq).1)
 have hz:∀l:List (oq×Nat),(l.map fun q=>[q.2]).flatten=l.map (·.2):=fun l=>by induction l <;> simp_all
 rw [hz, <-e2 (fun x=>p us fl x.1 x.2.1), <-e5] at hr
 rw [e1] at hb0
 rw [<-e2 (fun x=>!p us fl x.1 x.2.1), <-e4] at hb1
 refine ⟨(nm,w,h,(xs.zipIdx 1).map num,()),(xs.zipIdx 1).map (·.2),((xs.zipIdx 1).filter fun q=>p us fl q.1.1 q.1.2.1).map (·.2),((xs.zipIdx 1).filter fun q=>!p us fl q.1.1 q.1.2.1).map (·.2),xA xs,(((xs.zipIdx 1).map num).filter (fun x=>p us fl x.1 x.2.1),(nm,w,h,((xs.zipIdx 1).map num).filter (fun x=>!p us fl x.1 x.2.1),()),()),hb0,(yE xs).1,(yE xs).2,hI nm w h _ us fl (by rw [hlen]; exact hc.1) (by rw [hlen]; exact hc.2.1) hc.2.2.1 hc.2.2.2, ?_, ?_, ?_, ?_⟩
 ·refine ⟨_,[],(h_ _).symm,⟨by simp [K.tys,b_],how, ?_⟩,rfl⟩
  exact hr
 ·show Rw e (.int .u8) true (xA xs) (Jm e m) (CQ e m) (nm,w,h,xs.filter (fun x=>!p us fl x.1 x.2.1),()) (nm,w,h,((xs.zipIdx 1).map num).filter (fun x=>!p us fl x.1 x.2.1),()) _
  exact hb1
 ·exact amR (yE xs).1
 ·intro a ha
  rcases bW.1 ha with ha | ha <;> exact (List.filter_sublist.map _).subset ha
theorem YG {R:Type} {us:List Int} {x:Int} {r fin:R}:∀d i,i+d=us.length->gz (fun j=>if us.getD j 0=x then some r else none) fin d i=if (us.drop i).contains x=true then r else fin
 | 0,i,h=>by
  have:us.drop i=[]:=DX (by omega)
  simp [gz,this]
 | d+1,i,h=>by
  have hi:i<us.length:=by omega
  have ih:=YG (us:=us) (x:=x) (r:=r) (fin:=fin) d (i+1) (by omega)
  have hd:us.drop i=us[i] :: us.drop (i+1):=HV hi
  have hg:us.getD i 0=us[i]:=by simp [hi]
  unfold gz
  simp only [hg,hd,List.contains_cons]
  by_cases e:us[i]=x
  ·simp [e]
  ·have e':(x == us[i])=false:=by simp [Ne.symm e]
   simp only [aA e,ih,e',Gd]
theorem Y7 {us:List Int} {x:Int} {n:Nat} {B:(List Int×Int×Int×Unit->Option (Bool×Unit))->List Int×Int×Int×Unit->Option (Bool×Unit)}
  (hB:∀L v,B L v=(if decide (v.2.2.1<(v.1.length:Int))=true then (if aM v.2.2.1 v.1.length then (if decide ((v.1.getD v.2.2.1.toNat (0:Int))=v.2.1)=true then some (true,()) else L (v.1,v.2.1,IntKind.i64.wrap (v.2.2.1+(1:Int)),())) else none) else some (false,())))
  (hb:us.length<=1048576) (hn:us.length<n):rounds B n (us,x,(0:Int),())=some (us.contains x,()):=by
 refine (iA (fun i=>(us,x,(i:Int),())) (fun j=>if us.getD j 0=x then some (some (true,())) else none) (some (false,())) (m:=us.length) rfl hn ?_ ?_).trans ?_
 ·intro L i hi _
  simp only [hB,g_,hi,bQ,a_,dz hi,eD,gu hi (by omega)]
  by_cases e:us.getD i 0=x
  ·simp only [e,bQ,a_]
  ·simp only [e,d_,bJ,bF]
 ·intro L _
  simp [hB]
 ·rw [YG us.length 0 (by omega)]
  rw [DY]
  cases us.contains x <;> rfl
def pick (us:List Int) (fl u f:Int):Bool:=us.contains u || !decide ((IntKind.i64.wrap ((BitVec.ofInt (IntKind.bits .i64) f &&& BitVec.ofInt (IntKind.bits .i64) fl).toNat))=(0:Int))
theorem anV {has:List Int->Int->Option (Bool×Unit)} {nm us:List Int} {w h fl:Int} {xs:List tC} {n:Nat} {B:(List Int×Int×Int×(List Int×Int×Int×List tC×Unit)×List tC×List tC×Unit->Option (List tC×(List Int×Int×Int×List tC×Unit)×Unit))->List Int×Int×Int×(List Int×Int×Int×List tC×Unit)×List tC×List tC×Unit->Option (List tC×(List Int×Int×Int×List tC×Unit)×Unit)}
  (hB:∀L1 v1,B L1 v1=(if decide (v1.2.2.1<(v1.2.2.2.1.2.2.2.1.length:Int))=true then (if aM v1.2.2.1 v1.2.2.2.1.2.2.2.1.length then ((has v1.1 ((v1.2.2.2.1.2.2.2.1.getD v1.2.2.1.toNat ((0:Int),(0:Int),(0:Int),(0:Nat),())).1)).bind fun r2=>(if r2.1=true then (if (v1.2.2.2.2.1.length+[v1.2.2.2.1.2.2.2.1.getD v1.2.2.1.toNat ((0:Int),(0:Int),(0:Int),(0:Nat),())].length) * 48<=140737488355328 then L1 (v1.1,v1.2.1,IntKind.i64.wrap (v1.2.2.1+(1:Int)),v1.2.2.2.1,v1.2.2.2.2.1++[v1.2.2.2.1.2.2.2.1.getD v1.2.2.1.toNat ((0:Int),(0:Int),(0:Int),(0:Nat),())],v1.2.2.2.2.2.1,()) else none) else (if (!decide ((IntKind.i64.wrap ((BitVec.ofInt (IntKind.bits .i64) (((v1.2.2.2.1.2.2.2.1.getD v1.2.2.1.toNat ((0:Int),(0:Int),(0:Int),(0:Nat),())).2).1) &&& BitVec.ofInt (IntKind.bits .i64) v1.2.1).toNat))=(0:Int)))=true then (if (v1.2.2.2.2.1.length+[v1.2.2.2.1.2.2.2.1.getD v1.2.2.1.toNat ((0:Int),(0:Int),(0:Int),(0:Nat),())].length) * 48<=140737488355328 then L1 (v1.1,v1.2.1,IntKind.i64.wrap (v1.2.2.1+(1:Int)),v1.2.2.2.1,v1.2.2.2.2.1++[v1.2.2.2.1.2.2.2.1.getD v1.2.2.1.toNat ((0:Int),(0:Int),(0:Int),(0:Nat),())],v1.2.2.2.2.2.1,()) else none) else (if (v1.2.2.2.2.2.1.length+[v1.2.2.2.1.2.2.2.1.getD v1.2.2.1.toNat ((0:Int),(0:Int),(0:Int),(0:Nat),())].length) * 48<=140737488355328 then L1 (v1.1,v1.2.1,IntKind.i64.wrap (v1.2.2.1+(1:Int)),v1.2.2.2.1,v1.2.2.2.2.1,v1.2.2.2.2.2.1++[v1.2.2.2.1.2.2.2.1.getD v1.2.2.1.toNat ((0:Int),(0:Int),(0:Int),(0:Nat),())],()) else none)))) else none) else some (v1.2.2.2.2.1,(v1.2.2.2.1.1,v1.2.2.2.1.2.1,v1.2.2.2.1.2.2.1,v1.2.2.2.2.2.1,v1.2.2.2.1.2.2.2.2),())))
  (hh:∀x,has us x=some (us.contains x,())) (hc:xs.length * 48<=140737488355328) (hn:xs.length<n) :
  rounds B n (us,fl,(0:Int),(nm,w,h,xs,()),[],[],())=some (xs.filter (fun x=>pick us fl x.1 x.2.1),(nm,w,h,xs.filter (fun x=>!pick us fl x.1 x.2.1),()),()):=by
 refine (iA (fun i=>(us,fl,(i:Int),(nm,w,h,xs,()),(xs.take i).filter (fun x=>pick us fl x.1 x.2.1),(xs.take i).filter (fun x=>!pick us fl x.1 x.2.1),())) (fun _=>none) (some (xs.filter (fun x=>pick us fl x.1 x.2.1),(nm,w,h,xs.filter (fun x=>!pick us fl x.1 x.2.1),()),())) (m:=xs.length) (by simp) hn ?_ ?_).trans ?_
 ·intro L i hi _
  have hl1:((xs.take i).filter fun x=>pick us fl x.1 x.2.1).length<=i:=lW (qP _ _) (by simp; omega)
  have hl2:((xs.take i).filter fun x=>!pick us fl x.1 x.2.1).length<=i:=lW (qP _ _) (by simp; omega)
  have hs1:(((xs.take i).filter fun x=>pick us fl x.1 x.2.1).length+1) * 48<=140737488355328:=by omega
  have hs2:(((xs.take i).filter fun x=>!pick us fl x.1 x.2.1).length+1) * 48<=140737488355328:=by omega
  have ht:xs.take (i+1)=xs.take i++[xs[i]]:=by simp
  simp only [hB,g_,hi,bQ,a_,dz hi,nT hi,gu hi (by omega),jN,hs1,hs2,ht,y7,hh,aL]
  have hp:pick us fl xs[i].1 xs[i].2.1=(us.contains xs[i].1 || !decide ((IntKind.i64.wrap ((BitVec.ofInt (IntKind.bits .i64) xs[i].2.1 &&& BitVec.ofInt (IntKind.bits .i64) fl).toNat))=(0:Int))):=rfl
  cases e1:us.contains xs[i].1 with
  | true=>
   have e:pick us fl xs[i].1 xs[i].2.1=true:=by rw [hp,e1,Bool.true_or]
   simp only [a_,P9,e,List.filter_nil,jc,bJ,bF,h_]
  | false=>
   rw [e1,Gd] at hp
   simp only [bJ,bF, <-hp]
   cases e:pick us fl xs[i].1 xs[i].2.1 <;> simp only [a_,P9,e,List.filter_nil,jc,mI,bJ,bF,h_]
 ·intro L _
  simp [hB]
 ·exact mQ (fun _ _ _=>rfl)
end Go.Proofs.YtailcbngagacaaaGreat.oV
