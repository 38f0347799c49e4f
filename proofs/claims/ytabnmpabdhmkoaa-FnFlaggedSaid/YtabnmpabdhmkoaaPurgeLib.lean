/- A function that parts the rows of a box by a flag: over owned rows, from the same over ids. No program in sight. -/
import Derived.Test.YtabnmpabdhmkoaaOwF
import Derived.Test.YtabnmpabdhmkoaaPartLib
set_option linter.unusedSectionVars false
set_option linter.unusedVariables false
set_option linter.unusedSimpArgs false
namespace Go.Proofs.Ytabnmpabdhmkoaa.gy
open Go Go.Proofs.Ytabnmpabdhmkoaa.Ow
abbrev D6 (e:Nat):K:=.st (.pair (.int .i64) (.pair (.int .i64) (.pair (.int .i64) (.pair (.id e) .unit))))
abbrev O3 (e:Nat):K:=.st (.pair (.int .i64) (.pair (.int .i64) (.pair (.int .i64) (.pair (.sl e (.int .u8)) .unit))))
abbrev Ci (e m:Nat):K:=.st (.pair .str (.pair (.int .i64) (.pair (.int .i64) (.pair (.sl m (D6 e)) .unit))))
abbrev O1 (e m:Nat):K:=.st (.pair .str (.pair (.int .i64) (.pair (.int .i64) (.pair (.sl m (O3 e)) .unit))))
abbrev uu:=Int×Int×Int×List Int×Unit
def del (y:Int):Bool:=!decide ((IntKind.i64.wrap ((BitVec.ofInt (IntKind.bits .i64) y &&& BitVec.ofInt (IntKind.bits .i64) (8:Int)).toNat))=(0:Int))
def tH (n:Nat) (a:List Int×Int×Int×List uu×Unit):Option (List Int×(List Int×Int×Int×List uu×Unit)×Unit):=
 if a.2.2.2.1.length * 48≤140737488355328∧a.2.2.2.1.length<n then
  some ((a.2.2.2.1.filter fun x=>del x.2.1).map (·.1),(a.1,a.2.1,a.2.2.1,a.2.2.2.1.filter (fun x=>!del x.2.1),()),())
 else none
abbrev U1 (e m:Nat):List fA:=[.rw (Ci e m) [e,m] [4294967295] [m]]
abbrev Yh (e m:Nat):List fA:=[.rw (O1 e m) [e,m] [4294967295,e] [m,4294967294]]
abbrev Vl (i:Nat):List ug:=[.own (.sl i (.int .i64)) [i] [] []]
def num (q:uu×Nat):Int×Int×Int×Nat×Unit:=(q.1.1,q.1.2.1,q.1.2.2.1,q.2,())
def Dw (xs:List uu) (i:Nat):List Int:=((xs[i - 1]?).map fun x=>x.2.2.2.1).getD []
theorem PN {e:Nat} {xs:List uu} {z:Bool}:∀q∈xs.zipIdx 1,Rw e (.int .u8) z (Dw xs) (O3 e) (D6 e) q.1 (num q) [q.2]:=by
 rintro ⟨⟨a,b,c,m,u⟩,i⟩ hq
 have h:=Fx (m:=fun x:uu=>x.2.2.2.1) (d:=[]) hq
 refine ⟨[],[i],rfl,⟨rfl,rfl,rfl⟩,[],[i],rfl,⟨rfl,rfl,rfl⟩,[],[i],rfl,⟨rfl,rfl,rfl⟩,[i],[],rfl,⟨rfl,rfl,rfl,h.1.symm, .inl ⟨h.2,rfl⟩⟩,rfl⟩
theorem EL {e m:Nat} {xs:List uu} {z:Bool} {nm:List Int} {w h:Int} (l:List (uu×Nat)) (hl:∀q∈l,q∈xs.zipIdx 1) :
  Rw e (.int .u8) z (Dw xs) (O1 e m) (Ci e m) (nm,w,h,l.map (·.1),()) (nm,w,h,l.map num,()) (l.map (·.2)):=by
 have hr:=AZ (t:=m) (k:=O3 e) (k':=D6 e) (e:=e) (kk:=.int .u8) (z:=z) (tb:=Dw xs) rfl l (·.1) num (fun q=>[q.2]) (fun q hq=>PN q (hl q hq))
 have hf:∀l:List (uu×Nat),(l.map fun q=>[q.2]).flatten=l.map (·.2):=fun l=>by induction l <;> simp_all
 rw [hf] at hr
 exact ⟨[],_,rfl,⟨rfl,rfl⟩,[],_,rfl,⟨rfl,rfl,rfl⟩,[],_,rfl,⟨rfl,rfl,rfl⟩,_,[],by simp,hr,rfl⟩
abbrev yQ:=Int×Int×Int×Nat×Unit
theorem FC [Fr] {P:Program} {f:FuncId} {e m i n:Nat} {FI:Nat→Cont (kin (U1 e m))→Option (Cont (gU (Vl i)++jD (U1 e m)))}
  (hK:∀fr:Fr, @aB fr P n ⟨f,U1 e m,Vl i,FI⟩)
  (hI:∀(nm:List Int) (w h:Int) (xs:List yQ),xs.length * 48≤140737488355328→xs.length<n→FI n ((nm,w,h,xs,()),())=some ((xs.filter fun x=>del x.2.1).map (·.1),(nm,w,h,xs.filter (fun x=>!del x.2.1),()),())) :
  aB P n ⟨f,Yh e m,Vl i,fun n (c:Cont (kin (Yh e m)))=>tH n c.1⟩:=by
 refine KQ (e:=e) (kk:=.int .u8) (k':=Ci e m) (oG:=[4294967295]) (ht':=[m]) (rs':=Vl i) (F':=FI) rfl (by simp [K.tys,aJ]) (by simp [K.tys,aJ]) (by simp [K.tys,aJ]) hK (by simp [kD,aJ]) (by simp [K.tys]) (by simp) ?_
 rintro ⟨⟨nm,w,h,xs,u⟩,u'⟩ out hF
 have hF:tH n (nm,w,h,xs,u)=some out:=hF
 unfold tH at hF
 split at hF
 case isFalse=>exact absurd hF (by simp)
 case isTrue hc=>
 have hF:=(agr hF).symm
 subst hF
 have e1:(xs.zipIdx 1).map (·.1)=xs:=yl xs
 have hlen:((xs.zipIdx 1).map num).length=xs.length:=by simp
 have e2:xs.filter (fun x=>!del x.2.1)=((xs.zipIdx 1).filter fun q=>!del q.1.2.1).map (·.1):=by
  conv=>lhs; rw [←e1,List.filter_map]
  rfl
 have e3:(xs.filter fun x=>del x.2.1).map (·.1)=(((xs.zipIdx 1).map num).filter fun x=>del x.2.1).map (·.1):=by
  conv=>lhs; rw [←e1]
  rw [List.filter_map,List.filter_map,List.map_map,List.map_map]
  rfl
 have e4:((xs.zipIdx 1).map num).filter (fun x=>!del x.2.1)=((xs.zipIdx 1).filter fun q=>!del q.1.2.1).map num:=by
  rw [List.filter_map]; rfl
 have hb0:=EL (e:=e) (m:=m) (xs:=xs) (z:=false) (nm:=nm) (w:=w) (h:=h) (xs.zipIdx 1) (fun q hq=>hq)
 have hb1:=EL (e:=e) (m:=m) (xs:=xs) (z:=true) (nm:=nm) (w:=w) (h:=h) ((xs.zipIdx 1).filter fun q=>!del q.1.2.1) (fun q hq=>(af7.1 hq).1)
 rw [e1] at hb0
 rw [←e2, ←e4] at hb1
 have hsub:(((xs.zipIdx 1).filter fun q=>!del q.1.2.1).map (·.2)).Sublist ((xs.zipIdx 1).map (·.2)):=List.filter_sublist.map _
 refine ⟨(nm,w,h,(xs.zipIdx 1).map num,()),(xs.zipIdx 1).map (·.2),[],((xs.zipIdx 1).filter fun q=>!del q.1.2.1).map (·.2),Dw xs,((((xs.zipIdx 1).map num).filter fun x=>del x.2.1).map (·.1),(nm,w,h,((xs.zipIdx 1).map num).filter (fun x=>!del x.2.1),()),()),hb0,(mq xs).1,(mq xs).2,hI nm w h _ (by rw [hlen]; exact hc.1) (by rw [hlen]; exact hc.2), ?_, ?_, ?_, ?_⟩
 ·refine ⟨[],[],rfl,⟨by simp [K.tys,aJ],by simp [K.tys,aJ], ?_⟩,rfl⟩
  have hr:=AZ (t:=i) (k:=.int .i64) (k':=.int .i64) (e:=e) (kk:=.int .u8) (z:=true) (tb:=Dw xs) rfl ((((xs.zipIdx 1).map num).filter fun x=>del x.2.1).map (·.1)) id id (fun _=>[]) (fun _ _=>⟨rfl,rfl,rfl⟩)
  have hz:∀l:List Int,(l.map fun _=>([]:List Nat)).flatten=[]:=fun l=>by induction l <;> simp_all
  rw [hz,List.map_id] at hr
  show Rw e (.int .u8) true (Dw xs) (.sl i (.int .i64)) (.sl i (.int .i64)) ((xs.filter fun x=>del x.2.1).map (·.1)) _ []
  rw [e3]
  exact hr
 ·show Rw e (.int .u8) true (Dw xs) (O1 e m) (Ci e m) (nm,w,h,xs.filter (fun x=>!del x.2.1),()) (nm,w,h,((xs.zipIdx 1).map num).filter (fun x=>!del x.2.1),()) _
  exact hb1
 ·simpa using (mq xs).1.sublist hsub
 ·intro a ha
  exact hsub.subset (by simpa using ha)
end Go.Proofs.Ytabnmpabdhmkoaa.gy
