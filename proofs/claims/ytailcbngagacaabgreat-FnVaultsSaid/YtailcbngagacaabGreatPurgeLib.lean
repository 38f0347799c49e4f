/- A function that parts the rows of a box by a flag: over owned rows, from the same over ids. No program in sight. -/
import Derived.Test.YtailcbngagacaabGreatPartLib
set_option linter.unusedVariables false
set_option linter.unusedSimpArgs false
namespace Go.Proofs.YtailcbngagacaabGreat.rR
open Go Ow
abbrev Fv (e:Nat):K:=.st (.pair (.int .i64) (.pair (.int .i64) (.pair (.int .i64) (.pair (.id e) .unit))))
abbrev Jk (e:Nat):K:=.st (.pair (.int .i64) (.pair (.int .i64) (.pair (.int .i64) (.pair (.sl e (.int .u8)) .unit))))
abbrev CE (e m:Nat):K:=.st (.pair .str (.pair (.int .i64) (.pair (.int .i64) (.pair (.sl m (Fv e)) .unit))))
abbrev Jj (e m:Nat):K:=.st (.pair .str (.pair (.int .i64) (.pair (.int .i64) (.pair (.sl m (Jk e)) .unit))))
abbrev oh:=Int×Int×Int×List Int×Unit
def del (y:Int):Bool:=!decide ((IntKind.i64.wrap ((BitVec.ofInt (IntKind.bits .i64) y &&& BitVec.ofInt (IntKind.bits .i64) (8:Int)).toNat))=(0:Int))
def DD (n:Nat) (a:List Int×Int×Int×List oh×Unit):Option (List Int×(List Int×Int×Int×List oh×Unit)×Unit):=
 if a.2.2.2.1.length * 48<=140737488355328/\a.2.2.2.1.length<n then
  some ((a.2.2.2.1.filter fun x=>del x.2.1).map (·.1),(a.1,a.2.1,a.2.2.1,a.2.2.2.1.filter (fun x=>!del x.2.1),()),())
 else none
abbrev CQ (e m:Nat):List aV:=[.rw (CE e m) [e,m] [4294967295] [m]]
abbrev JI (e m:Nat):List aV:=[.rw (Jj e m) [e,m] [4294967295,e] [m,4294967294]]
abbrev FV (i:Nat):List gK:=[.own (.sl i (.int .i64)) [i] [] []]
def num (q:oh×Nat):Int×Int×Int×Nat×Unit:=(q.1.1,q.1.2.1,q.1.2.2.1,q.2,())
def xy (xs:List oh) (i:Nat):List Int:=((xs[i - 1]?).map fun x=>x.2.2.2.1).getD []
theorem abV {e:Nat} {xs:List oh} {z:Bool}:∀q∈xs.zipIdx 1,Rw e (.int .u8) z (xy xs) (Jk e) (Fv e) q.1 (num q) [q.2]:=by
 rintro ⟨⟨a,b,c,m,u⟩,i⟩ hq
 have h:=TS (m:=fun x:oh=>x.2.2.2.1) (d:=[]) hq
 refine ⟨[],[i],rfl,⟨rfl,rfl,rfl⟩,[],[i],rfl,⟨rfl,rfl,rfl⟩,[],[i],rfl,⟨rfl,rfl,rfl⟩,[i],[],rfl,⟨rfl,rfl,rfl,h.1.symm, .inl ⟨h.2,rfl⟩⟩,rfl⟩
theorem MH {e m:Nat} {xs:List oh} {z:Bool} {nm:List Int} {w h:Int} (l:List (oh×Nat)) (hl:∀q∈l,q∈xs.zipIdx 1) :
  Rw e (.int .u8) z (xy xs) (Jj e m) (CE e m) (nm,w,h,l.map (·.1),()) (nm,w,h,l.map num,()) (l.map (·.2)):=by
 have hr:=H_ (t:=m) (k:=Jk e) (k':=Fv e) (e:=e) (kk:=.int .u8) (z:=z) (tb:=xy xs) rfl l (·.1) num (fun q=>[q.2]) (fun q hq=>abV q (hl q hq))
 have hf:∀l:List (oh×Nat),(l.map fun q=>[q.2]).flatten=l.map (·.2):=fun l=>by induction l <;> simp_all
 rw [hf] at hr
 exact ⟨[],_,rfl,⟨rfl,rfl⟩,[],_,rfl,⟨rfl,rfl,rfl⟩,[],_,rfl,⟨rfl,rfl,rfl⟩,_,[],by simp,hr,rfl⟩
abbrev sZ:=Int×Int×Int×Nat×Unit
theorem anb [Fr] {P:Program} {f:FuncId} {e m i n:Nat} {FI:Nat->Cont (kin (CQ e m))->Option (Cont (eP (FV i)++gy (CQ e m)))}
  (hK:∀fr:Fr, @aC fr P n ⟨f,CQ e m,FV i,FI⟩)
  (hI:∀(nm:List Int) (w h:Int) (xs:List sZ),xs.length * 48<=140737488355328->xs.length<n->FI n ((nm,w,h,xs,()),())=some ((xs.filter fun x=>del x.2.1).map (·.1),(nm,w,h,xs.filter (fun x=>!del x.2.1),()),())) :
  aC P n ⟨f,JI e m,FV i,fun n (c:Cont (kin (JI e m)))=>DD n c.1⟩:=by
 refine aat (e:=e) (kk:=.int .u8) (k':=CE e m) (dY:=[4294967295]) (ht':=[m]) (rs':=FV i) (F':=FI) rfl (by simp [K.tys,b_]) (by simp [K.tys,b_]) (by simp [K.tys,b_]) hK (by simp [iL,b_]) (by simp [K.tys]) (by simp) ?_
 rintro ⟨⟨nm,w,h,xs,u⟩,u'⟩ out hF
 have hF:DD n (nm,w,h,xs,u)=some out:=hF
 unfold DD at hF
 split at hF
 case isFalse=>exact absurd hF (by simp)
 case isTrue hc=>
 have hF:=(jZ hF).symm
 subst hF
 have e1:(xs.zipIdx 1).map (·.1)=xs:=Jz xs
 have hlen:((xs.zipIdx 1).map num).length=xs.length:=by simp
 have e2:xs.filter (fun x=>!del x.2.1)=((xs.zipIdx 1).filter fun q=>!del q.1.2.1).map (·.1):=by
  conv=>lhs; rw [<-e1,y_]
  rfl
 have e3:(xs.filter fun x=>del x.2.1).map (·.1)=(((xs.zipIdx 1).map num).filter fun x=>del x.2.1).map (·.1):=by
  conv=>lhs; rw [<-e1]
  rw [y_,y_,Mf,Mf]
  rfl
 have e4:((xs.zipIdx 1).map num).filter (fun x=>!del x.2.1)=((xs.zipIdx 1).filter fun q=>!del q.1.2.1).map num:=by
  rw [y_]; rfl
 have hb0:=MH (e:=e) (m:=m) (xs:=xs) (z:=false) (nm:=nm) (w:=w) (h:=h) (xs.zipIdx 1) (fun q hq=>hq)
 have hb1:=MH (e:=e) (m:=m) (xs:=xs) (z:=true) (nm:=nm) (w:=w) (h:=h) ((xs.zipIdx 1).filter fun q=>!del q.1.2.1) (fun q hq=>(eG.1 hq).1)
 rw [e1] at hb0
 rw [<-e2, <-e4] at hb1
 have hsub:(((xs.zipIdx 1).filter fun q=>!del q.1.2.1).map (·.2)).Sublist ((xs.zipIdx 1).map (·.2)):=List.filter_sublist.map _
 refine ⟨(nm,w,h,(xs.zipIdx 1).map num,()),(xs.zipIdx 1).map (·.2),[],((xs.zipIdx 1).filter fun q=>!del q.1.2.1).map (·.2),xy xs,((((xs.zipIdx 1).map num).filter fun x=>del x.2.1).map (·.1),(nm,w,h,((xs.zipIdx 1).map num).filter (fun x=>!del x.2.1),()),()),hb0,(yD xs).1,(yD xs).2,hI nm w h _ (by rw [hlen]; exact hc.1) (by rw [hlen]; exact hc.2), ?_, ?_, ?_, ?_⟩
 ·refine ⟨[],[],rfl,⟨by simp [K.tys,b_],by simp [K.tys,b_], ?_⟩,rfl⟩
  have hr:=H_ (t:=i) (k:=.int .i64) (k':=.int .i64) (e:=e) (kk:=.int .u8) (z:=true) (tb:=xy xs) rfl ((((xs.zipIdx 1).map num).filter fun x=>del x.2.1).map (·.1)) id id (fun _=>[]) (fun _ _=>⟨rfl,rfl,rfl⟩)
  have hz:∀l:List Int,(l.map fun _=>([]:List Nat)).flatten=[]:=fun l=>by induction l <;> simp_all
  rw [hz,List.map_id] at hr
  show Rw e (.int .u8) true (xy xs) (.sl i (.int .i64)) (.sl i (.int .i64)) ((xs.filter fun x=>del x.2.1).map (·.1)) _ []
  rw [e3]
  exact hr
 ·show Rw e (.int .u8) true (xy xs) (Jj e m) (CE e m) (nm,w,h,xs.filter (fun x=>!del x.2.1),()) (nm,w,h,((xs.zipIdx 1).map num).filter (fun x=>!del x.2.1),()) _
  exact hb1
 ·simpa using (yD xs).1.sublist hsub
 ·intro a ha
  exact hsub.subset (by simpa using ha)
end Go.Proofs.YtailcbngagacaabGreat.rR
