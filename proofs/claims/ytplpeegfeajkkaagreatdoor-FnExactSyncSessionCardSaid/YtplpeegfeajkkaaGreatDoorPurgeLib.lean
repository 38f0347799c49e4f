/- A function that parts the rows of a box by a flag: over owned rows, from the same over ids. No program in sight. -/
import Derived.Test.YtplpeegfeajkkaaGreatDoorPartLib
set_option linter.unusedVariables false
set_option linter.unusedSimpArgs false
namespace Go.Proofs.YtplpeegfeajkkaaGreatDoor.r_
open Go Ow
abbrev Fv(e:Nat):K:=.st (.pair (.int .i64) (.pair (.int .i64) (.pair (.int .i64) (.pair (.id e) .unit))))
abbrev JK(e:Nat):K:=.st (.pair (.int .i64) (.pair (.int .i64) (.pair (.int .i64) (.pair (.sl e (.int .u8)) .unit))))
abbrev CL(e m:Nat):K:=.st (.pair .str (.pair (.int .i64) (.pair (.int .i64) (.pair (.sl m (Fv e)) .unit))))
abbrev JI(e m:Nat):K:=.st (.pair .str (.pair (.int .i64) (.pair (.int .i64) (.pair (.sl m (JK e)) .unit))))
abbrev oH:=Int×Int×Int×List Int×Unit
def del(y:Int):Bool:=!decide ((IntKind.i64.wrap ((BitVec.ofInt (IntKind.bits .i64) y &&& BitVec.ofInt (IntKind.bits .i64) (8:Int)).toNat))=(0:Int))
def DI(n:Nat)(a:List Int×Int×Int×List oH×Unit):Option (List Int×(List Int×Int×Int×List oH×Unit)×Unit):=
 if a.2.2.2.1.length*48<=140737488355328/\a.2.2.2.1.length<n then
  some ((a.2.2.2.1.filter λx=>del x.2.1).map (·.1),(a.1,a.2.1,a.2.2.1,a.2.2.2.1.filter (λx=>!del x.2.1),()),())
 else none
abbrev CX(e m:Nat):List aD:=[.rw (CL e m) [e,m] [4294967295] [m]]
abbrev Ke(e m:Nat):List aD:=[.rw (JI e m) [e,m] [4294967295,e] [m,4294967294]]
abbrev FW(i:Nat):List bN:=[.own (.sl i (.int .i64)) [i] [] []]
def num(q:oH×Nat):Int×Int×Int×Nat×Unit:=(q.1.1,q.1.2.1,q.1.2.2.1,q.2,())
def xL(xs:List oH)(i:Nat):List Int:=((xs[i-1]?).map λx=>x.2.2.2.1).getD []
theorem ad3{e:Nat}{xs:List oH}{z:Bool}:∀q∈xs.zipIdx 1,Rw e (.int .u8) z (xL xs) (JK e) (Fv e) q.1 (num q) [q.2]:=by
 rintro⟨⟨a,b,c,m,u⟩,i⟩ hq
 have h:=UC (m:=λx:oH=>x.2.2.2.1) (d:=[]) hq
 refine⟨[],[i],rfl,⟨rfl,rfl,rfl⟩,[],[i],rfl,⟨rfl,rfl,rfl⟩,[],[i],rfl,⟨rfl,rfl,rfl⟩,[i],[],rfl,⟨rfl,rfl,rfl,h.1.symm,.inl ⟨h.2,rfl⟩⟩,rfl⟩
theorem Nh{e m:Nat}{xs:List oH}{z:Bool}{nm:List Int}{w h:Int}(l:List (oH×Nat))(hl:∀q∈l,q∈xs.zipIdx 1) :
  Rw e (.int .u8) z (xL xs) (JI e m) (CL e m) (nm,w,h,l.map (·.1),()) (nm,w,h,l.map num,()) (l.map (·.2)):=by
 have hr:=IA (t:=m) (k:=JK e) (k':=Fv e) (e:=e) (kk:=.int .u8) (z:=z) (tb:=xL xs) rfl l (·.1) num (λq=>[q.2]) (λq hq=>ad3 q (hl q hq))
 have hf:∀l:List (oH×Nat),(l.map λq=>[q.2]).flatten=l.map (·.2):=λl=>by induction l<;>simp_all
 rw[hf]at hr
 exact⟨[],_,rfl,⟨rfl,rfl⟩,[],_,rfl,⟨rfl,rfl,rfl⟩,[],_,rfl,⟨rfl,rfl,rfl⟩,_,[],by simp,hr,rfl⟩
abbrev tZ:=Int×Int×Int×Nat×Unit
theorem aq8[Fr]{P:Program}{f:FuncId}{e m i n:Nat}{FI:Nat->Cont (kin (CX e m))->Option (Cont (eU (FW i)++gI (CX e m)))}
  (hK:∀fr:Fr,@aA fr P n ⟨f,CX e m,FW i,FI⟩)
  (hI:∀(nm:List Int) (w h:Int) (xs:List tZ),xs.length*48<=140737488355328->xs.length<n->FI n ((nm,w,h,xs,()),())=some ((xs.filter λx=>del x.2.1).map (·.1),(nm,w,h,xs.filter (λx=>!del x.2.1),()),())) :
  aA P n ⟨f,Ke e m,FW i,λn (c:Cont (kin (Ke e m)))=>DI n c.1⟩:=by
 refine abR (e:=e) (kk:=.int .u8) (k':=CL e m) (eG:=[4294967295]) (ht':=[m]) (rs':=FW i) (F':=FI) rfl (by simp[K.tys,dh]) (by simp[K.tys,dh]) (by simp[K.tys,dh]) hK (by simp[iM,dh]) (by simp[K.tys]) (by simp) ?_
 rintro⟨⟨nm,w,h,xs,u⟩,u'⟩ out hF
 have hF:DI n (nm,w,h,xs,u)=some out:=hF
 unfold DI at hF
 split at hF
 case isFalse=>exact absurd hF (by simp)
 case isTrue hc=>
 have hF:=(jc hF).symm
 subst hF
 have e1:(xs.zipIdx 1).map (·.1)=xs:=J5 xs
 have hlen:((xs.zipIdx 1).map num).length=xs.length:=by simp
 have e2:xs.filter (λx=>!del x.2.1)=((xs.zipIdx 1).filter λq=>!del q.1.2.1).map (·.1):=by
  conv=>lhs;rw[<-e1,zw]
  rfl
 have e3:(xs.filter λx=>del x.2.1).map (·.1)=(((xs.zipIdx 1).map num).filter λx=>del x.2.1).map (·.1):=by
  conv=>lhs;rw[<-e1]
  rw[zw,zw,MS,MS]
  rfl
 have e4:((xs.zipIdx 1).map num).filter (λx=>!del x.2.1)=((xs.zipIdx 1).filter λq=>!del q.1.2.1).map num:=by
  rw[zw];rfl
 have hb0:=Nh (e:=e) (m:=m) (xs:=xs) (z:=false) (nm:=nm) (w:=w) (h:=h) (xs.zipIdx 1) (λq hq=>hq)
 have hb1:=Nh (e:=e) (m:=m) (xs:=xs) (z:=true) (nm:=nm) (w:=w) (h:=h) ((xs.zipIdx 1).filter λq=>!del q.1.2.1) (λq hq=>(eH.1 hq).1)
 rw[e1]at hb0
 rw[<-e2,<-e4]at hb1
 have hsub:(((xs.zipIdx 1).filter λq=>!del q.1.2.1).map (·.2)).Sublist ((xs.zipIdx 1).map (·.2)):=List.filter_sublist.map _
 refine⟨(nm,w,h,(xs.zipIdx 1).map num,()),(xs.zipIdx 1).map (·.2),[],((xs.zipIdx 1).filter λq=>!del q.1.2.1).map (·.2),xL xs,((((xs.zipIdx 1).map num).filter λx=>del x.2.1).map (·.1),(nm,w,h,((xs.zipIdx 1).map num).filter (λx=>!del x.2.1),()),()),hb0,(yS xs).1,(yS xs).2,hI nm w h _ (by rw[hlen];exact hc.1) (by rw[hlen];exact hc.2),?_,?_,?_,?_⟩
 ·refine⟨[],[],rfl,⟨by simp[K.tys,dh],by simp[K.tys,dh],?_⟩,rfl⟩
  have hr:=IA (t:=i) (k:=.int .i64) (k':=.int .i64) (e:=e) (kk:=.int .u8) (z:=true) (tb:=xL xs) rfl ((((xs.zipIdx 1).map num).filter λx=>del x.2.1).map (·.1)) id id (λ_=>[]) (λ_ _=>⟨rfl,rfl,rfl⟩)
  have hz:∀l:List Int,(l.map λ_=>([]:List Nat)).flatten=[]:=λl=>by induction l<;>simp_all
  rw[hz,List.map_id]at hr
  show Rw e (.int .u8) true (xL xs) (.sl i (.int .i64)) (.sl i (.int .i64)) ((xs.filter λx=>del x.2.1).map (·.1)) _ []
  rw[e3]
  exact hr
 ·show Rw e (.int .u8) true (xL xs) (JI e m) (CL e m) (nm,w,h,xs.filter (λx=>!del x.2.1),()) (nm,w,h,((xs.zipIdx 1).map num).filter (λx=>!del x.2.1),()) _
  exact hb1
 ·simpa using (yS xs).1.sublist hsub
 ·intro a ha
  exact hsub.subset (by simpa using ha)
end Go.Proofs.YtplpeegfeajkkaaGreatDoor.r_
