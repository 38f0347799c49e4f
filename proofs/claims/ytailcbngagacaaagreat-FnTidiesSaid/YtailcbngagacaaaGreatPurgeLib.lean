/- A function that parts the rows of a box by a flag: over owned rows, from the same over ids. No program in sight. -/
import Derived.Test.YtailcbngagacaaaGreatPartLib
set_option linter.unusedVariables false
set_option linter.unusedSimpArgs false
namespace Go.Proofs.YtailcbngagacaaaGreat.kW
open Go Ow
abbrev Jc (e:Nat):K:=.st (.pair (.int .i64) (.pair (.int .i64) (.pair (.int .i64) (.pair (.id e) .unit))))
abbrev VG (e:Nat):K:=.st (.pair (.int .i64) (.pair (.int .i64) (.pair (.int .i64) (.pair (.sl e (.int .u8)) .unit))))
abbrev Gr (e m:Nat):K:=.st (.pair .str (.pair (.int .i64) (.pair (.int .i64) (.pair (.sl m (Jc e)) .unit))))
abbrev VF (e m:Nat):K:=.st (.pair .str (.pair (.int .i64) (.pair (.int .i64) (.pair (.sl m (VG e)) .unit))))
abbrev xN:=Int×Int×Int×List Int×Unit
def del (y:Int):Bool:=!decide ((IntKind.i64.wrap ((BitVec.ofInt (IntKind.bits .i64) y &&& BitVec.ofInt (IntKind.bits .i64) (8:Int)).toNat))=(0:Int))
def wY (n:Nat) (a:List Int×Int×Int×List xN×Unit):Option (List Int×(List Int×Int×Int×List xN×Unit)×Unit):=
 if a.2.2.2.1.length * 48<=140737488355328/\a.2.2.2.1.length<n then
  some ((a.2.2.2.1.filter fun x=>del x.2.1).map (·.1),(a.1,a.2.1,a.2.2.1,a.2.2.2.1.filter (fun x=>!del x.2.1),()),())
 else none
abbrev psI (e m:Nat):List gq:=[.rw (Gr e m) [e,m] [4294967295] [m]]
abbrev psP (e m:Nat):List gq:=[.rw (VF e m) [e,m] [4294967295,e] [m,4294967294]]
abbrev rsP (i:Nat):List xJ:=[.own (.sl i (.int .i64)) [i] [] []]
def num (q:xN×Nat):Int×Int×Int×Nat×Unit:=(q.1.1,q.1.2.1,q.1.2.2.1,q.2,())
def IA (xs:List xN) (i:Nat):List Int:=((xs[i - 1]?).map fun x=>x.2.2.2.1).getD []
theorem Wt {e:Nat} {xs:List xN} {z:Bool}:∀q∈xs.zipIdx 1,Rw e (.int .u8) z (IA xs) (VG e) (Jc e) q.1 (num q) [q.2]:=by
 rintro ⟨⟨a,b,c,m,u⟩,i⟩ hq
 have h:=KF (m:=fun x:xN=>x.2.2.2.1) (d:=[]) hq
 refine ⟨[],[i],rfl,⟨rfl,rfl,rfl⟩,[],[i],rfl,⟨rfl,rfl,rfl⟩,[],[i],rfl,⟨rfl,rfl,rfl⟩,[i],[],rfl,⟨rfl,rfl,rfl,h.1.symm, .inl ⟨h.2,rfl⟩⟩,rfl⟩
theorem J2 {e m:Nat} {xs:List xN} {z:Bool} {nm:List Int} {w h:Int} (l:List (xN×Nat)) (hl:∀q∈l,q∈xs.zipIdx 1) :
  Rw e (.int .u8) z (IA xs) (VF e m) (Gr e m) (nm,w,h,l.map (·.1),()) (nm,w,h,l.map num,()) (l.map (·.2)):=by
 have hr:=EY (t:=m) (k:=VG e) (k':=Jc e) (e:=e) (kk:=.int .u8) (z:=z) (tb:=IA xs) rfl l (·.1) num (fun q=>[q.2]) (fun q hq=>Wt q (hl q hq))
 have hf:∀l:List (xN×Nat),(l.map fun q=>[q.2]).flatten=l.map (·.2):=fun l=>by induction l <;> simp_all
 rw [hf] at hr
 exact ⟨[],_,rfl,⟨rfl,rfl⟩,[],_,rfl,⟨rfl,rfl,rfl⟩,[],_,rfl,⟨rfl,rfl,rfl⟩,_,[],by simp,hr,rfl⟩
abbrev Cy:=Int×Int×Int×Nat×Unit
theorem KJ [Fr] {P:Program} {f:FuncId} {e m i n:Nat} {FI:Nat->Cont (kin (psI e m))->Option (Cont (iZ (rsP i)++lH (psI e m)))}
  (hK:∀fr:Fr, @ak fr P n ⟨f,psI e m,rsP i,FI⟩)
  (hI:∀(nm:List Int) (w h:Int) (xs:List Cy),xs.length * 48<=140737488355328->xs.length<n->FI n ((nm,w,h,xs,()),())=some ((xs.filter fun x=>del x.2.1).map (·.1),(nm,w,h,xs.filter (fun x=>!del x.2.1),()),())) :
  ak P n ⟨f,psP e m,rsP i,fun n (c:Cont (kin (psP e m)))=>wY n c.1⟩:=by
 refine Qu (e:=e) (kk:=.int .u8) (k':=Gr e m) (rE:=[4294967295]) (ht':=[m]) (rs':=rsP i) (F':=FI) rfl (by simp [K.tys,aM]) (by simp [K.tys,aM]) (by simp [K.tys,aM]) hK (by simp [mY,aM]) (by simp [K.tys]) (by simp) ?_
 rintro ⟨⟨nm,w,h,xs,u⟩,u'⟩ out hF
 have hF:wY n (nm,w,h,xs,u)=some out:=hF
 unfold wY at hF
 split at hF
 case isFalse=>exact absurd hF (by simp)
 case isTrue hc=>
 have hF:=(anP hF).symm
 subst hF
 have e1:(xs.zipIdx 1).map (·.1)=xs:=BR xs
 have hlen:((xs.zipIdx 1).map num).length=xs.length:=by simp
 have e2:xs.filter (fun x=>!del x.2.1)=((xs.zipIdx 1).filter fun q=>!del q.1.2.1).map (·.1):=by
  conv=>lhs; rw [<-e1,apa]
  rfl
 have e3:(xs.filter fun x=>del x.2.1).map (·.1)=(((xs.zipIdx 1).map num).filter fun x=>del x.2.1).map (·.1):=by
  conv=>lhs; rw [<-e1]
  rw [apa,apa,apb,apb]
  rfl
 have e4:((xs.zipIdx 1).map num).filter (fun x=>!del x.2.1)=((xs.zipIdx 1).filter fun q=>!del q.1.2.1).map num:=by
  rw [apa]; rfl
 have hb0:=J2 (e:=e) (m:=m) (xs:=xs) (z:=false) (nm:=nm) (w:=w) (h:=h) (xs.zipIdx 1) (fun q hq=>hq)
 have hb1:=J2 (e:=e) (m:=m) (xs:=xs) (z:=true) (nm:=nm) (w:=w) (h:=h) ((xs.zipIdx 1).filter fun q=>!del q.1.2.1) (fun q hq=>(anw.1 hq).1)
 rw [e1] at hb0
 rw [<-e2, <-e4] at hb1
 have hsub:(((xs.zipIdx 1).filter fun q=>!del q.1.2.1).map (·.2)).Sublist ((xs.zipIdx 1).map (·.2)):=List.filter_sublist.map _
 refine ⟨(nm,w,h,(xs.zipIdx 1).map num,()),(xs.zipIdx 1).map (·.2),[],((xs.zipIdx 1).filter fun q=>!del q.1.2.1).map (·.2),IA xs,((((xs.zipIdx 1).map num).filter fun x=>del x.2.1).map (·.1),(nm,w,h,((xs.zipIdx 1).map num).filter (fun x=>!del x.2.1),()),()),hb0,(pq xs).1,(pq xs).2,hI nm w h _ (by rw [hlen]; exact hc.1) (by rw [hlen]; exact hc.2), ?_, ?_, ?_, ?_⟩
 ·refine ⟨[],[],rfl,⟨by simp [K.tys,aM],by simp [K.tys,aM], ?_⟩,rfl⟩
  have hr:=EY (t:=i) (k:=.int .i64) (k':=.int .i64) (e:=e) (kk:=.int .u8) (z:=true) (tb:=IA xs) rfl ((((xs.zipIdx 1).map num).filter fun x=>del x.2.1).map (·.1)) id id (fun _=>[]) (fun _ _=>⟨rfl,rfl,rfl⟩)
  have hz:∀l:List Int,(l.map fun _=>([]:List Nat)).flatten=[]:=fun l=>by induction l <;> simp_all
  rw [hz,List.map_id] at hr
  show Rw e (.int .u8) true (IA xs) (.sl i (.int .i64)) (.sl i (.int .i64)) ((xs.filter fun x=>del x.2.1).map (·.1)) _ []
  rw [e3]
  exact hr
 ·show Rw e (.int .u8) true (IA xs) (VF e m) (Gr e m) (nm,w,h,xs.filter (fun x=>!del x.2.1),()) (nm,w,h,((xs.zipIdx 1).map num).filter (fun x=>!del x.2.1),()) _
  exact hb1
 ·simpa using (pq xs).1.sublist hsub
 ·intro a ha
  exact hsub.subset (by simpa using ha)
end Go.Proofs.YtailcbngagacaaaGreat.kW
