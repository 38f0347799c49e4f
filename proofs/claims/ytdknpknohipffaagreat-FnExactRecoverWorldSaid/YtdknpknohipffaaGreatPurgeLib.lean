/- A function that parts the rows of a box by a flag: over owned rows, from the same over ids. No program in sight. -/
import Derived.Test.YtdknpknohipffaaGreatOwF
import Derived.Test.YtdknpknohipffaaGreatPartLib
set_option linter.unusedSectionVars false
set_option linter.unusedVariables false
set_option linter.unusedSimpArgs false
namespace Go.Proofs.YtdknpknohipffaaGreat.kT
open Go Go.Proofs.YtdknpknohipffaaGreat.Ow
abbrev Pm (e:Nat):K:=.st (.pair (.int .i64) (.pair (.int .i64) (.pair (.int .i64) (.pair (.id e) .unit))))
abbrev aa0 (e:Nat):K:=.st (.pair (.int .i64) (.pair (.int .i64) (.pair (.int .i64) (.pair (.sl e (.int .u8)) .unit))))
abbrev Nn (e m:Nat):K:=.st (.pair .str (.pair (.int .i64) (.pair (.int .i64) (.pair (.sl m (Pm e)) .unit))))
abbrev aaZ (e m:Nat):K:=.st (.pair .str (.pair (.int .i64) (.pair (.int .i64) (.pair (.sl m (aa0 e)) .unit))))
abbrev CQ:=Int×Int×Int×List Int×Unit
def del (y:Int):Bool:=!decide ((IntKind.i64.wrap ((BitVec.ofInt (IntKind.bits .i64) y &&& BitVec.ofInt (IntKind.bits .i64) (8:Int)).toNat))=(0:Int))
def Bt (n:Nat) (a:List Int×Int×Int×List CQ×Unit):Option (List Int×(List Int×Int×Int×List CQ×Unit)×Unit):=
 if a.2.2.2.1.length * 48≤140737488355328∧a.2.2.2.1.length<n then
  some ((a.2.2.2.1.filter fun x=>del x.2.1).map (·.1),(a.1,a.2.1,a.2.2.1,a.2.2.2.1.filter (fun x=>!del x.2.1),()),())
 else none
abbrev psI (e m:Nat):List dn:=[.rw (Nn e m) [e,m] [4294967295] [m]]
abbrev psP (e m:Nat):List dn:=[.rw (aaZ e m) [e,m] [4294967295,e] [m,4294967294]]
abbrev rsP (i:Nat):List jY:=[.own (.sl i (.int .i64)) [i] [] []]
def num (q:CQ×Nat):Int×Int×Int×Nat×Unit:=(q.1.1,q.1.2.1,q.1.2.2.1,q.2,())
def OT (xs:List CQ) (i:Nat):List Int:=((xs[i - 1]?).map fun x=>x.2.2.2.1).getD []
theorem abG {e:Nat} {xs:List CQ} {z:Bool}:∀q∈xs.zipIdx 1,Rw e (.int .u8) z (OT xs) (aa0 e) (Pm e) q.1 (num q) [q.2]:=by
 rintro ⟨⟨a,b,c,m,u⟩,i⟩ hq
 have h:=Q7 (m:=fun x:CQ=>x.2.2.2.1) (d:=[]) hq
 refine ⟨[],[i],rfl,⟨rfl,rfl,rfl⟩,[],[i],rfl,⟨rfl,rfl,rfl⟩,[],[i],rfl,⟨rfl,rfl,rfl⟩,[i],[],rfl,⟨rfl,rfl,rfl,h.1.symm, .inl ⟨h.2,rfl⟩⟩,rfl⟩
theorem Qr {e m:Nat} {xs:List CQ} {z:Bool} {nm:List Int} {w h:Int} (l:List (CQ×Nat)) (hl:∀q∈l,q∈xs.zipIdx 1) :
  Rw e (.int .u8) z (OT xs) (aaZ e m) (Nn e m) (nm,w,h,l.map (·.1),()) (nm,w,h,l.map num,()) (l.map (·.2)):=by
 have hr:=Mc (t:=m) (k:=aa0 e) (k':=Pm e) (e:=e) (kk:=.int .u8) (z:=z) (tb:=OT xs) rfl l (·.1) num (fun q=>[q.2]) (fun q hq=>abG q (hl q hq))
 have hf:∀l:List (CQ×Nat),(l.map fun q=>[q.2]).flatten=l.map (·.2):=fun l=>by induction l <;> simp_all
 rw [hf] at hr
 exact ⟨[],_,rfl,⟨rfl,rfl⟩,[],_,rfl,⟨rfl,rfl,rfl⟩,[],_,rfl,⟨rfl,rfl,rfl⟩,_,[],by simp,hr,rfl⟩
abbrev Jt:=Int×Int×Int×Nat×Unit
theorem Ra [Fr] {P:Program} {f:FuncId} {e m i n:Nat} {FI:Nat→Cont (kin (psI e m))→Option (Cont (iF (rsP i)++lG (psI e m)))}
  (hK:∀fr:Fr, @ak fr P n ⟨f,psI e m,rsP i,FI⟩)
  (hI:∀(nm:List Int) (w h:Int) (xs:List Jt),xs.length * 48≤140737488355328→xs.length<n→FI n ((nm,w,h,xs,()),())=some ((xs.filter fun x=>del x.2.1).map (·.1),(nm,w,h,xs.filter (fun x=>!del x.2.1),()),())) :
  ak P n ⟨f,psP e m,rsP i,fun n (c:Cont (kin (psP e m)))=>Bt n c.1⟩:=by
 refine WI (e:=e) (kk:=.int .u8) (k':=Nn e m) (vI:=[4294967295]) (ht':=[m]) (rs':=rsP i) (F':=FI) rfl (by simp [K.tys,aL]) (by simp [K.tys,aL]) (by simp [K.tys,aL]) hK (by simp [oF,aL]) (by simp [K.tys]) (by simp) ?_
 rintro ⟨⟨nm,w,h,xs,u⟩,u'⟩ out hF
 have hF:Bt n (nm,w,h,xs,u)=some out:=hF
 unfold Bt at hF
 split at hF
 case isFalse=>exact absurd hF (by simp)
 case isTrue hc=>
 have hF:=(Option.some.inj hF).symm
 subst hF
 have e1:(xs.zipIdx 1).map (·.1)=xs:=Iw xs
 have hlen:((xs.zipIdx 1).map num).length=xs.length:=by simp
 have e2:xs.filter (fun x=>!del x.2.1)=((xs.zipIdx 1).filter fun q=>!del q.1.2.1).map (·.1):=by
  conv=>lhs; rw [←e1,List.filter_map]
  rfl
 have e3:(xs.filter fun x=>del x.2.1).map (·.1)=(((xs.zipIdx 1).map num).filter fun x=>del x.2.1).map (·.1):=by
  conv=>lhs; rw [←e1]
  rw [List.filter_map,List.filter_map,List.map_map,List.map_map]
  rfl
 have e4:((xs.zipIdx 1).map num).filter (fun x=>!del x.2.1)=((xs.zipIdx 1).filter fun q=>!del q.1.2.1).map num:=by
  rw [List.filter_map]; rfl
 have hb0:=Qr (e:=e) (m:=m) (xs:=xs) (z:=false) (nm:=nm) (w:=w) (h:=h) (xs.zipIdx 1) (fun q hq=>hq)
 have hb1:=Qr (e:=e) (m:=m) (xs:=xs) (z:=true) (nm:=nm) (w:=w) (h:=h) ((xs.zipIdx 1).filter fun q=>!del q.1.2.1) (fun q hq=>(List.mem_filter.1 hq).1)
 rw [e1] at hb0
 rw [←e2, ←e4] at hb1
 have hsub:(((xs.zipIdx 1).filter fun q=>!del q.1.2.1).map (·.2)).Sublist ((xs.zipIdx 1).map (·.2)):=List.filter_sublist.map _
 refine ⟨(nm,w,h,(xs.zipIdx 1).map num,()),(xs.zipIdx 1).map (·.2),[],((xs.zipIdx 1).filter fun q=>!del q.1.2.1).map (·.2),OT xs,((((xs.zipIdx 1).map num).filter fun x=>del x.2.1).map (·.1),(nm,w,h,((xs.zipIdx 1).map num).filter (fun x=>!del x.2.1),()),()),hb0,(rD xs).1,(rD xs).2,hI nm w h _ (by rw [hlen]; exact hc.1) (by rw [hlen]; exact hc.2), ?_, ?_, ?_, ?_⟩
 ·refine ⟨[],[],rfl,⟨by simp [K.tys,aL],by simp [K.tys,aL], ?_⟩,rfl⟩
  have hr:=Mc (t:=i) (k:=.int .i64) (k':=.int .i64) (e:=e) (kk:=.int .u8) (z:=true) (tb:=OT xs) rfl ((((xs.zipIdx 1).map num).filter fun x=>del x.2.1).map (·.1)) id id (fun _=>[]) (fun _ _=>⟨rfl,rfl,rfl⟩)
  have hz:∀l:List Int,(l.map fun _=>([]:List Nat)).flatten=[]:=fun l=>by induction l <;> simp_all
  rw [hz,List.map_id] at hr
  show Rw e (.int .u8) true (OT xs) (.sl i (.int .i64)) (.sl i (.int .i64)) ((xs.filter fun x=>del x.2.1).map (·.1)) _ []
  rw [e3]
  exact hr
 ·show Rw e (.int .u8) true (OT xs) (aaZ e m) (Nn e m) (nm,w,h,xs.filter (fun x=>!del x.2.1),()) (nm,w,h,((xs.zipIdx 1).map num).filter (fun x=>!del x.2.1),()) _
  exact hb1
 ·simpa using (rD xs).1.sublist hsub
 ·intro a ha
  exact hsub.subset (by simpa using ha)
end Go.Proofs.YtdknpknohipffaaGreat.kT
