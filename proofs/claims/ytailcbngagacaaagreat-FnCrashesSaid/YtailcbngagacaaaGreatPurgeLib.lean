/- A function that parts the rows of a box by a flag: over owned rows, from the same over ids. No program in sight. -/
import Derived.Test.YtailcbngagacaaaGreatPartLib
set_option linter.unusedVariables false
set_option linter.unusedSimpArgs false
namespace Go.Proofs.YtailcbngagacaaaGreat.rV
open Go Ow
abbrev Fp (e:Nat):K:=.st (.pair (.int .i64) (.pair (.int .i64) (.pair (.int .i64) (.pair (.id e) .unit))))
abbrev Jn (e:Nat):K:=.st (.pair (.int .i64) (.pair (.int .i64) (.pair (.int .i64) (.pair (.sl e (.int .u8)) .unit))))
abbrev CQ (e m:Nat):K:=.st (.pair .str (.pair (.int .i64) (.pair (.int .i64) (.pair (.sl m (Fp e)) .unit))))
abbrev Jm (e m:Nat):K:=.st (.pair .str (.pair (.int .i64) (.pair (.int .i64) (.pair (.sl m (Jn e)) .unit))))
abbrev oq:=Int×Int×Int×List Int×Unit
def del (y:Int):Bool:=!decide ((IntKind.i64.wrap ((BitVec.ofInt (IntKind.bits .i64) y &&& BitVec.ofInt (IntKind.bits .i64) (8:Int)).toNat))=(0:Int))
def DF (n:Nat) (a:List Int×Int×Int×List oq×Unit):Option (List Int×(List Int×Int×Int×List oq×Unit)×Unit):=
 if a.2.2.2.1.length * 48<=140737488355328/\a.2.2.2.1.length<n then
  some ((a.2.2.2.1.filter fun x=>del x.2.1).map (·.1),(a.1,a.2.1,a.2.2.1,a.2.2.2.1.filter (fun x=>!del x.2.1),()),())
 else none
abbrev CZ (e m:Nat):List aV:=[.rw (CQ e m) [e,m] [4294967295] [m]]
abbrev JJ (e m:Nat):List aV:=[.rw (Jm e m) [e,m] [4294967295,e] [m,4294967294]]
abbrev FT (i:Nat):List gN:=[.own (.sl i (.int .i64)) [i] [] []]
def num (q:oq×Nat):Int×Int×Int×Nat×Unit:=(q.1.1,q.1.2.1,q.1.2.2.1,q.2,())
def xA (xs:List oq) (i:Nat):List Int:=((xs[i - 1]?).map fun x=>x.2.2.2.1).getD []
theorem abW {e:Nat} {xs:List oq} {z:Bool}:∀q∈xs.zipIdx 1,Rw e (.int .u8) z (xA xs) (Jn e) (Fp e) q.1 (num q) [q.2]:=by
 rintro ⟨⟨a,b,c,m,u⟩,i⟩ hq
 have h:=TK (m:=fun x:oq=>x.2.2.2.1) (d:=[]) hq
 refine ⟨[],[i],rfl,⟨rfl,rfl,rfl⟩,[],[i],rfl,⟨rfl,rfl,rfl⟩,[],[i],rfl,⟨rfl,rfl,rfl⟩,[i],[],rfl,⟨rfl,rfl,rfl,h.1.symm, .inl ⟨h.2,rfl⟩⟩,rfl⟩
theorem MJ {e m:Nat} {xs:List oq} {z:Bool} {nm:List Int} {w h:Int} (l:List (oq×Nat)) (hl:∀q∈l,q∈xs.zipIdx 1) :
  Rw e (.int .u8) z (xA xs) (Jm e m) (CQ e m) (nm,w,h,l.map (·.1),()) (nm,w,h,l.map num,()) (l.map (·.2)):=by
 have hr:=Ic (t:=m) (k:=Jn e) (k':=Fp e) (e:=e) (kk:=.int .u8) (z:=z) (tb:=xA xs) rfl l (·.1) num (fun q=>[q.2]) (fun q hq=>abW q (hl q hq))
 have hf:∀l:List (oq×Nat),(l.map fun q=>[q.2]).flatten=l.map (·.2):=fun l=>by induction l <;> simp_all
 rw [hf] at hr
 exact ⟨[],_,rfl,⟨rfl,rfl⟩,[],_,rfl,⟨rfl,rfl,rfl⟩,[],_,rfl,⟨rfl,rfl,rfl⟩,_,[],by simp,hr,rfl⟩
abbrev tC:=Int×Int×Int×Nat×Unit
theorem amY [Fr] {P:Program} {f:FuncId} {e m i n:Nat} {FI:Nat->Cont (kin (CZ e m))->Option (Cont (eO (FT i)++gq (CZ e m)))}
  (hK:∀fr:Fr, @aD fr P n ⟨f,CZ e m,FT i,FI⟩)
  (hI:∀(nm:List Int) (w h:Int) (xs:List tC),xs.length * 48<=140737488355328->xs.length<n->FI n ((nm,w,h,xs,()),())=some ((xs.filter fun x=>del x.2.1).map (·.1),(nm,w,h,xs.filter (fun x=>!del x.2.1),()),())) :
  aD P n ⟨f,JJ e m,FT i,fun n (c:Cont (kin (JJ e m)))=>DF n c.1⟩:=by
 refine aas (e:=e) (kk:=.int .u8) (k':=CQ e m) (dX:=[4294967295]) (ht':=[m]) (rs':=FT i) (F':=FI) rfl (by simp [K.tys,b_]) (by simp [K.tys,b_]) (by simp [K.tys,b_]) hK (by simp [iK,b_]) (by simp [K.tys]) (by simp) ?_
 rintro ⟨⟨nm,w,h,xs,u⟩,u'⟩ out hF
 have hF:DF n (nm,w,h,xs,u)=some out:=hF
 unfold DF at hF
 split at hF
 case isFalse=>exact absurd hF (by simp)
 case isTrue hc=>
 have hF:=(j4 hF).symm
 subst hF
 have e1:(xs.zipIdx 1).map (·.1)=xs:=JB xs
 have hlen:((xs.zipIdx 1).map num).length=xs.length:=by simp
 have e2:xs.filter (fun x=>!del x.2.1)=((xs.zipIdx 1).filter fun q=>!del q.1.2.1).map (·.1):=by
  conv=>lhs; rw [<-e1,y8]
  rfl
 have e3:(xs.filter fun x=>del x.2.1).map (·.1)=(((xs.zipIdx 1).map num).filter fun x=>del x.2.1).map (·.1):=by
  conv=>lhs; rw [<-e1]
  rw [y8,y8,Mf,Mf]
  rfl
 have e4:((xs.zipIdx 1).map num).filter (fun x=>!del x.2.1)=((xs.zipIdx 1).filter fun q=>!del q.1.2.1).map num:=by
  rw [y8]; rfl
 have hb0:=MJ (e:=e) (m:=m) (xs:=xs) (z:=false) (nm:=nm) (w:=w) (h:=h) (xs.zipIdx 1) (fun q hq=>hq)
 have hb1:=MJ (e:=e) (m:=m) (xs:=xs) (z:=true) (nm:=nm) (w:=w) (h:=h) ((xs.zipIdx 1).filter fun q=>!del q.1.2.1) (fun q hq=>(eF.1 hq).1)
 rw [e1] at hb0
 rw [<-e2, <-e4] at hb1
 have hsub:(((xs.zipIdx 1).filter fun q=>!del q.1.2.1).map (·.2)).Sublist ((xs.zipIdx 1).map (·.2)):=List.filter_sublist.map _
 refine ⟨(nm,w,h,(xs.zipIdx 1).map num,()),(xs.zipIdx 1).map (·.2),[],((xs.zipIdx 1).filter fun q=>!del q.1.2.1).map (·.2),xA xs,((((xs.zipIdx 1).map num).filter fun x=>del x.2.1).map (·.1),(nm,w,h,((xs.zipIdx 1).map num).filter (fun x=>!del x.2.1),()),()),hb0,(yE xs).1,(yE xs).2,hI nm w h _ (by rw [hlen]; exact hc.1) (by rw [hlen]; exact hc.2), ?_, ?_, ?_, ?_⟩
 ·refine ⟨[],[],rfl,⟨by simp [K.tys,b_],by simp [K.tys,b_], ?_⟩,rfl⟩
  have hr:=Ic (t:=i) (k:=.int .i64) (k':=.int .i64) (e:=e) (kk:=.int .u8) (z:=true) (tb:=xA xs) rfl ((((xs.zipIdx 1).map num).filter fun x=>del x.2.1).map (·.1)) id id (fun _=>[]) (fun _ _=>⟨rfl,rfl,rfl⟩)
  have hz:∀l:List Int,(l.map fun _=>([]:List Nat)).flatten=[]:=fun l=>by induction l <;> simp_all
  rw [hz,List.map_id] at hr
  show Rw e (.int .u8) true (xA xs) (.sl i (.int .i64)) (.sl i (.int .i64)) ((xs.filter fun x=>del x.2.1).map (·.1)) _ []
  rw [e3]
  exact hr
 ·show Rw e (.int .u8) true (xA xs) (Jm e m) (CQ e m) (nm,w,h,xs.filter (fun x=>!del x.2.1),()) (nm,w,h,((xs.zipIdx 1).map num).filter (fun x=>!del x.2.1),()) _
  exact hb1
 ·simpa using (yE xs).1.sublist hsub
 ·intro a ha
  exact hsub.subset (by simpa using ha)
end Go.Proofs.YtailcbngagacaaaGreat.rV
