/- The bytes of an op, and how they are read back. No program in sight. -/
import Derived.Test.YtdknpknohipffaaGreatOwF
set_option linter.unusedSectionVars false
set_option linter.unusedVariables false
set_option linter.unusedSimpArgs false
namespace Go.Proofs.YtdknpknohipffaaGreat.Ab
open Go
abbrev MV:=Int×List Int×List Int×List Int×Int×Int×Int×List Int×Unit
abbrev Tk:=List Int×Bool
def two (n:Int):List Int:=[n / 256,n % 256]
def BB (l:List Int):Int:=l.foldl (fun s b=>(s * 31+b) % 65521) 1
def jI (o:MV):List Int:=
 o.1 :: (o.2.1.length:Int) :: (o.2.1++(o.2.2.1.length:Int) :: (o.2.2.1++(o.2.2.2.1.length:Int) :: (o.2.2.2.1.flatMap two++o.2.2.2.2.1 :: o.2.2.2.2.2.1 :: (two o.2.2.2.2.2.2.1++(two (o.2.2.2.2.2.2.2.1.length:Int)++o.2.2.2.2.2.2.2.1)))))
def xU (o:MV):List Int:=two (((jI o).length:Int)+4)++jI o
def fQ (o:MV):List Int:=xU o++two (BB (xU o))
theorem lC (n:Int):(two n).length=2:=rfl
theorem val_two (n:Int):(two n).getD 0 0 * 256+(two n).getD 1 0=n:=by
 show n / 256 * 256+n % 256=n
 omega
theorem Co (us:List Int):(us.flatMap two).length=2 * us.length:=by
 induction us with
 | nil=>rfl
 | cons u us ih=>simp only [List.flatMap_cons,List.length_append,lC,ih,List.length_cons]; omega
theorem Cn (o:MV):(jI o).length=10+o.2.1.length+o.2.2.1.length+2 * o.2.2.2.1.length+o.2.2.2.2.2.2.2.1.length:=by
 simp only [jI,List.length_cons,List.length_append,Co,lC]
 omega
theorem RP (o:MV):(xU o).length=(jI o).length+2:=by simp only [xU,List.length_append,lC]; omega
theorem uP (o:MV):(fQ o).length=(jI o).length+4:=by simp only [fQ,List.length_append,RP,lC]
def gV (n:Nat) (t:Tk):List Int×Tk:=if t.2=true∨t.1.length<n then (List.replicate n 0,(t.1,true)) else (t.1.take n,(t.1.drop n,false))
def iR (t:Tk):Int×Tk:=((gV 1 t).1.getD 0 0,(gV 1 t).2)
def gJ (t:Tk):Int×Tk:=((gV 2 t).1.getD 0 0 * 256+(gV 2 t).1.getD 1 0,(gV 2 t).2)
def pz (t:Tk):Nat→List Int×Tk
 | 0=>([],t)
 | n+1=>((pz t n).1++[(gJ (pz t n).2).1],(gJ (pz t n).2).2)
theorem MP {xs r:List Int}:gV xs.length (xs++r,false)=(xs,(r,false)):=by
 unfold gV
 rw [if_neg (by simp)]
 simp
theorem aae {x:Int} {r:List Int}:iR (x :: r,false)=(x,(r,false)):=by
 have:=MP (xs:=[x]) (r:=r)
 unfold iR
 rw [show gV 1 (x :: r,false)=([x],(r,false)) from this]
 rfl
theorem VU {n:Int} {r:List Int}:gJ (two n++r,false)=(n,(r,false)):=by
 have:=MP (xs:=two n) (r:=r)
 unfold gJ
 rw [show gV 2 (two n++r,false)=(two n,(r,false)) from this,val_two]
theorem ZY {us r:List Int}:pz (us.flatMap two++r,false) us.length=(us,(r,false)):=by
 have h:∀k,k≤us.length→pz (us.flatMap two++r,false) k=(us.take k,((us.drop k).flatMap two++r,false)):=by
  intro k
  induction k with
  | zero=>intro _; simp [pz]
  | succ k ih=>
   intro hk
   have hlt:k<us.length:=by omega
   have hd:us.drop k=us[k] :: us.drop (k+1):=List.drop_eq_getElem_cons hlt
   have ht:us.take (k+1)=us.take k++[us[k]]:=by simp
   rw [pz,ih (by omega)]
   simp only [hd,List.flatMap_cons,List.append_assoc,VU,ht]
 have:=h us.length (Nat.le_refl _)
 simpa using this
structure ag6 (d:List Int) where
 k:Int×Tk:=iR (d,false)
 bn:Int×Tk:=iR k.2
 b:List Int×Tk:=gV bn.1.toNat bn.2
 tn:Int×Tk:=iR b.2
 t:List Int×Tk:=gV tn.1.toNat tn.2
 un:Int×Tk:=iR t.2
 u:List Int×Tk:=pz un.2 un.1.toNat
 m:Int×Tk:=iR u.2
 f:Int×Tk:=iR m.2
 da:Int×Tk:=gJ f.2
 xn:Int×Tk:=gJ da.2
 x:List Int×Tk:=gV xn.1.toNat xn.2
def vE (d:List Int):MV×Tk:=
 let r:ag6 d:={}
 ((r.k.1,r.b.1,r.t.1,r.u.1,r.m.1,r.f.1,r.da.1,r.x.1,()),r.x.2)
theorem Ov (o:MV) (r:List Int):vE (jI o++r)=(o,(r,false)):=by
 obtain ⟨k,b,t,u,m,f,da,x,_⟩:=o
 simp only [vE,jI,List.cons_append,List.append_assoc,aae,Int.toNat_natCast,MP,ZY,VU]
def bO (t:Tk):Int×Tk:=match t.1 with | []=>(0,([],true)) | x :: r=>(x,(r,t.2))
def jo (t:Tk):Int×Tk:=((bO t).1 * 256+(bO (bO t).2).1,(bO (bO t).2).2)
def iM:Nat→Tk→List Int×Tk
 | 0,t=>([],t)
 | n+1,t=>if t.2=true then ([],t) else ((bO t).1 :: (iM n (bO t).2).1,(iM n (bO t).2).2)
def nZ:Nat→Tk→List Int×Tk
 | 0,t=>([],t)
 | n+1,t=>if t.2=true then ([],t) else ((jo t).1 :: (nZ n (jo t).2).1,(nZ n (jo t).2).2)
theorem NM {x:Int} {r:List Int}:bO (x :: r,false)=(x,(r,false)):=rfl
theorem SE {n:Int} {r:List Int}:jo (two n++r,false)=(n,(r,false)):=by
 show (n / 256 * 256+n % 256,(r,false))=_
 rw [show n / 256 * 256+n % 256=n by omega]
theorem NN {r:List Int}:∀{xs:List Int},iM xs.length (xs++r,false)=(xs,(r,false))
 | []=>rfl
 | x :: xs=>by
  rw [List.length_cons,iM,if_neg (by simp),List.cons_append,NM,NN (xs:=xs)]
theorem OP {r:List Int}:∀{us:List Int},nZ us.length (us.flatMap two++r,false)=(us,(r,false))
 | []=>rfl
 | u :: us=>by
  rw [List.length_cons,nZ,if_neg (by simp),List.flatMap_cons,List.append_assoc,SE,OP (us:=us)]
structure ag7 (d:List Int) where
 k:Int×Tk:=bO (d,false)
 bn:Int×Tk:=bO k.2
 b:List Int×Tk:=iM bn.1.toNat bn.2
 tn:Int×Tk:=bO b.2
 t:List Int×Tk:=iM tn.1.toNat tn.2
 un:Int×Tk:=bO t.2
 u:List Int×Tk:=nZ un.1.toNat un.2
 m:Int×Tk:=bO u.2
 f:Int×Tk:=bO m.2
 da:Int×Tk:=jo f.2
 xn:Int×Tk:=jo da.2
 x:List Int×Tk:=iM xn.1.toNat xn.2
def FW (d:List Int):MV×Tk:=
 let r:ag7 d:={}
 ((r.k.1,r.b.1,r.t.1,r.u.1,r.m.1,r.f.1,r.da.1,r.x.1,()),r.x.2)
theorem Eo (o:MV) (r:List Int):FW (jI o++r)=(o,(r,false)):=by
 obtain ⟨k,b,t,u,m,f,da,x,_⟩:=o
 simp only [FW,jI,List.cons_append,List.append_assoc,NM,Int.toNat_natCast,NN,OP,SE]
section
variable {R:MV→Prop}
def Is (R:MV→Prop) (d:List Int) (o:MV):Prop:=R o∧fQ o <+: d
theorem LQ {d:List Int} {o:MV} (h:fQ o <+: d):2≤d.length∧d.getD 0 0 * 256+d.getD 1 0=((fQ o).length:Int)∧d.take (fQ o).length=fQ o:=by
 obtain ⟨r,rfl⟩:=h
 refine ⟨by rw [List.length_append,uP]; omega, ?_,by simp⟩
 have e:(fQ o++r)=two (((jI o).length:Int)+4)++(jI o++two (BB (xU o))++r):=by simp [fQ,xU]
 rw [e,uP]
 show ((((jI o).length:Int)+4) / 256) * 256+(((jI o).length:Int)+4) % 256=_
 omega
theorem zF (o:MV):(fQ o).drop 2=jI o++two (BB (xU o)):=rfl
theorem aeR {d:List Int} {o o':MV} (h:fQ o <+: d) (h':fQ o' <+: d):o=o':=by
 obtain ⟨_,e1,t1⟩:=LQ h
 obtain ⟨_,e2,t2⟩:=LQ h'
 have hl:(fQ o).length=(fQ o').length:=by omega
 rw [hl,t2] at t1
 have hd:=congrArg (fun l=>vE (l.drop 2)) t1
 simp only [zF,Ov] at hd
 exact (congrArg Prod.fst hd).symm
open Classical in
noncomputable def xm (R:MV→Prop) (d:List Int):Option MV:=if h:∃o,Is R d o then some h.choose else none
theorem Ox {d:List Int} {o:MV} (h:Is R d o):xm R d=some o:=by
 unfold xm
 rw [dif_pos ⟨o,h⟩]
 have h2:∃o,Is R d o:=⟨o,h⟩
 exact congrArg some (aeR h2.choose_spec.2 h.2)
theorem Ii {d:List Int} (h:¬∃o,Is R d o):xm R d=none:=by
 unfold xm
 rw [dif_neg h]
theorem FX {d:List Int} {o:MV} (h:xm R d=some o):Is R d o:=by
 unfold xm at h
 split at h
 ·rename_i hh
  simp only [Option.some.injEq] at h
  rw [←h]
  exact hh.choose_spec
 ·simp at h
noncomputable def xD (R:MV→Prop):Nat→List Int→List MV×Nat
 | 0,_=>([],0)
 | k+1,d=>match xm R d with
  | none=>([],0)
  | some o=>(o :: (xD R k (d.drop (fQ o).length)).1,(fQ o).length+(xD R k (d.drop (fQ o).length)).2)
theorem LU:∀{k:Nat} {d:List Int},∀o∈(xD R k d).1,R o
 | 0,_,o,h=>by simp [xD] at h
 | k+1,d,o,h=>by
  rw [xD] at h
  cases hr:xm R d with
  | none=>rw [hr] at h; simp at h
  | some q=>
   rw [hr] at h
   rcases List.mem_cons.1 h with rfl | h
   ·exact (FX hr).1
   ·exact LU o h
theorem Vz:∀{k:Nat} {d:List Int},(xD R k d).2≤d.length∧13 * (xD R k d).1.length≤d.length
 | 0,_=>by simp [xD]
 | k+1,d=>by
  rw [xD]
  cases hr:xm R d with
  | none=>simp
  | some q=>
   have h1:=(FX hr).2.length_le
   have h2:=Vz (k:=k) (d:=d.drop (fQ q).length)
   rw [List.length_drop] at h2
   have h3:=uP q
   have h4:=Cn q
   simp only [List.length_cons]
   omega
end
end Go.Proofs.YtdknpknohipffaaGreat.Ab
