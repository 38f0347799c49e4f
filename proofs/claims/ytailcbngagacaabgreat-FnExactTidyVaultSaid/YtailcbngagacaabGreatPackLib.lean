/- The bytes of an op, and how they are read back. No program in sight. -/
import Derived.Test.YtailcbngagacaabGreatOwF
set_option linter.unusedSectionVars false
set_option linter.unusedVariables false
set_option linter.unusedSimpArgs false
namespace Go.Proofs.YtailcbngagacaabGreat.yf
open Go
abbrev KQ:=Int×List Int×List Int×List Int×Int×Int×Int×List Int×Unit
abbrev Tk:=List Int×Bool
def two (n:Int):List Int:=[n / 256,n % 256]
def Bu (l:List Int):Int:=l.foldl (fun s b=>(s * 31+b) % 65521) 1
def jw (o:KQ):List Int:=
 o.1 :: (o.2.1.length:Int) :: (o.2.1++(o.2.2.1.length:Int) :: (o.2.2.1++(o.2.2.2.1.length:Int) :: (o.2.2.2.1.flatMap two++o.2.2.2.2.1 :: o.2.2.2.2.2.1 :: (two o.2.2.2.2.2.2.1++(two (o.2.2.2.2.2.2.2.1.length:Int)++o.2.2.2.2.2.2.2.1)))))
def yu (o:KQ):List Int:=two (((jw o).length:Int)+4)++jw o
def dK (o:KQ):List Int:=yu o++two (Bu (yu o))
theorem kK (n:Int):(two n).length=2:=rfl
theorem val_two (n:Int):(two n).getD 0 0 * 256+(two n).getD 1 0=n:=by
 show n / 256 * 256+n % 256=n
 omega
theorem Cf (us:List Int):(us.flatMap two).length=2 * us.length:=by
 induction us with
 | nil=>rfl
 | cons u us ih=>simp only [List.flatMap_cons,List.length_append,kK,ih,List.length_cons]; omega
theorem Ce (o:KQ):(jw o).length=10+o.2.1.length+o.2.2.1.length+2 * o.2.2.2.1.length+o.2.2.2.2.2.2.2.1.length:=by
 simp only [jw,List.length_cons,List.length_append,Cf,kK]
 omega
theorem PE (o:KQ):(yu o).length=(jw o).length+2:=by simp only [yu,List.length_append,kK]; omega
theorem tH (o:KQ):(dK o).length=(jw o).length+4:=by simp only [dK,List.length_append,PE,kK]
def gI (n:Nat) (t:Tk):List Int×Tk:=if t.2=true∨t.1.length<n then (List.replicate n 0,(t.1,true)) else (t.1.take n,(t.1.drop n,false))
def iI (t:Tk):Int×Tk:=((gI 1 t).1.getD 0 0,(gI 1 t).2)
def gz (t:Tk):Int×Tk:=((gI 2 t).1.getD 0 0 * 256+(gI 2 t).1.getD 1 0,(gI 2 t).2)
def pg (t:Tk):Nat→List Int×Tk
 | 0=>([],t)
 | n+1=>((pg t n).1++[(gz (pg t n).2).1],(gz (pg t n).2).2)
theorem KH {xs r:List Int}:gI xs.length (xs++r,false)=(xs,(r,false)):=by
 unfold gI
 rw [if_neg (by simp)]
 simp
theorem Yn {x:Int} {r:List Int}:iI (x :: r,false)=(x,(r,false)):=by
 have:=KH (xs:=[x]) (r:=r)
 unfold iI
 rw [show gI 1 (x :: r,false)=([x],(r,false)) from this]
 rfl
theorem TQ {n:Int} {r:List Int}:gz (two n++r,false)=(n,(r,false)):=by
 have:=KH (xs:=two n) (r:=r)
 unfold gz
 rw [show gI 2 (two n++r,false)=(two n,(r,false)) from this,val_two]
theorem Yb {us r:List Int}:pg (us.flatMap two++r,false) us.length=(us,(r,false)):=by
 have h:∀k,k≤us.length→pg (us.flatMap two++r,false) k=(us.take k,((us.drop k).flatMap two++r,false)):=by
  intro k
  induction k with
  | zero=>intro _; simp [pg]
  | succ k ih=>
   intro hk
   have hlt:k<us.length:=by omega
   have hd:us.drop k=us[k] :: us.drop (k+1):=List.drop_eq_getElem_cons hlt
   have ht:us.take (k+1)=us.take k++[us[k]]:=by simp
   rw [pg,ih (by omega)]
   simp only [hd,List.flatMap_cons,List.append_assoc,TQ,ht]
 have:=h us.length (Nat.le_refl _)
 simpa using this
structure af0 (d:List Int) where
 k:Int×Tk:=iI (d,false)
 bn:Int×Tk:=iI k.2
 b:List Int×Tk:=gI bn.1.toNat bn.2
 tn:Int×Tk:=iI b.2
 t:List Int×Tk:=gI tn.1.toNat tn.2
 un:Int×Tk:=iI t.2
 u:List Int×Tk:=pg un.2 un.1.toNat
 m:Int×Tk:=iI u.2
 f:Int×Tk:=iI m.2
 da:Int×Tk:=gz f.2
 xn:Int×Tk:=gz da.2
 x:List Int×Tk:=gI xn.1.toNat xn.2
def wo (d:List Int):KQ×Tk:=
 let r:af0 d:={}
 ((r.k.1,r.b.1,r.t.1,r.u.1,r.m.1,r.f.1,r.da.1,r.x.1,()),r.x.2)
theorem Mx (o:KQ) (r:List Int):wo (jw o++r)=(o,(r,false)):=by
 obtain ⟨k,b,t,u,m,f,da,x,_⟩:=o
 simp only [wo,jw,List.cons_append,List.append_assoc,Yn,Int.toNat_natCast,KH,Yb,TQ]
def bM (t:Tk):Int×Tk:=match t.1 with | []=>(0,([],true)) | x :: r=>(x,(r,t.2))
def iY (t:Tk):Int×Tk:=((bM t).1 * 256+(bM (bM t).2).1,(bM (bM t).2).2)
def iD:Nat→Tk→List Int×Tk
 | 0,t=>([],t)
 | n+1,t=>if t.2=true then ([],t) else ((bM t).1 :: (iD n (bM t).2).1,(iD n (bM t).2).2)
def nR:Nat→Tk→List Int×Tk
 | 0,t=>([],t)
 | n+1,t=>if t.2=true then ([],t) else ((iY t).1 :: (nR n (iY t).2).1,(nR n (iY t).2).2)
theorem LJ {x:Int} {r:List Int}:bM (x :: r,false)=(x,(r,false)):=rfl
theorem Qo {n:Int} {r:List Int}:iY (two n++r,false)=(n,(r,false)):=by
 show (n / 256 * 256+n % 256,(r,false))=_
 rw [show n / 256 * 256+n % 256=n by omega]
theorem LK {r:List Int}:∀{xs:List Int},iD xs.length (xs++r,false)=(xs,(r,false))
 | []=>rfl
 | x :: xs=>by
  rw [List.length_cons,iD,if_neg (by simp),List.cons_append,LJ,LK (xs:=xs)]
theorem MQ {r:List Int}:∀{us:List Int},nR us.length (us.flatMap two++r,false)=(us,(r,false))
 | []=>rfl
 | u :: us=>by
  rw [List.length_cons,nR,if_neg (by simp),List.flatMap_cons,List.append_assoc,Qo,MQ (us:=us)]
structure af1 (d:List Int) where
 k:Int×Tk:=bM (d,false)
 bn:Int×Tk:=bM k.2
 b:List Int×Tk:=iD bn.1.toNat bn.2
 tn:Int×Tk:=bM b.2
 t:List Int×Tk:=iD tn.1.toNat tn.2
 un:Int×Tk:=bM t.2
 u:List Int×Tk:=nR un.1.toNat un.2
 m:Int×Tk:=bM u.2
 f:Int×Tk:=bM m.2
 da:Int×Tk:=iY f.2
 xn:Int×Tk:=iY da.2
 x:List Int×Tk:=iD xn.1.toNat xn.2
def EX (d:List Int):KQ×Tk:=
 let r:af1 d:={}
 ((r.k.1,r.b.1,r.t.1,r.u.1,r.m.1,r.f.1,r.da.1,r.x.1,()),r.x.2)
theorem DW (o:KQ) (r:List Int):EX (jw o++r)=(o,(r,false)):=by
 obtain ⟨k,b,t,u,m,f,da,x,_⟩:=o
 simp only [EX,jw,List.cons_append,List.append_assoc,LJ,Int.toNat_natCast,LK,MQ,Qo]
section
variable {R:KQ→Prop}
def Is (R:KQ→Prop) (d:List Int) (o:KQ):Prop:=R o∧dK o <+: d
theorem J2 {d:List Int} {o:KQ} (h:dK o <+: d):2≤d.length∧d.getD 0 0 * 256+d.getD 1 0=((dK o).length:Int)∧d.take (dK o).length=dK o:=by
 obtain ⟨r,rfl⟩:=h
 refine ⟨by rw [List.length_append,tH]; omega, ?_,by simp⟩
 have e:(dK o++r)=two (((jw o).length:Int)+4)++(jw o++two (Bu (yu o))++r):=by simp [dK,yu]
 rw [e,tH]
 show ((((jw o).length:Int)+4) / 256) * 256+(((jw o).length:Int)+4) % 256=_
 omega
theorem zJ (o:KQ):(dK o).drop 2=jw o++two (Bu (yu o)):=rfl
theorem adq {d:List Int} {o o':KQ} (h:dK o <+: d) (h':dK o' <+: d):o=o':=by
 obtain ⟨_,e1,t1⟩:=J2 h
 obtain ⟨_,e2,t2⟩:=J2 h'
 have hl:(dK o).length=(dK o').length:=by omega
 rw [hl,t2] at t1
 have hd:=congrArg (fun l=>wo (l.drop 2)) t1
 simp only [zJ,Mx] at hd
 exact (congrArg Prod.fst hd).symm
open Classical in
noncomputable def xI (R:KQ→Prop) (d:List Int):Option KQ:=if h:∃o,Is R d o then some h.choose else none
theorem MB {d:List Int} {o:KQ} (h:Is R d o):xI R d=some o:=by
 unfold xI
 rw [dif_pos ⟨o,h⟩]
 have h2:∃o,Is R d o:=⟨o,h⟩
 exact congrArg some (adq h2.choose_spec.2 h.2)
theorem Gl {d:List Int} (h:¬∃o,Is R d o):xI R d=none:=by
 unfold xI
 rw [dif_neg h]
theorem EY {d:List Int} {o:KQ} (h:xI R d=some o):Is R d o:=by
 unfold xI at h
 split at h
 ·rename_i hh
  simp only [Option.some.injEq] at h
  rw [←h]
  exact hh.choose_spec
 ·simp at h
noncomputable def xW (R:KQ→Prop):Nat→List Int→List KQ×Nat
 | 0,_=>([],0)
 | k+1,d=>match xI R d with
  | none=>([],0)
  | some o=>(o :: (xW R k (d.drop (dK o).length)).1,(dK o).length+(xW R k (d.drop (dK o).length)).2)
theorem J3:∀{k:Nat} {d:List Int},∀o∈(xW R k d).1,R o
 | 0,_,o,h=>by simp [xW] at h
 | k+1,d,o,h=>by
  rw [xW] at h
  cases hr:xI R d with
  | none=>rw [hr] at h; simp at h
  | some q=>
   rw [hr] at h
   rcases List.mem_cons.1 h with rfl | h
   ·exact (EY hr).1
   ·exact J3 o h
theorem Tt:∀{k:Nat} {d:List Int},(xW R k d).2≤d.length∧13 * (xW R k d).1.length≤d.length
 | 0,_=>by simp [xW]
 | k+1,d=>by
  rw [xW]
  cases hr:xI R d with
  | none=>simp
  | some q=>
   have h1:=(EY hr).2.length_le
   have h2:=Tt (k:=k) (d:=d.drop (dK q).length)
   rw [List.length_drop] at h2
   have h3:=tH q
   have h4:=Ce q
   simp only [List.length_cons]
   omega
end
end Go.Proofs.YtailcbngagacaabGreat.yf
