/- The bytes of an op, and how they are read back. No program in sight. -/
import Derived.Test.YtailcbngagacaabGreatOwF
set_option linter.unusedSectionVars false
set_option linter.unusedVariables false
set_option linter.unusedSimpArgs false
namespace Go.Proofs.YtailcbngagacaabGreat.wX
open Go
abbrev K5:=Int×List Int×List Int×List Int×Int×Int×Int×List Int×Unit
abbrev Tk:=List Int×Bool
def two (n:Int):List Int:=[n / 256,n % 256]
def Al (l:List Int):Int:=l.foldl (fun s b=>(s * 31+b) % 65521) 1
def jC (o:K5):List Int:=
 o.1 :: (o.2.1.length:Int) :: (o.2.1++(o.2.2.1.length:Int) :: (o.2.2.1++(o.2.2.2.1.length:Int) :: (o.2.2.2.1.flatMap two++o.2.2.2.2.1 :: o.2.2.2.2.2.1 :: (two o.2.2.2.2.2.2.1++(two (o.2.2.2.2.2.2.2.1.length:Int)++o.2.2.2.2.2.2.2.1)))))
def xg (o:K5):List Int:=two (((jC o).length:Int)+4)++jC o
def eX (o:K5):List Int:=xg o++two (Al (xg o))
theorem kQ (n:Int):(two n).length=2:=rfl
theorem val_two (n:Int):(two n).getD 0 0 * 256+(two n).getD 1 0=n:=by
 show n / 256 * 256+n % 256=n
 omega
theorem A8 (us:List Int):(us.flatMap two).length=2 * us.length:=by
 induction us with
 | nil=>rfl
 | cons u us ih=>simp only [List.flatMap_cons,List.length_append,kQ,ih,List.length_cons]; omega
theorem A7 (o:K5):(jC o).length=10+o.2.1.length+o.2.2.1.length+2 * o.2.2.2.1.length+o.2.2.2.2.2.2.2.1.length:=by
 simp only [jC,List.length_cons,List.length_append,A8,kQ]
 omega
theorem P6 (o:K5):(xg o).length=(jC o).length+2:=by simp only [xg,List.length_append,kQ]; omega
theorem rQ (o:K5):(eX o).length=(jC o).length+4:=by simp only [eX,List.length_append,P6,kQ]
def gP (n:Nat) (t:Tk):List Int×Tk:=if t.2=true∨t.1.length<n then (List.replicate n 0,(t.1,true)) else (t.1.take n,(t.1.drop n,false))
def iM (t:Tk):Int×Tk:=((gP 1 t).1.getD 0 0,(gP 1 t).2)
def gK (t:Tk):Int×Tk:=((gP 2 t).1.getD 0 0 * 256+(gP 2 t).1.getD 1 0,(gP 2 t).2)
def oJ (t:Tk):Nat→List Int×Tk
 | 0=>([],t)
 | n+1=>((oJ t n).1++[(gK (oJ t n).2).1],(gK (oJ t n).2).2)
theorem KW {xs r:List Int}:gP xs.length (xs++r,false)=(xs,(r,false)):=by
 unfold gP
 rw [if_neg (by simp)]
 simp
theorem Yw {x:Int} {r:List Int}:iM (x :: r,false)=(x,(r,false)):=by
 have:=KW (xs:=[x]) (r:=r)
 unfold iM
 rw [show gP 1 (x :: r,false)=([x],(r,false)) from this]
 rfl
theorem Ug {n:Int} {r:List Int}:gK (two n++r,false)=(n,(r,false)):=by
 have:=KW (xs:=two n) (r:=r)
 unfold gK
 rw [show gP 2 (two n++r,false)=(two n,(r,false)) from this,val_two]
theorem Yj {us r:List Int}:oJ (us.flatMap two++r,false) us.length=(us,(r,false)):=by
 have h:∀k,k≤us.length→oJ (us.flatMap two++r,false) k=(us.take k,((us.drop k).flatMap two++r,false)):=by
  intro k
  induction k with
  | zero=>intro _; simp [oJ]
  | succ k ih=>
   intro hk
   have hlt:k<us.length:=by omega
   have hd:us.drop k=us[k] :: us.drop (k+1):=List.drop_eq_getElem_cons hlt
   have ht:us.take (k+1)=us.take k++[us[k]]:=by simp
   rw [oJ,ih (by omega)]
   simp only [hd,List.flatMap_cons,List.append_assoc,Ug,ht]
 have:=h us.length (Nat.le_refl _)
 simpa using this
structure ae3 (d:List Int) where
 k:Int×Tk:=iM (d,false)
 bn:Int×Tk:=iM k.2
 b:List Int×Tk:=gP bn.1.toNat bn.2
 tn:Int×Tk:=iM b.2
 t:List Int×Tk:=gP tn.1.toNat tn.2
 un:Int×Tk:=iM t.2
 u:List Int×Tk:=oJ un.2 un.1.toNat
 m:Int×Tk:=iM u.2
 f:Int×Tk:=iM m.2
 da:Int×Tk:=gK f.2
 xn:Int×Tk:=gK da.2
 x:List Int×Tk:=gP xn.1.toNat xn.2
def uP (d:List Int):K5×Tk:=
 let r:ae3 d:={}
 ((r.k.1,r.b.1,r.t.1,r.u.1,r.m.1,r.f.1,r.da.1,r.x.1,()),r.x.2)
theorem MQ (o:K5) (r:List Int):uP (jC o++r)=(o,(r,false)):=by
 obtain ⟨k,b,t,u,m,f,da,x,_⟩:=o
 simp only [uP,jC,List.cons_append,List.append_assoc,Yw,Int.toNat_natCast,KW,Yj,Ug]
def bO (t:Tk):Int×Tk:=match t.1 with | []=>(0,([],true)) | x :: r=>(x,(r,t.2))
def jf (t:Tk):Int×Tk:=((bO t).1 * 256+(bO (bO t).2).1,(bO (bO t).2).2)
def iF:Nat→Tk→List Int×Tk
 | 0,t=>([],t)
 | n+1,t=>if t.2=true then ([],t) else ((bO t).1 :: (iF n (bO t).2).1,(iF n (bO t).2).2)
def nG:Nat→Tk→List Int×Tk
 | 0,t=>([],t)
 | n+1,t=>if t.2=true then ([],t) else ((jf t).1 :: (nG n (jf t).2).1,(nG n (jf t).2).2)
theorem Mh {x:Int} {r:List Int}:bO (x :: r,false)=(x,(r,false)):=rfl
theorem QG {n:Int} {r:List Int}:jf (two n++r,false)=(n,(r,false)):=by
 show (n / 256 * 256+n % 256,(r,false))=_
 rw [show n / 256 * 256+n % 256=n by omega]
theorem Mi {r:List Int}:∀{xs:List Int},iF xs.length (xs++r,false)=(xs,(r,false))
 | []=>rfl
 | x :: xs=>by
  rw [List.length_cons,iF,if_neg (by simp),List.cons_append,Mh,Mi (xs:=xs)]
theorem Na {r:List Int}:∀{us:List Int},nG us.length (us.flatMap two++r,false)=(us,(r,false))
 | []=>rfl
 | u :: us=>by
  rw [List.length_cons,nG,if_neg (by simp),List.flatMap_cons,List.append_assoc,QG,Na (us:=us)]
structure ae4 (d:List Int) where
 k:Int×Tk:=bO (d,false)
 bn:Int×Tk:=bO k.2
 b:List Int×Tk:=iF bn.1.toNat bn.2
 tn:Int×Tk:=bO b.2
 t:List Int×Tk:=iF tn.1.toNat tn.2
 un:Int×Tk:=bO t.2
 u:List Int×Tk:=nG un.1.toNat un.2
 m:Int×Tk:=bO u.2
 f:Int×Tk:=bO m.2
 da:Int×Tk:=jf f.2
 xn:Int×Tk:=jf da.2
 x:List Int×Tk:=iF xn.1.toNat xn.2
def Ew (d:List Int):K5×Tk:=
 let r:ae4 d:={}
 ((r.k.1,r.b.1,r.t.1,r.u.1,r.m.1,r.f.1,r.da.1,r.x.1,()),r.x.2)
theorem CZ (o:K5) (r:List Int):Ew (jC o++r)=(o,(r,false)):=by
 obtain ⟨k,b,t,u,m,f,da,x,_⟩:=o
 simp only [Ew,jC,List.cons_append,List.append_assoc,Mh,Int.toNat_natCast,Mi,Na,QG]
section
variable {R:K5→Prop}
def Is (R:K5→Prop) (d:List Int) (o:K5):Prop:=R o∧eX o <+: d
theorem Kc {d:List Int} {o:K5} (h:eX o <+: d):2≤d.length∧d.getD 0 0 * 256+d.getD 1 0=((eX o).length:Int)∧d.take (eX o).length=eX o:=by
 obtain ⟨r,rfl⟩:=h
 refine ⟨by rw [List.length_append,rQ]; omega, ?_,by simp⟩
 have e:(eX o++r)=two (((jC o).length:Int)+4)++(jC o++two (Al (xg o))++r):=by simp [eX,xg]
 rw [e,rQ]
 show ((((jC o).length:Int)+4) / 256) * 256+(((jC o).length:Int)+4) % 256=_
 omega
theorem yE (o:K5):(eX o).drop 2=jC o++two (Al (xg o)):=rfl
theorem ac3 {d:List Int} {o o':K5} (h:eX o <+: d) (h':eX o' <+: d):o=o':=by
 obtain ⟨_,e1,t1⟩:=Kc h
 obtain ⟨_,e2,t2⟩:=Kc h'
 have hl:(eX o).length=(eX o').length:=by omega
 rw [hl,t2] at t1
 have hd:=congrArg (fun l=>uP (l.drop 2)) t1
 simp only [yE,MQ] at hd
 exact (congrArg Prod.fst hd).symm
open Classical in
noncomputable def wF (R:K5→Prop) (d:List Int):Option K5:=if h:∃o,Is R d o then some h.choose else none
theorem MR {d:List Int} {o:K5} (h:Is R d o):wF R d=some o:=by
 unfold wF
 rw [dif_pos ⟨o,h⟩]
 have h2:∃o,Is R d o:=⟨o,h⟩
 exact congrArg some (ac3 h2.choose_spec.2 h.2)
theorem FZ {d:List Int} (h:¬∃o,Is R d o):wF R d=none:=by
 unfold wF
 rw [dif_neg h]
theorem Ey {d:List Int} {o:K5} (h:wF R d=some o):Is R d o:=by
 unfold wF at h
 split at h
 ·rename_i hh
  simp only [Option.some.injEq] at h
  rw [←h]
  exact hh.choose_spec
 ·simp at h
noncomputable def wM (R:K5→Prop):Nat→List Int→List K5×Nat
 | 0,_=>([],0)
 | k+1,d=>match wF R d with
  | none=>([],0)
  | some o=>(o :: (wM R k (d.drop (eX o).length)).1,(eX o).length+(wM R k (d.drop (eX o).length)).2)
theorem Ke:∀{k:Nat} {d:List Int},∀o∈(wM R k d).1,R o
 | 0,_,o,h=>by simp [wM] at h
 | k+1,d,o,h=>by
  rw [wM] at h
  cases hr:wF R d with
  | none=>rw [hr] at h; simp at h
  | some q=>
   rw [hr] at h
   rcases List.mem_cons.1 h with rfl | h
   ·exact (Ey hr).1
   ·exact Ke o h
theorem TL:∀{k:Nat} {d:List Int},(wM R k d).2≤d.length∧13 * (wM R k d).1.length≤d.length
 | 0,_=>by simp [wM]
 | k+1,d=>by
  rw [wM]
  cases hr:wF R d with
  | none=>simp
  | some q=>
   have h1:=(Ey hr).2.length_le
   have h2:=TL (k:=k) (d:=d.drop (eX q).length)
   rw [List.length_drop] at h2
   have h3:=rQ q
   have h4:=A7 q
   simp only [List.length_cons]
   omega
end
end Go.Proofs.YtailcbngagacaabGreat.wX
