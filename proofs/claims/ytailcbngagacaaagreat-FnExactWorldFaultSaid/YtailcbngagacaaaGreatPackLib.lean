/- The bytes of an op, and how they are read back. No program in sight. -/
import Derived.Test.YtailcbngagacaaaGreatOwF
set_option linter.unusedSectionVars false
set_option linter.unusedVariables false
set_option linter.unusedSimpArgs false
namespace Go.Proofs.YtailcbngagacaaaGreat.Bu
open Go
abbrev Jy:=Int×List Int×List Int×List Int×Int×Int×Int×List Int×Unit
abbrev Tk:=List Int×Bool
def two (n:Int):List Int:=[n / 256,n % 256]
def Ad (l:List Int):Int:=l.foldl (fun s b=>(s * 31+b) % 65521) 1
def jg (o:Jy):List Int:=
 o.1 :: (o.2.1.length:Int) :: (o.2.1++(o.2.2.1.length:Int) :: (o.2.2.1++(o.2.2.2.1.length:Int) :: (o.2.2.2.1.flatMap two++o.2.2.2.2.1 :: o.2.2.2.2.2.1 :: (two o.2.2.2.2.2.2.1++(two (o.2.2.2.2.2.2.2.1.length:Int)++o.2.2.2.2.2.2.2.1)))))
def xq (o:Jy):List Int:=two (((jg o).length:Int)+4)++jg o
def fF (o:Jy):List Int:=xq o++two (Ad (xq o))
theorem jY (n:Int):(two n).length=2:=rfl
theorem val_two (n:Int):(two n).getD 0 0 * 256+(two n).getD 1 0=n:=by
 show n / 256 * 256+n % 256=n
 omega
theorem AZ (us:List Int):(us.flatMap two).length=2 * us.length:=by
 induction us with
 | nil=>rfl
 | cons u us ih=>simp only [List.flatMap_cons,List.length_append,jY,ih,List.length_cons]; omega
theorem AY (o:Jy):(jg o).length=10+o.2.1.length+o.2.2.1.length+2 * o.2.2.2.1.length+o.2.2.2.2.2.2.2.1.length:=by
 simp only [jg,List.length_cons,List.length_append,AZ,jY]
 omega
theorem N8 (o:Jy):(xq o).length=(jg o).length+2:=by simp only [xq,List.length_append,jY]; omega
theorem uA (o:Jy):(fF o).length=(jg o).length+4:=by simp only [fF,List.length_append,N8,jY]
def gH (n:Nat) (t:Tk):List Int×Tk:=if t.2=true∨t.1.length<n then (List.replicate n 0,(t.1,true)) else (t.1.take n,(t.1.drop n,false))
def iE (t:Tk):Int×Tk:=((gH 1 t).1.getD 0 0,(gH 1 t).2)
def gq (t:Tk):Int×Tk:=((gH 2 t).1.getD 0 0 * 256+(gH 2 t).1.getD 1 0,(gH 2 t).2)
def nV (t:Tk):Nat→List Int×Tk
 | 0=>([],t)
 | n+1=>((nV t n).1++[(gq (nV t n).2).1],(gq (nV t n).2).2)
theorem Js {xs r:List Int}:gH xs.length (xs++r,false)=(xs,(r,false)):=by
 unfold gH
 rw [if_neg (by simp)]
 simp
theorem WS {x:Int} {r:List Int}:iE (x :: r,false)=(x,(r,false)):=by
 have:=Js (xs:=[x]) (r:=r)
 unfold iE
 rw [show gH 1 (x :: r,false)=([x],(r,false)) from this]
 rfl
theorem RV {n:Int} {r:List Int}:gq (two n++r,false)=(n,(r,false)):=by
 have:=Js (xs:=two n) (r:=r)
 unfold gq
 rw [show gH 2 (two n++r,false)=(two n,(r,false)) from this,val_two]
theorem WG {us r:List Int}:nV (us.flatMap two++r,false) us.length=(us,(r,false)):=by
 have h:∀k,k≤us.length→nV (us.flatMap two++r,false) k=(us.take k,((us.drop k).flatMap two++r,false)):=by
  intro k
  induction k with
  | zero=>intro _; simp [nV]
  | succ k ih=>
   intro hk
   have hlt:k<us.length:=by omega
   have hd:us.drop k=us[k] :: us.drop (k+1):=List.drop_eq_getElem_cons hlt
   have ht:us.take (k+1)=us.take k++[us[k]]:=by simp
   rw [nV,ih (by omega)]
   simp only [hd,List.flatMap_cons,List.append_assoc,RV,ht]
 have:=h us.length (Nat.le_refl _)
 simpa using this
structure aeG (d:List Int) where
 k:Int×Tk:=iE (d,false)
 bn:Int×Tk:=iE k.2
 b:List Int×Tk:=gH bn.1.toNat bn.2
 tn:Int×Tk:=iE b.2
 t:List Int×Tk:=gH tn.1.toNat tn.2
 un:Int×Tk:=iE t.2
 u:List Int×Tk:=nV un.2 un.1.toNat
 m:Int×Tk:=iE u.2
 f:Int×Tk:=iE m.2
 da:Int×Tk:=gq f.2
 xn:Int×Tk:=gq da.2
 x:List Int×Tk:=gH xn.1.toNat xn.2
def uO (d:List Int):Jy×Tk:=
 let r:aeG d:={}
 ((r.k.1,r.b.1,r.t.1,r.u.1,r.m.1,r.f.1,r.da.1,r.x.1,()),r.x.2)
theorem KT (o:Jy) (r:List Int):uO (jg o++r)=(o,(r,false)):=by
 obtain ⟨k,b,t,u,m,f,da,x,_⟩:=o
 simp only [uO,jg,List.cons_append,List.append_assoc,WS,Int.toNat_natCast,Js,WG,RV]
def bM (t:Tk):Int×Tk:=match t.1 with | []=>(0,([],true)) | x :: r=>(x,(r,t.2))
def iU (t:Tk):Int×Tk:=((bM t).1 * 256+(bM (bM t).2).1,(bM (bM t).2).2)
def iy:Nat→Tk→List Int×Tk
 | 0,t=>([],t)
 | n+1,t=>if t.2=true then ([],t) else ((bM t).1 :: (iy n (bM t).2).1,(iy n (bM t).2).2)
def mK:Nat→Tk→List Int×Tk
 | 0,t=>([],t)
 | n+1,t=>if t.2=true then ([],t) else ((iU t).1 :: (mK n (iU t).2).1,(mK n (iU t).2).2)
theorem Kl {x:Int} {r:List Int}:bM (x :: r,false)=(x,(r,false)):=rfl
theorem OQ {n:Int} {r:List Int}:iU (two n++r,false)=(n,(r,false)):=by
 show (n / 256 * 256+n % 256,(r,false))=_
 rw [show n / 256 * 256+n % 256=n by omega]
theorem Km {r:List Int}:∀{xs:List Int},iy xs.length (xs++r,false)=(xs,(r,false))
 | []=>rfl
 | x :: xs=>by
  rw [List.length_cons,iy,if_neg (by simp),List.cons_append,Kl,Km (xs:=xs)]
theorem Lc {r:List Int}:∀{us:List Int},mK us.length (us.flatMap two++r,false)=(us,(r,false))
 | []=>rfl
 | u :: us=>by
  rw [List.length_cons,mK,if_neg (by simp),List.flatMap_cons,List.append_assoc,OQ,Lc (us:=us)]
structure aeH (d:List Int) where
 k:Int×Tk:=bM (d,false)
 bn:Int×Tk:=bM k.2
 b:List Int×Tk:=iy bn.1.toNat bn.2
 tn:Int×Tk:=bM b.2
 t:List Int×Tk:=iy tn.1.toNat tn.2
 un:Int×Tk:=bM t.2
 u:List Int×Tk:=mK un.1.toNat un.2
 m:Int×Tk:=bM u.2
 f:Int×Tk:=bM m.2
 da:Int×Tk:=iU f.2
 xn:Int×Tk:=iU da.2
 x:List Int×Tk:=iy xn.1.toNat xn.2
def DK (d:List Int):Jy×Tk:=
 let r:aeH d:={}
 ((r.k.1,r.b.1,r.t.1,r.u.1,r.m.1,r.f.1,r.da.1,r.x.1,()),r.x.2)
theorem CB (o:Jy) (r:List Int):DK (jg o++r)=(o,(r,false)):=by
 obtain ⟨k,b,t,u,m,f,da,x,_⟩:=o
 simp only [DK,jg,List.cons_append,List.append_assoc,Kl,Int.toNat_natCast,Km,Lc,OQ]
section
variable {R:Jy→Prop}
def Is (R:Jy→Prop) (d:List Int) (o:Jy):Prop:=R o∧fF o <+: d
theorem IP {d:List Int} {o:Jy} (h:fF o <+: d):2≤d.length∧d.getD 0 0 * 256+d.getD 1 0=((fF o).length:Int)∧d.take (fF o).length=fF o:=by
 obtain ⟨r,rfl⟩:=h
 refine ⟨by rw [List.length_append,uA]; omega, ?_,by simp⟩
 have e:(fF o++r)=two (((jg o).length:Int)+4)++(jg o++two (Ad (xq o))++r):=by simp [fF,xq]
 rw [e,uA]
 show ((((jg o).length:Int)+4) / 256) * 256+(((jg o).length:Int)+4) % 256=_
 omega
theorem yF (o:Jy):(fF o).drop 2=jg o++two (Ad (xq o)):=rfl
theorem ab2 {d:List Int} {o o':Jy} (h:fF o <+: d) (h':fF o' <+: d):o=o':=by
 obtain ⟨_,e1,t1⟩:=IP h
 obtain ⟨_,e2,t2⟩:=IP h'
 have hl:(fF o).length=(fF o').length:=by omega
 rw [hl,t2] at t1
 have hd:=congrArg (fun l=>uO (l.drop 2)) t1
 simp only [yF,KT] at hd
 exact (congrArg Prod.fst hd).symm
open Classical in
noncomputable def wG (R:Jy→Prop) (d:List Int):Option Jy:=if h:∃o,Is R d o then some h.choose else none
theorem KU {d:List Int} {o:Jy} (h:Is R d o):wG R d=some o:=by
 unfold wG
 rw [dif_pos ⟨o,h⟩]
 have h2:∃o,Is R d o:=⟨o,h⟩
 exact congrArg some (ab2 h2.choose_spec.2 h.2)
theorem EL {d:List Int} (h:¬∃o,Is R d o):wG R d=none:=by
 unfold wG
 rw [dif_neg h]
theorem DL {d:List Int} {o:Jy} (h:wG R d=some o):Is R d o:=by
 unfold wG at h
 split at h
 ·rename_i hh
  simp only [Option.some.injEq] at h
  rw [←h]
  exact hh.choose_spec
 ·simp at h
noncomputable def wU (R:Jy→Prop):Nat→List Int→List Jy×Nat
 | 0,_=>([],0)
 | k+1,d=>match wG R d with
  | none=>([],0)
  | some o=>(o :: (wU R k (d.drop (fF o).length)).1,(fF o).length+(wU R k (d.drop (fF o).length)).2)
theorem IQ:∀{k:Nat} {d:List Int},∀o∈(wU R k d).1,R o
 | 0,_,o,h=>by simp [wU] at h
 | k+1,d,o,h=>by
  rw [wU] at h
  cases hr:wG R d with
  | none=>rw [hr] at h; simp at h
  | some q=>
   rw [hr] at h
   rcases List.mem_cons.1 h with rfl | h
   ·exact (DL hr).1
   ·exact IQ o h
theorem Rs:∀{k:Nat} {d:List Int},(wU R k d).2≤d.length∧13 * (wU R k d).1.length≤d.length
 | 0,_=>by simp [wU]
 | k+1,d=>by
  rw [wU]
  cases hr:wG R d with
  | none=>simp
  | some q=>
   have h1:=(DL hr).2.length_le
   have h2:=Rs (k:=k) (d:=d.drop (fF q).length)
   rw [List.length_drop] at h2
   have h3:=uA q
   have h4:=AY q
   simp only [List.length_cons]
   omega
end
end Go.Proofs.YtailcbngagacaaaGreat.Bu
