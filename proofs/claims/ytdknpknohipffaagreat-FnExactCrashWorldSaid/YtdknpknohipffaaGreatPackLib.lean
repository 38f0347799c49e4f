/- The bytes of an op, and how they are read back. No program in sight. -/
import Derived.Test.YtdknpknohipffaaGreatOwF
set_option linter.unusedSectionVars false
set_option linter.unusedVariables false
set_option linter.unusedSimpArgs false
namespace Go.Proofs.YtdknpknohipffaaGreat.CO
open Go
abbrev Od:=Int×List Int×List Int×List Int×Int×Int×Int×List Int×Unit
abbrev Tk:=List Int×Bool
def two (n:Int):List Int:=[n / 256,n % 256]
def Eb (l:List Int):Int:=l.foldl (fun s b=>(s * 31+b) % 65521) 1
def jO (o:Od):List Int:=
 o.1 :: (o.2.1.length:Int) :: (o.2.1++(o.2.2.1.length:Int) :: (o.2.2.1++(o.2.2.2.1.length:Int) :: (o.2.2.2.1.flatMap two++o.2.2.2.2.1 :: o.2.2.2.2.2.1 :: (two o.2.2.2.2.2.2.1++(two (o.2.2.2.2.2.2.2.1.length:Int)++o.2.2.2.2.2.2.2.1)))))
def Am (o:Od):List Int:=two (((jO o).length:Int)+4)++jO o
def fQ (o:Od):List Int:=Am o++two (Eb (Am o))
theorem lU (n:Int):(two n).length=2:=rfl
theorem val_two (n:Int):(two n).getD 0 0 * 256+(two n).getD 1 0=n:=by
 show n / 256 * 256+n % 256=n
 omega
theorem EU (us:List Int):(us.flatMap two).length=2 * us.length:=by
 induction us with
 | nil=>rfl
 | cons u us ih=>simp only [List.flatMap_cons,List.length_append,lU,ih,List.length_cons]; omega
theorem ET (o:Od):(jO o).length=10+o.2.1.length+o.2.2.1.length+2 * o.2.2.2.1.length+o.2.2.2.2.2.2.2.1.length:=by
 simp only [jO,List.length_cons,List.length_append,EU,lU]
 omega
theorem Tv (o:Od):(Am o).length=(jO o).length+2:=by simp only [Am,List.length_append,lU]; omega
theorem xH (o:Od):(fQ o).length=(jO o).length+4:=by simp only [fQ,List.length_append,Tv,lU]
def gY (n:Nat) (t:Tk):List Int×Tk:=if t.2=true∨t.1.length<n then (List.replicate n 0,(t.1,true)) else (t.1.take n,(t.1.drop n,false))
def iX (t:Tk):Int×Tk:=((gY 1 t).1.getD 0 0,(gY 1 t).2)
def gK (t:Tk):Int×Tk:=((gY 2 t).1.getD 0 0 * 256+(gY 2 t).1.getD 1 0,(gY 2 t).2)
def qJ (t:Tk):Nat→List Int×Tk
 | 0=>([],t)
 | n+1=>((qJ t n).1++[(gK (qJ t n).2).1],(gK (qJ t n).2).2)
theorem N8 {xs r:List Int}:gY xs.length (xs++r,false)=(xs,(r,false)):=by
 unfold gY
 rw [if_neg (by simp)]
 simp
theorem abA {x:Int} {r:List Int}:iX (x :: r,false)=(x,(r,false)):=by
 have:=N8 (xs:=[x]) (r:=r)
 unfold iX
 rw [show gY 1 (x :: r,false)=([x],(r,false)) from this]
 rfl
theorem Xi {n:Int} {r:List Int}:gK (two n++r,false)=(n,(r,false)):=by
 have:=N8 (xs:=two n) (r:=r)
 unfold gK
 rw [show gY 2 (two n++r,false)=(two n,(r,false)) from this,val_two]
theorem abm {us r:List Int}:qJ (us.flatMap two++r,false) us.length=(us,(r,false)):=by
 have h:∀k,k≤us.length→qJ (us.flatMap two++r,false) k=(us.take k,((us.drop k).flatMap two++r,false)):=by
  intro k
  induction k with
  | zero=>intro _; simp [qJ]
  | succ k ih=>
   intro hk
   have hlt:k<us.length:=by omega
   have hd:us.drop k=us[k] :: us.drop (k+1):=List.drop_eq_getElem_cons hlt
   have ht:us.take (k+1)=us.take k++[us[k]]:=by simp
   rw [qJ,ih (by omega)]
   simp only [hd,List.flatMap_cons,List.append_assoc,Xi,ht]
 have:=h us.length (Nat.le_refl _)
 simpa using this
structure ajG (d:List Int) where
 k:Int×Tk:=iX (d,false)
 bn:Int×Tk:=iX k.2
 b:List Int×Tk:=gY bn.1.toNat bn.2
 tn:Int×Tk:=iX b.2
 t:List Int×Tk:=gY tn.1.toNat tn.2
 un:Int×Tk:=iX t.2
 u:List Int×Tk:=qJ un.2 un.1.toNat
 m:Int×Tk:=iX u.2
 f:Int×Tk:=iX m.2
 da:Int×Tk:=gK f.2
 xn:Int×Tk:=gK da.2
 x:List Int×Tk:=gY xn.1.toNat xn.2
def yj (d:List Int):Od×Tk:=
 let r:ajG d:={}
 ((r.k.1,r.b.1,r.t.1,r.u.1,r.m.1,r.f.1,r.da.1,r.x.1,()),r.x.2)
theorem PM (o:Od) (r:List Int):yj (jO o++r)=(o,(r,false)):=by
 obtain ⟨k,b,t,u,m,f,da,x,_⟩:=o
 simp only [yj,jO,List.cons_append,List.append_assoc,abA,Int.toNat_natCast,N8,abm,Xi]
def bO (t:Tk):Int×Tk:=match t.1 with | []=>(0,([],true)) | x :: r=>(x,(r,t.2))
def jA (t:Tk):Int×Tk:=((bO t).1 * 256+(bO (bO t).2).1,(bO (bO t).2).2)
def iR:Nat→Tk→List Int×Tk
 | 0,t=>([],t)
 | n+1,t=>if t.2=true then ([],t) else ((bO t).1 :: (iR n (bO t).2).1,(iR n (bO t).2).2)
def oW:Nat→Tk→List Int×Tk
 | 0,t=>([],t)
 | n+1,t=>if t.2=true then ([],t) else ((jA t).1 :: (oW n (jA t).2).1,(oW n (jA t).2).2)
theorem O5 {x:Int} {r:List Int}:bO (x :: r,false)=(x,(r,false)):=rfl
theorem Ug {n:Int} {r:List Int}:jA (two n++r,false)=(n,(r,false)):=by
 show (n / 256 * 256+n % 256,(r,false))=_
 rw [show n / 256 * 256+n % 256=n by omega]
theorem O6 {r:List Int}:∀{xs:List Int},iR xs.length (xs++r,false)=(xs,(r,false))
 | []=>rfl
 | x :: xs=>by
  rw [List.length_cons,iR,if_neg (by simp),List.cons_append,O5,O6 (xs:=xs)]
theorem P9 {r:List Int}:∀{us:List Int},oW us.length (us.flatMap two++r,false)=(us,(r,false))
 | []=>rfl
 | u :: us=>by
  rw [List.length_cons,oW,if_neg (by simp),List.flatMap_cons,List.append_assoc,Ug,P9 (us:=us)]
structure ajH (d:List Int) where
 k:Int×Tk:=bO (d,false)
 bn:Int×Tk:=bO k.2
 b:List Int×Tk:=iR bn.1.toNat bn.2
 tn:Int×Tk:=bO b.2
 t:List Int×Tk:=iR tn.1.toNat tn.2
 un:Int×Tk:=bO t.2
 u:List Int×Tk:=oW un.1.toNat un.2
 m:Int×Tk:=bO u.2
 f:Int×Tk:=bO m.2
 da:Int×Tk:=jA f.2
 xn:Int×Tk:=jA da.2
 x:List Int×Tk:=iR xn.1.toNat xn.2
def IL (d:List Int):Od×Tk:=
 let r:ajH d:={}
 ((r.k.1,r.b.1,r.t.1,r.u.1,r.m.1,r.f.1,r.da.1,r.x.1,()),r.x.2)
theorem GL (o:Od) (r:List Int):IL (jO o++r)=(o,(r,false)):=by
 obtain ⟨k,b,t,u,m,f,da,x,_⟩:=o
 simp only [IL,jO,List.cons_append,List.append_assoc,O5,Int.toNat_natCast,O6,P9,Ug]
section
variable {R:Od→Prop}
def Is (R:Od→Prop) (d:List Int) (o:Od):Prop:=R o∧fQ o <+: d
theorem Nl {d:List Int} {o:Od} (h:fQ o <+: d):2≤d.length∧d.getD 0 0 * 256+d.getD 1 0=((fQ o).length:Int)∧d.take (fQ o).length=fQ o:=by
 obtain ⟨r,rfl⟩:=h
 refine ⟨by rw [List.length_append,xH]; omega, ?_,by simp⟩
 have e:(fQ o++r)=two (((jO o).length:Int)+4)++(jO o++two (Eb (Am o))++r):=by simp [fQ,Am]
 rw [e,xH]
 show ((((jO o).length:Int)+4) / 256) * 256+(((jO o).length:Int)+4) % 256=_
 omega
theorem Ch (o:Od):(fQ o).drop 2=jO o++two (Eb (Am o)):=rfl
theorem agQ {d:List Int} {o o':Od} (h:fQ o <+: d) (h':fQ o' <+: d):o=o':=by
 obtain ⟨_,e1,t1⟩:=Nl h
 obtain ⟨_,e2,t2⟩:=Nl h'
 have hl:(fQ o).length=(fQ o').length:=by omega
 rw [hl,t2] at t1
 have hd:=congrArg (fun l=>yj (l.drop 2)) t1
 simp only [Ch,PM] at hd
 exact (congrArg Prod.fst hd).symm
open Classical in
noncomputable def zG (R:Od→Prop) (d:List Int):Option Od:=if h:∃o,Is R d o then some h.choose else none
theorem PN {d:List Int} {o:Od} (h:Is R d o):zG R d=some o:=by
 unfold zG
 rw [dif_pos ⟨o,h⟩]
 have h2:∃o,Is R d o:=⟨o,h⟩
 exact congrArg some (agQ h2.choose_spec.2 h.2)
theorem JV {d:List Int} (h:¬∃o,Is R d o):zG R d=none:=by
 unfold zG
 rw [dif_neg h]
theorem IM {d:List Int} {o:Od} (h:zG R d=some o):Is R d o:=by
 unfold zG at h
 split at h
 ·rename_i hh
  simp only [Option.some.injEq] at h
  rw [←h]
  exact hh.choose_spec
 ·simp at h
noncomputable def zZ (R:Od→Prop):Nat→List Int→List Od×Nat
 | 0,_=>([],0)
 | k+1,d=>match zG R d with
  | none=>([],0)
  | some o=>(o :: (zZ R k (d.drop (fQ o).length)).1,(fQ o).length+(zZ R k (d.drop (fQ o).length)).2)
theorem Nn:∀{k:Nat} {d:List Int},∀o∈(zZ R k d).1,R o
 | 0,_,o,h=>by simp [zZ] at h
 | k+1,d,o,h=>by
  rw [zZ] at h
  cases hr:zG R d with
  | none=>rw [hr] at h; simp at h
  | some q=>
   rw [hr] at h
   rcases List.mem_cons.1 h with rfl | h
   ·exact (IM hr).1
   ·exact Nn o h
theorem WO:∀{k:Nat} {d:List Int},(zZ R k d).2≤d.length∧13 * (zZ R k d).1.length≤d.length
 | 0,_=>by simp [zZ]
 | k+1,d=>by
  rw [zZ]
  cases hr:zG R d with
  | none=>simp
  | some q=>
   have h1:=(IM hr).2.length_le
   have h2:=WO (k:=k) (d:=d.drop (fQ q).length)
   rw [List.length_drop] at h2
   have h3:=xH q
   have h4:=ET q
   simp only [List.length_cons]
   omega
end
end Go.Proofs.YtdknpknohipffaaGreat.CO
