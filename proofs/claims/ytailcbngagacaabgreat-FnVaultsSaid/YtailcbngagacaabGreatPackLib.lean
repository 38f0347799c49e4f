/- The bytes of an op, and how they are read back. No program in sight. -/
import Derived.Test.YtailcbngagacaabGreatGrowLib
set_option linter.unusedVariables false
set_option linter.unusedSimpArgs false
namespace Go.Proofs.YtailcbngagacaabGreat.vo
open Go
abbrev mO:=Int×List Int×List Int×List Int×Int×Int×Int×List Int×Unit
abbrev Tk:=List Int×Bool
def two (n:Int):List Int:=[n / 256,n % 256]
def pE (l:List Int):Int:=l.foldl (fun s b=>(s * 31+b) % 65521) 1
def jQ (o:mO):List Int:=
 o.1 :: (o.2.1.length:Int) :: (o.2.1++(o.2.2.1.length:Int) :: (o.2.2.1++(o.2.2.2.1.length:Int) :: (o.2.2.2.1.flatMap two++o.2.2.2.2.1 :: o.2.2.2.2.2.1 :: (two o.2.2.2.2.2.2.1++(two (o.2.2.2.2.2.2.2.1.length:Int)++o.2.2.2.2.2.2.2.1)))))
def qW (o:mO):List Int:=two (((jQ o).length:Int)+4)++jQ o
def bU (o:mO):List Int:=qW o++two (pE (qW o))
theorem qE (n:Int):(two n).length=2:=rfl
theorem val_two (n:Int):(two n).getD 0 0 * 256+(two n).getD 1 0=n:=by
 show n / 256 * 256+n % 256=n
 omega
theorem Jp (us:List Int):(us.flatMap two).length=2 * us.length:=by
 induction us with
 | nil=>rfl
 | cons u us ih=>simp only [List.flatMap_cons,List.length_append,qE,ih,List.length_cons]; omega
theorem Jn (o:mO):(jQ o).length=10+o.2.1.length+o.2.2.1.length+2 * o.2.2.2.1.length+o.2.2.2.2.2.2.2.1.length:=by
 simp only [jQ,List.length_cons,List.length_append,Jp,qE]
 omega
theorem aas (o:mO):(qW o).length=(jQ o).length+2:=by simp only [qW,List.length_append,qE]; omega
theorem vV (o:mO):(bU o).length=(jQ o).length+4:=by simp only [bU,List.length_append,aas,qE]
def iZ (n:Nat) (t:Tk):List Int×Tk:=if t.2=true\/t.1.length<n then (List.replicate n 0,(t.1,true)) else (t.1.take n,(t.1.drop n,false))
def fJ (t:Tk):Int×Tk:=((iZ 1 t).1.getD 0 0,(iZ 1 t).2)
def dX (t:Tk):Int×Tk:=((iZ 2 t).1.getD 0 0 * 256+(iZ 2 t).1.getD 1 0,(iZ 2 t).2)
def mF (t:Tk):Nat->List Int×Tk
 | 0=>([],t)
 | n+1=>((mF t n).1++[(dX (mF t n).2).1],(dX (mF t n).2).2)
theorem UQ {xs r:List Int}:iZ xs.length (xs++r,false)=(xs,(r,false)):=by
 unfold iZ
 rw [if_neg (by simp)]
 simp
theorem amS {x:Int} {r:List Int}:fJ (x :: r,false)=(x,(r,false)):=by
 have:=UQ (xs:=[x]) (r:=r)
 unfold fJ
 rw [show iZ 1 (x :: r,false)=([x],(r,false)) from this]
 rfl
theorem acE {n:Int} {r:List Int}:dX (two n++r,false)=(n,(r,false)):=by
 have:=UQ (xs:=two n) (r:=r)
 unfold dX
 rw [show iZ 2 (two n++r,false)=(two n,(r,false)) from this,val_two]
theorem amr {us r:List Int}:mF (us.flatMap two++r,false) us.length=(us,(r,false)):=by
 have h:∀k,k<=us.length->mF (us.flatMap two++r,false) k=(us.take k,((us.drop k).flatMap two++r,false)):=by
  intro k
  induction k with
  | zero=>intro _; simp [mF]
  | succ k ih=>
   intro hk
   have hlt:k<us.length:=by omega
   have hd:us.drop k=us[k] :: us.drop (k+1):=List.drop_eq_getElem_cons hlt
   have ht:us.take (k+1)=us.take k++[us[k]]:=by simp
   rw [mF,ih (by omega)]
   simp only [hd,List.flatMap_cons,List.append_assoc,acE,ht]
 have:=h us.length (Nat.le_refl _)
 simpa using this
structure agW (d:List Int) where
 k:Int×Tk:=fJ (d,false)
 bn:Int×Tk:=fJ k.2
 b:List Int×Tk:=iZ bn.1.toNat bn.2
 tn:Int×Tk:=fJ b.2
 t:List Int×Tk:=iZ tn.1.toNat tn.2
 un:Int×Tk:=fJ t.2
 u:List Int×Tk:=mF un.2 un.1.toNat
 m:Int×Tk:=fJ u.2
 f:Int×Tk:=fJ m.2
 da:Int×Tk:=dX f.2
 xn:Int×Tk:=dX da.2
 x:List Int×Tk:=iZ xn.1.toNat xn.2
def qG (d:List Int):mO×Tk:=
 let r:agW d:={}
 ((r.k.1,r.b.1,r.t.1,r.u.1,r.m.1,r.f.1,r.da.1,r.x.1,()),r.x.2)
theorem abM (o:mO) (r:List Int):qG (jQ o++r)=(o,(r,false)):=by
 obtain ⟨k,b,t,u,m,f,da,x,_⟩:=o
 simp only [qG,jQ,List.cons_append,List.append_assoc,amS,Int.toNat_natCast,UQ,amr,acE]
def cZ (t:Tk):Int×Tk:=match t.1 with | []=>(0,([],true)) | x :: r=>(x,(r,t.2))
def jL (t:Tk):Int×Tk:=((cZ t).1 * 256+(cZ (cZ t).2).1,(cZ (cZ t).2).2)
def lH:Nat->Tk->List Int×Tk
 | 0,t=>([],t)
 | n+1,t=>if t.2=true then ([],t) else ((cZ t).1 :: (lH n (cZ t).2).1,(lH n (cZ t).2).2)
def pI:Nat->Tk->List Int×Tk
 | 0,t=>([],t)
 | n+1,t=>if t.2=true then ([],t) else ((jL t).1 :: (pI n (jL t).2).1,(pI n (jL t).2).2)
theorem X6 {x:Int} {r:List Int}:cZ (x :: r,false)=(x,(r,false)):=rfl
theorem acM {n:Int} {r:List Int}:jL (two n++r,false)=(n,(r,false)):=by
 show (n / 256 * 256+n % 256,(r,false))=_
 rw [show n / 256 * 256+n % 256=n by omega]
theorem X7 {r:List Int}:∀{xs:List Int},lH xs.length (xs++r,false)=(xs,(r,false))
 | []=>rfl
 | x :: xs=>by
  rw [List.length_cons,lH,if_neg (by simp),List.cons_append,X6,X7 (xs:=xs)]
theorem acN {r:List Int}:∀{us:List Int},pI us.length (us.flatMap two++r,false)=(us,(r,false))
 | []=>rfl
 | u :: us=>by
  rw [List.length_cons,pI,if_neg (by simp),List.flatMap_cons,List.append_assoc,acM,acN (us:=us)]
structure agX (d:List Int) where
 k:Int×Tk:=cZ (d,false)
 bn:Int×Tk:=cZ k.2
 b:List Int×Tk:=lH bn.1.toNat bn.2
 tn:Int×Tk:=cZ b.2
 t:List Int×Tk:=lH tn.1.toNat tn.2
 un:Int×Tk:=cZ t.2
 u:List Int×Tk:=pI un.1.toNat un.2
 m:Int×Tk:=cZ u.2
 f:Int×Tk:=cZ m.2
 da:Int×Tk:=jL f.2
 xn:Int×Tk:=jL da.2
 x:List Int×Tk:=lH xn.1.toNat xn.2
def yG (d:List Int):mO×Tk:=
 let r:agX d:={}
 ((r.k.1,r.b.1,r.t.1,r.u.1,r.m.1,r.f.1,r.da.1,r.x.1,()),r.x.2)
theorem Ug (o:mO) (r:List Int):yG (jQ o++r)=(o,(r,false)):=by
 obtain ⟨k,b,t,u,m,f,da,x,_⟩:=o
 simp only [yG,jQ,List.cons_append,List.append_assoc,X6,Int.toNat_natCast,X7,acN,acM]
section
variable {R:mO->Prop}
def Is (R:mO->Prop) (d:List Int) (o:mO):Prop:=R o/\bU o <+: d
theorem Fu {d:List Int} {o:mO} (h:bU o <+: d):2<=d.length/\d.getD 0 0 * 256+d.getD 1 0=((bU o).length:Int)/\d.take (bU o).length=bU o:=by
 obtain ⟨r,rfl⟩:=h
 refine ⟨by rw [List.length_append,vV]; omega, ?_,by simp⟩
 have e:(bU o++r)=two (((jQ o).length:Int)+4)++(jQ o++two (pE (qW o))++r):=by simp [bU,qW]
 rw [e,vV]
 show ((((jQ o).length:Int)+4) / 256) * 256+(((jQ o).length:Int)+4) % 256=_
 omega
theorem JF (o:mO):(bU o).drop 2=jQ o++two (pE (qW o)):=rfl
theorem alS {d:List Int} {o o':mO} (h:bU o <+: d) (h':bU o' <+: d):o=o':=by
 obtain ⟨_,e1,t1⟩:=Fu h
 obtain ⟨_,e2,t2⟩:=Fu h'
 have hl:(bU o).length=(bU o').length:=by omega
 rw [hl,t2] at t1
 have hd:=congrArg (fun l=>qG (l.drop 2)) t1
 simp only [JF,abM] at hd
 exact (congrArg Prod.fst hd).symm
open Classical in
noncomputable def qh (R:mO->Prop) (d:List Int):Option mO:=if h:∃o,Is R d o then some h.choose else none
theorem Ui {d:List Int} {o:mO} (h:Is R d o):qh R d=some o:=by
 unfold qh
 rw [dif_pos ⟨o,h⟩]
 have h2:∃o,Is R d o:=⟨o,h⟩
 exact congrArg some (alS h2.choose_spec.2 h.2)
theorem Uh {d:List Int} (h:¬∃o,Is R d o):qh R d=none:=by
 unfold qh
 rw [dif_neg h]
theorem CU {d:List Int} {o:mO} (h:qh R d=some o):Is R d o:=by
 unfold qh at h
 split at h
 ·rename_i hh
  simp only [Option.some.injEq] at h
  rw [<-h]
  exact hh.choose_spec
 ·simp at h
noncomputable def jJ (R:mO->Prop):Nat->List Int->List mO×Nat
 | 0,_=>([],0)
 | k+1,d=>match qh R d with
  | none=>([],0)
  | some o=>(o :: (jJ R k (d.drop (bU o).length)).1,(bU o).length+(jJ R k (d.drop (bU o).length)).2)
theorem aam:∀{k:Nat} {d:List Int},∀o∈(jJ R k d).1,R o
 | 0,_,o,h=>by simp [jJ] at h
 | k+1,d,o,h=>by
  rw [jJ] at h
  cases hr:qh R d with
  | none=>rw [hr] at h; simp at h
  | some q=>
   rw [hr] at h
   rcases List.mem_cons.1 h with rfl | h
   ·exact (CU hr).1
   ·exact aam o h
theorem aal:∀{k:Nat} {d:List Int},(jJ R k d).2<=d.length/\13 * (jJ R k d).1.length<=d.length
 | 0,_=>by simp [jJ]
 | k+1,d=>by
  rw [jJ]
  cases hr:qh R d with
  | none=>simp
  | some q=>
   have h1:=(CU hr).2.length_le
   have h2:=aal (k:=k) (d:=d.drop (bU q).length)
   rw [List.length_drop] at h2
   have h3:=vV q
   have h4:=Jn q
   simp only [List.length_cons]
   omega
end
end Go.Proofs.YtailcbngagacaabGreat.vo
