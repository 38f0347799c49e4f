/- The bytes of an op, and how they are read back. No program in sight. -/
import Derived.Test.YtailcbngagacaabGreatOwF
set_option linter.unusedSectionVars false
set_option linter.unusedVariables false
set_option linter.unusedSimpArgs false
namespace Go.Proofs.YtailcbngagacaabGreat.xh
open Go
abbrev Lh:=Int×List Int×List Int×List Int×Int×Int×Int×List Int×Unit
abbrev Tk:=List Int×Bool
def two (n:Int):List Int:=[n / 256,n % 256]
def Ay (l:List Int):Int:=l.foldl (fun s b=>(s * 31+b) % 65521) 1
def jI (o:Lh):List Int:=
 o.1 :: (o.2.1.length:Int) :: (o.2.1++(o.2.2.1.length:Int) :: (o.2.2.1++(o.2.2.2.1.length:Int) :: (o.2.2.2.1.flatMap two++o.2.2.2.2.1 :: o.2.2.2.2.2.1 :: (two o.2.2.2.2.2.2.1++(two (o.2.2.2.2.2.2.2.1.length:Int)++o.2.2.2.2.2.2.2.1)))))
def xw (o:Lh):List Int:=two (((jI o).length:Int)+4)++jI o
def eY (o:Lh):List Int:=xw o++two (Ay (xw o))
theorem kY (n:Int):(two n).length=2:=rfl
theorem val_two (n:Int):(two n).getD 0 0 * 256+(two n).getD 1 0=n:=by
 show n / 256 * 256+n % 256=n
 omega
theorem Bh (us:List Int):(us.flatMap two).length=2 * us.length:=by
 induction us with
 | nil=>rfl
 | cons u us ih=>simp only [List.flatMap_cons,List.length_append,kY,ih,List.length_cons]; omega
theorem Bg (o:Lh):(jI o).length=10+o.2.1.length+o.2.2.1.length+2 * o.2.2.2.1.length+o.2.2.2.2.2.2.2.1.length:=by
 simp only [jI,List.length_cons,List.length_append,Bh,kY]
 omega
theorem Qm (o:Lh):(xw o).length=(jI o).length+2:=by simp only [xw,List.length_append,kY]; omega
theorem rY (o:Lh):(eY o).length=(jI o).length+4:=by simp only [eY,List.length_append,Qm,kY]
def gU (n:Nat) (t:Tk):List Int×Tk:=if t.2=true∨t.1.length<n then (List.replicate n 0,(t.1,true)) else (t.1.take n,(t.1.drop n,false))
def iR (t:Tk):Int×Tk:=((gU 1 t).1.getD 0 0,(gU 1 t).2)
def gM (t:Tk):Int×Tk:=((gU 2 t).1.getD 0 0 * 256+(gU 2 t).1.getD 1 0,(gU 2 t).2)
def oM (t:Tk):Nat→List Int×Tk
 | 0=>([],t)
 | n+1=>((oM t n).1++[(gM (oM t n).2).1],(gM (oM t n).2).2)
theorem Lb {xs r:List Int}:gU xs.length (xs++r,false)=(xs,(r,false)):=by
 unfold gU
 rw [if_neg (by simp)]
 simp
theorem YR {x:Int} {r:List Int}:iR (x :: r,false)=(x,(r,false)):=by
 have:=Lb (xs:=[x]) (r:=r)
 unfold iR
 rw [show gU 1 (x :: r,false)=([x],(r,false)) from this]
 rfl
theorem UA {n:Int} {r:List Int}:gM (two n++r,false)=(n,(r,false)):=by
 have:=Lb (xs:=two n) (r:=r)
 unfold gM
 rw [show gU 2 (two n++r,false)=(two n,(r,false)) from this,val_two]
theorem YF {us r:List Int}:oM (us.flatMap two++r,false) us.length=(us,(r,false)):=by
 have h:∀k,k≤us.length→oM (us.flatMap two++r,false) k=(us.take k,((us.drop k).flatMap two++r,false)):=by
  intro k
  induction k with
  | zero=>intro _; simp [oM]
  | succ k ih=>
   intro hk
   have hlt:k<us.length:=by omega
   have hd:us.drop k=us[k] :: us.drop (k+1):=List.drop_eq_getElem_cons hlt
   have ht:us.take (k+1)=us.take k++[us[k]]:=by simp
   rw [oM,ih (by omega)]
   simp only [hd,List.flatMap_cons,List.append_assoc,UA,ht]
 have:=h us.length (Nat.le_refl _)
 simpa using this
structure afH (d:List Int) where
 k:Int×Tk:=iR (d,false)
 bn:Int×Tk:=iR k.2
 b:List Int×Tk:=gU bn.1.toNat bn.2
 tn:Int×Tk:=iR b.2
 t:List Int×Tk:=gU tn.1.toNat tn.2
 un:Int×Tk:=iR t.2
 u:List Int×Tk:=oM un.2 un.1.toNat
 m:Int×Tk:=iR u.2
 f:Int×Tk:=iR m.2
 da:Int×Tk:=gM f.2
 xn:Int×Tk:=gM da.2
 x:List Int×Tk:=gU xn.1.toNat xn.2
def uY (d:List Int):Lh×Tk:=
 let r:afH d:={}
 ((r.k.1,r.b.1,r.t.1,r.u.1,r.m.1,r.f.1,r.da.1,r.x.1,()),r.x.2)
theorem M5 (o:Lh) (r:List Int):uY (jI o++r)=(o,(r,false)):=by
 obtain ⟨k,b,t,u,m,f,da,x,_⟩:=o
 simp only [uY,jI,List.cons_append,List.append_assoc,YR,Int.toNat_natCast,Lb,YF,UA]
def bO (t:Tk):Int×Tk:=match t.1 with | []=>(0,([],true)) | x :: r=>(x,(r,t.2))
def jl (t:Tk):Int×Tk:=((bO t).1 * 256+(bO (bO t).2).1,(bO (bO t).2).2)
def iJ:Nat→Tk→List Int×Tk
 | 0,t=>([],t)
 | n+1,t=>if t.2=true then ([],t) else ((bO t).1 :: (iJ n (bO t).2).1,(iJ n (bO t).2).2)
def nI:Nat→Tk→List Int×Tk
 | 0,t=>([],t)
 | n+1,t=>if t.2=true then ([],t) else ((jl t).1 :: (nI n (jl t).2).1,(nI n (jl t).2).2)
theorem Mt {x:Int} {r:List Int}:bO (x :: r,false)=(x,(r,false)):=rfl
theorem Q3 {n:Int} {r:List Int}:jl (two n++r,false)=(n,(r,false)):=by
 show (n / 256 * 256+n % 256,(r,false))=_
 rw [show n / 256 * 256+n % 256=n by omega]
theorem Mv {r:List Int}:∀{xs:List Int},iJ xs.length (xs++r,false)=(xs,(r,false))
 | []=>rfl
 | x :: xs=>by
  rw [List.length_cons,iJ,if_neg (by simp),List.cons_append,Mt,Mv (xs:=xs)]
theorem Np {r:List Int}:∀{us:List Int},nI us.length (us.flatMap two++r,false)=(us,(r,false))
 | []=>rfl
 | u :: us=>by
  rw [List.length_cons,nI,if_neg (by simp),List.flatMap_cons,List.append_assoc,Q3,Np (us:=us)]
structure afI (d:List Int) where
 k:Int×Tk:=bO (d,false)
 bn:Int×Tk:=bO k.2
 b:List Int×Tk:=iJ bn.1.toNat bn.2
 tn:Int×Tk:=bO b.2
 t:List Int×Tk:=iJ tn.1.toNat tn.2
 un:Int×Tk:=bO t.2
 u:List Int×Tk:=nI un.1.toNat un.2
 m:Int×Tk:=bO u.2
 f:Int×Tk:=bO m.2
 da:Int×Tk:=jl f.2
 xn:Int×Tk:=jl da.2
 x:List Int×Tk:=iJ xn.1.toNat xn.2
def EJ (d:List Int):Lh×Tk:=
 let r:afI d:={}
 ((r.k.1,r.b.1,r.t.1,r.u.1,r.m.1,r.f.1,r.da.1,r.x.1,()),r.x.2)
theorem Dj (o:Lh) (r:List Int):EJ (jI o++r)=(o,(r,false)):=by
 obtain ⟨k,b,t,u,m,f,da,x,_⟩:=o
 simp only [EJ,jI,List.cons_append,List.append_assoc,Mt,Int.toNat_natCast,Mv,Np,Q3]
section
variable {R:Lh→Prop}
def Is (R:Lh→Prop) (d:List Int) (o:Lh):Prop:=R o∧eY o <+: d
theorem Kq {d:List Int} {o:Lh} (h:eY o <+: d):2≤d.length∧d.getD 0 0 * 256+d.getD 1 0=((eY o).length:Int)∧d.take (eY o).length=eY o:=by
 obtain ⟨r,rfl⟩:=h
 refine ⟨by rw [List.length_append,rY]; omega, ?_,by simp⟩
 have e:(eY o++r)=two (((jI o).length:Int)+4)++(jI o++two (Ay (xw o))++r):=by simp [eY,xw]
 rw [e,rY]
 show ((((jI o).length:Int)+4) / 256) * 256+(((jI o).length:Int)+4) % 256=_
 omega
theorem yI (o:Lh):(eY o).drop 2=jI o++two (Ay (xw o)):=rfl
theorem adz {d:List Int} {o o':Lh} (h:eY o <+: d) (h':eY o' <+: d):o=o':=by
 obtain ⟨_,e1,t1⟩:=Kq h
 obtain ⟨_,e2,t2⟩:=Kq h'
 have hl:(eY o).length=(eY o').length:=by omega
 rw [hl,t2] at t1
 have hd:=congrArg (fun l=>uY (l.drop 2)) t1
 simp only [yI,M5] at hd
 exact (congrArg Prod.fst hd).symm
open Classical in
noncomputable def wM (R:Lh→Prop) (d:List Int):Option Lh:=if h:∃o,Is R d o then some h.choose else none
theorem M6 {d:List Int} {o:Lh} (h:Is R d o):wM R d=some o:=by
 unfold wM
 rw [dif_pos ⟨o,h⟩]
 have h2:∃o,Is R d o:=⟨o,h⟩
 exact congrArg some (adz h2.choose_spec.2 h.2)
theorem Gc {d:List Int} (h:¬∃o,Is R d o):wM R d=none:=by
 unfold wM
 rw [dif_neg h]
theorem EK {d:List Int} {o:Lh} (h:wM R d=some o):Is R d o:=by
 unfold wM at h
 split at h
 ·rename_i hh
  simp only [Option.some.injEq] at h
  rw [←h]
  exact hh.choose_spec
 ·simp at h
noncomputable def wT (R:Lh→Prop):Nat→List Int→List Lh×Nat
 | 0,_=>([],0)
 | k+1,d=>match wM R d with
  | none=>([],0)
  | some o=>(o :: (wT R k (d.drop (eY o).length)).1,(eY o).length+(wT R k (d.drop (eY o).length)).2)
theorem Kr:∀{k:Nat} {d:List Int},∀o∈(wT R k d).1,R o
 | 0,_,o,h=>by simp [wT] at h
 | k+1,d,o,h=>by
  rw [wT] at h
  cases hr:wM R d with
  | none=>rw [hr] at h; simp at h
  | some q=>
   rw [hr] at h
   rcases List.mem_cons.1 h with rfl | h
   ·exact (EK hr).1
   ·exact Kr o h
theorem Uf:∀{k:Nat} {d:List Int},(wT R k d).2≤d.length∧13 * (wT R k d).1.length≤d.length
 | 0,_=>by simp [wT]
 | k+1,d=>by
  rw [wT]
  cases hr:wM R d with
  | none=>simp
  | some q=>
   have h1:=(EK hr).2.length_le
   have h2:=Uf (k:=k) (d:=d.drop (eY q).length)
   rw [List.length_drop] at h2
   have h3:=rY q
   have h4:=Bg q
   simp only [List.length_cons]
   omega
end
end Go.Proofs.YtailcbngagacaabGreat.xh
