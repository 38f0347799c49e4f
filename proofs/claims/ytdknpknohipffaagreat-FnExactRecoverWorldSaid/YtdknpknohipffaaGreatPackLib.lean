/- The bytes of an op, and how they are read back. No program in sight. -/
import Derived.Test.YtdknpknohipffaaGreatOwF
set_option linter.unusedSectionVars false
set_option linter.unusedVariables false
set_option linter.unusedSimpArgs false
namespace Go.Proofs.YtdknpknohipffaaGreat.CO
open Go
abbrev Od:=Int×List Int×List Int×List Int×Int×Int×Int×List Int×Unit
abbrev Tk:=List Int×Bool
def two (n:Int):List Int:=[n / 256,n % 256]
def D8 (l:List Int):Int:=l.foldl (fun s b=>(s * 31+b) % 65521) 1
def jS (o:Od):List Int:=
 o.1 :: (o.2.1.length:Int) :: (o.2.1++(o.2.2.1.length:Int) :: (o.2.2.1++(o.2.2.2.1.length:Int) :: (o.2.2.2.1.flatMap two++o.2.2.2.2.1 :: o.2.2.2.2.2.1 :: (two o.2.2.2.2.2.2.1++(two (o.2.2.2.2.2.2.2.1.length:Int)++o.2.2.2.2.2.2.2.1)))))
def Ao (o:Od):List Int:=two (((jS o).length:Int)+4)++jS o
def fM (o:Od):List Int:=Ao o++two (D8 (Ao o))
theorem mh (n:Int):(two n).length=2:=rfl
theorem val_two (n:Int):(two n).getD 0 0 * 256+(two n).getD 1 0=n:=by
 show n / 256 * 256+n % 256=n
 omega
theorem EO (us:List Int):(us.flatMap two).length=2 * us.length:=by
 induction us with
 | nil=>rfl
 | cons u us ih=>simp only [List.flatMap_cons,List.length_append,mh,ih,List.length_cons]; omega
theorem EN (o:Od):(jS o).length=10+o.2.1.length+o.2.2.1.length+2 * o.2.2.2.1.length+o.2.2.2.2.2.2.2.1.length:=by
 simp only [jS,List.length_cons,List.length_append,EO,mh]
 omega
theorem Tm (o:Od):(Ao o).length=(jS o).length+2:=by simp only [Ao,List.length_append,mh]; omega
theorem xH (o:Od):(fM o).length=(jS o).length+4:=by simp only [fM,List.length_append,Tm,mh]
def gV (n:Nat) (t:Tk):List Int×Tk:=if t.2=true∨t.1.length<n then (List.replicate n 0,(t.1,true)) else (t.1.take n,(t.1.drop n,false))
def iT (t:Tk):Int×Tk:=((gV 1 t).1.getD 0 0,(gV 1 t).2)
def gJ (t:Tk):Int×Tk:=((gV 2 t).1.getD 0 0 * 256+(gV 2 t).1.getD 1 0,(gV 2 t).2)
def qJ (t:Tk):Nat→List Int×Tk
 | 0=>([],t)
 | n+1=>((qJ t n).1++[(gJ (qJ t n).2).1],(gJ (qJ t n).2).2)
theorem N7 {xs r:List Int}:gV xs.length (xs++r,false)=(xs,(r,false)):=by
 unfold gV
 rw [if_neg (by simp)]
 simp
theorem abu {x:Int} {r:List Int}:iT (x :: r,false)=(x,(r,false)):=by
 have:=N7 (xs:=[x]) (r:=r)
 unfold iT
 rw [show gV 1 (x :: r,false)=([x],(r,false)) from this]
 rfl
theorem W9 {n:Int} {r:List Int}:gJ (two n++r,false)=(n,(r,false)):=by
 have:=N7 (xs:=two n) (r:=r)
 unfold gJ
 rw [show gV 2 (two n++r,false)=(two n,(r,false)) from this,val_two]
theorem abf {us r:List Int}:qJ (us.flatMap two++r,false) us.length=(us,(r,false)):=by
 have h:∀k,k≤us.length→qJ (us.flatMap two++r,false) k=(us.take k,((us.drop k).flatMap two++r,false)):=by
  intro k
  induction k with
  | zero=>intro _; simp [qJ]
  | succ k ih=>
   intro hk
   have hlt:k<us.length:=by omega
   have hd:us.drop k=us[k] :: us.drop (k+1):=List.drop_eq_getElem_cons hlt
   have ht:us.take (k+1)=us.take k++[us[k]]:=by simp
   rw [qJ,ih (by omega)]
   simp only [hd,List.flatMap_cons,List.append_assoc,W9,ht]
 have:=h us.length (Nat.le_refl _)
 simpa using this
structure ajt (d:List Int) where
 k:Int×Tk:=iT (d,false)
 bn:Int×Tk:=iT k.2
 b:List Int×Tk:=gV bn.1.toNat bn.2
 tn:Int×Tk:=iT b.2
 t:List Int×Tk:=gV tn.1.toNat tn.2
 un:Int×Tk:=iT t.2
 u:List Int×Tk:=qJ un.2 un.1.toNat
 m:Int×Tk:=iT u.2
 f:Int×Tk:=iT m.2
 da:Int×Tk:=gJ f.2
 xn:Int×Tk:=gJ da.2
 x:List Int×Tk:=gV xn.1.toNat xn.2
def yl (d:List Int):Od×Tk:=
 let r:ajt d:={}
 ((r.k.1,r.b.1,r.t.1,r.u.1,r.m.1,r.f.1,r.da.1,r.x.1,()),r.x.2)
theorem PG (o:Od) (r:List Int):yl (jS o++r)=(o,(r,false)):=by
 obtain ⟨k,b,t,u,m,f,da,x,_⟩:=o
 simp only [yl,jS,List.cons_append,List.append_assoc,abu,Int.toNat_natCast,N7,abf,W9]
def bP (t:Tk):Int×Tk:=match t.1 with | []=>(0,([],true)) | x :: r=>(x,(r,t.2))
def jw (t:Tk):Int×Tk:=((bP t).1 * 256+(bP (bP t).2).1,(bP (bP t).2).2)
def iO:Nat→Tk→List Int×Tk
 | 0,t=>([],t)
 | n+1,t=>if t.2=true then ([],t) else ((bP t).1 :: (iO n (bP t).2).1,(iO n (bP t).2).2)
def o8:Nat→Tk→List Int×Tk
 | 0,t=>([],t)
 | n+1,t=>if t.2=true then ([],t) else ((jw t).1 :: (o8 n (jw t).2).1,(o8 n (jw t).2).2)
theorem O4 {x:Int} {r:List Int}:bP (x :: r,false)=(x,(r,false)):=rfl
theorem Ub {n:Int} {r:List Int}:jw (two n++r,false)=(n,(r,false)):=by
 show (n / 256 * 256+n % 256,(r,false))=_
 rw [show n / 256 * 256+n % 256=n by omega]
theorem O5 {r:List Int}:∀{xs:List Int},iO xs.length (xs++r,false)=(xs,(r,false))
 | []=>rfl
 | x :: xs=>by
  rw [List.length_cons,iO,if_neg (by simp),List.cons_append,O4,O5 (xs:=xs)]
theorem P5 {r:List Int}:∀{us:List Int},o8 us.length (us.flatMap two++r,false)=(us,(r,false))
 | []=>rfl
 | u :: us=>by
  rw [List.length_cons,o8,if_neg (by simp),List.flatMap_cons,List.append_assoc,Ub,P5 (us:=us)]
structure aju (d:List Int) where
 k:Int×Tk:=bP (d,false)
 bn:Int×Tk:=bP k.2
 b:List Int×Tk:=iO bn.1.toNat bn.2
 tn:Int×Tk:=bP b.2
 t:List Int×Tk:=iO tn.1.toNat tn.2
 un:Int×Tk:=bP t.2
 u:List Int×Tk:=o8 un.1.toNat un.2
 m:Int×Tk:=bP u.2
 f:Int×Tk:=bP m.2
 da:Int×Tk:=jw f.2
 xn:Int×Tk:=jw da.2
 x:List Int×Tk:=iO xn.1.toNat xn.2
def IB (d:List Int):Od×Tk:=
 let r:aju d:={}
 ((r.k.1,r.b.1,r.t.1,r.u.1,r.m.1,r.f.1,r.da.1,r.x.1,()),r.x.2)
theorem GJ (o:Od) (r:List Int):IB (jS o++r)=(o,(r,false)):=by
 obtain ⟨k,b,t,u,m,f,da,x,_⟩:=o
 simp only [IB,jS,List.cons_append,List.append_assoc,O4,Int.toNat_natCast,O5,P5,Ub]
section
variable {R:Od→Prop}
def Is (R:Od→Prop) (d:List Int) (o:Od):Prop:=R o∧fM o <+: d
theorem Nk {d:List Int} {o:Od} (h:fM o <+: d):2≤d.length∧d.getD 0 0 * 256+d.getD 1 0=((fM o).length:Int)∧d.take (fM o).length=fM o:=by
 obtain ⟨r,rfl⟩:=h
 refine ⟨by rw [List.length_append,xH]; omega, ?_,by simp⟩
 have e:(fM o++r)=two (((jS o).length:Int)+4)++(jS o++two (D8 (Ao o))++r):=by simp [fM,Ao]
 rw [e,xH]
 show ((((jS o).length:Int)+4) / 256) * 256+(((jS o).length:Int)+4) % 256=_
 omega
theorem Cg (o:Od):(fM o).drop 2=jS o++two (D8 (Ao o)):=rfl
theorem agG {d:List Int} {o o':Od} (h:fM o <+: d) (h':fM o' <+: d):o=o':=by
 obtain ⟨_,e1,t1⟩:=Nk h
 obtain ⟨_,e2,t2⟩:=Nk h'
 have hl:(fM o).length=(fM o').length:=by omega
 rw [hl,t2] at t1
 have hd:=congrArg (fun l=>yl (l.drop 2)) t1
 simp only [Cg,PG] at hd
 exact (congrArg Prod.fst hd).symm
open Classical in
noncomputable def zH (R:Od→Prop) (d:List Int):Option Od:=if h:∃o,Is R d o then some h.choose else none
theorem PI {d:List Int} {o:Od} (h:Is R d o):zH R d=some o:=by
 unfold zH
 rw [dif_pos ⟨o,h⟩]
 have h2:∃o,Is R d o:=⟨o,h⟩
 exact congrArg some (agG h2.choose_spec.2 h.2)
theorem JR {d:List Int} (h:¬∃o,Is R d o):zH R d=none:=by
 unfold zH
 rw [dif_neg h]
theorem IC {d:List Int} {o:Od} (h:zH R d=some o):Is R d o:=by
 unfold zH at h
 split at h
 ·rename_i hh
  simp only [Option.some.injEq] at h
  rw [←h]
  exact hh.choose_spec
 ·simp at h
noncomputable def z8 (R:Od→Prop):Nat→List Int→List Od×Nat
 | 0,_=>([],0)
 | k+1,d=>match zH R d with
  | none=>([],0)
  | some o=>(o :: (z8 R k (d.drop (fM o).length)).1,(fM o).length+(z8 R k (d.drop (fM o).length)).2)
theorem Nl:∀{k:Nat} {d:List Int},∀o∈(z8 R k d).1,R o
 | 0,_,o,h=>by simp [z8] at h
 | k+1,d,o,h=>by
  rw [z8] at h
  cases hr:zH R d with
  | none=>rw [hr] at h; simp at h
  | some q=>
   rw [hr] at h
   rcases List.mem_cons.1 h with rfl | h
   ·exact (IC hr).1
   ·exact Nl o h
theorem WE:∀{k:Nat} {d:List Int},(z8 R k d).2≤d.length∧13 * (z8 R k d).1.length≤d.length
 | 0,_=>by simp [z8]
 | k+1,d=>by
  rw [z8]
  cases hr:zH R d with
  | none=>simp
  | some q=>
   have h1:=(IC hr).2.length_le
   have h2:=WE (k:=k) (d:=d.drop (fM q).length)
   rw [List.length_drop] at h2
   have h3:=xH q
   have h4:=EN q
   simp only [List.length_cons]
   omega
end
end Go.Proofs.YtdknpknohipffaaGreat.CO
