/- The bytes of an op, and how they are read back. No program in sight. -/
import Derived.Test.YtailcbngagacaabGreatOwF
set_option linter.unusedSectionVars false
set_option linter.unusedVariables false
set_option linter.unusedSimpArgs false
namespace Go.Proofs.YtailcbngagacaabGreat.Ab
open Go
abbrev KI:=Int×List Int×List Int×List Int×Int×Int×Int×List Int×Unit
abbrev Tk:=List Int×Bool
def two (n:Int):List Int:=[n / 256,n % 256]
def Bu (l:List Int):Int:=l.foldl (fun s b=>(s * 31+b) % 65521) 1
def jA (o:KI):List Int:=
 o.1 :: (o.2.1.length:Int) :: (o.2.1++(o.2.2.1.length:Int) :: (o.2.2.1++(o.2.2.2.1.length:Int) :: (o.2.2.2.1.flatMap two++o.2.2.2.2.1 :: o.2.2.2.2.2.1 :: (two o.2.2.2.2.2.2.1++(two (o.2.2.2.2.2.2.2.1.length:Int)++o.2.2.2.2.2.2.2.1)))))
def yt (o:KI):List Int:=two (((jA o).length:Int)+4)++jA o
def fK (o:KI):List Int:=yt o++two (Bu (yt o))
theorem kN (n:Int):(two n).length=2:=rfl
theorem val_two (n:Int):(two n).getD 0 0 * 256+(two n).getD 1 0=n:=by
 show n / 256 * 256+n % 256=n
 omega
theorem Cf (us:List Int):(us.flatMap two).length=2 * us.length:=by
 induction us with
 | nil=>rfl
 | cons u us ih=>simp only [List.flatMap_cons,List.length_append,kN,ih,List.length_cons]; omega
theorem Ce (o:KI):(jA o).length=10+o.2.1.length+o.2.2.1.length+2 * o.2.2.2.1.length+o.2.2.2.2.2.2.2.1.length:=by
 simp only [jA,List.length_cons,List.length_append,Cf,kN]
 omega
theorem Pz (o:KI):(yt o).length=(jA o).length+2:=by simp only [yt,List.length_append,kN]; omega
theorem vJ (o:KI):(fK o).length=(jA o).length+4:=by simp only [fK,List.length_append,Pz,kN]
def gJ (n:Nat) (t:Tk):List Int×Tk:=if t.2=true∨t.1.length<n then (List.replicate n 0,(t.1,true)) else (t.1.take n,(t.1.drop n,false))
def iN (t:Tk):Int×Tk:=((gJ 1 t).1.getD 0 0,(gJ 1 t).2)
def gz (t:Tk):Int×Tk:=((gJ 2 t).1.getD 0 0 * 256+(gJ 2 t).1.getD 1 0,(gJ 2 t).2)
def pI (t:Tk):Nat→List Int×Tk
 | 0=>([],t)
 | n+1=>((pI t n).1++[(gz (pI t n).2).1],(gz (pI t n).2).2)
theorem KC {xs r:List Int}:gJ xs.length (xs++r,false)=(xs,(r,false)):=by
 unfold gJ
 rw [if_neg (by simp)]
 simp
theorem Yk {x:Int} {r:List Int}:iN (x :: r,false)=(x,(r,false)):=by
 have:=KC (xs:=[x]) (r:=r)
 unfold iN
 rw [show gJ 1 (x :: r,false)=([x],(r,false)) from this]
 rfl
theorem TR {n:Int} {r:List Int}:gz (two n++r,false)=(n,(r,false)):=by
 have:=KC (xs:=two n) (r:=r)
 unfold gz
 rw [show gJ 2 (two n++r,false)=(two n,(r,false)) from this,val_two]
theorem X8 {us r:List Int}:pI (us.flatMap two++r,false) us.length=(us,(r,false)):=by
 have h:∀k,k≤us.length→pI (us.flatMap two++r,false) k=(us.take k,((us.drop k).flatMap two++r,false)):=by
  intro k
  induction k with
  | zero=>intro _; simp [pI]
  | succ k ih=>
   intro hk
   have hlt:k<us.length:=by omega
   have hd:us.drop k=us[k] :: us.drop (k+1):=List.drop_eq_getElem_cons hlt
   have ht:us.take (k+1)=us.take k++[us[k]]:=by simp
   rw [pI,ih (by omega)]
   simp only [hd,List.flatMap_cons,List.append_assoc,TR,ht]
 have:=h us.length (Nat.le_refl _)
 simpa using this
structure afR (d:List Int) where
 k:Int×Tk:=iN (d,false)
 bn:Int×Tk:=iN k.2
 b:List Int×Tk:=gJ bn.1.toNat bn.2
 tn:Int×Tk:=iN b.2
 t:List Int×Tk:=gJ tn.1.toNat tn.2
 un:Int×Tk:=iN t.2
 u:List Int×Tk:=pI un.2 un.1.toNat
 m:Int×Tk:=iN u.2
 f:Int×Tk:=iN m.2
 da:Int×Tk:=gz f.2
 xn:Int×Tk:=gz da.2
 x:List Int×Tk:=gJ xn.1.toNat xn.2
def wm (d:List Int):KI×Tk:=
 let r:afR d:={}
 ((r.k.1,r.b.1,r.t.1,r.u.1,r.m.1,r.f.1,r.da.1,r.x.1,()),r.x.2)
theorem Mo (o:KI) (r:List Int):wm (jA o++r)=(o,(r,false)):=by
 obtain ⟨k,b,t,u,m,f,da,x,_⟩:=o
 simp only [wm,jA,List.cons_append,List.append_assoc,Yk,Int.toNat_natCast,KC,X8,TR]
def bO (t:Tk):Int×Tk:=match t.1 with | []=>(0,([],true)) | x :: r=>(x,(r,t.2))
def jf (t:Tk):Int×Tk:=((bO t).1 * 256+(bO (bO t).2).1,(bO (bO t).2).2)
def iH:Nat→Tk→List Int×Tk
 | 0,t=>([],t)
 | n+1,t=>if t.2=true then ([],t) else ((bO t).1 :: (iH n (bO t).2).1,(iH n (bO t).2).2)
def nT:Nat→Tk→List Int×Tk
 | 0,t=>([],t)
 | n+1,t=>if t.2=true then ([],t) else ((jf t).1 :: (nT n (jf t).2).1,(nT n (jf t).2).2)
theorem Lx {x:Int} {r:List Int}:bO (x :: r,false)=(x,(r,false)):=rfl
theorem Qk {n:Int} {r:List Int}:jf (two n++r,false)=(n,(r,false)):=by
 show (n / 256 * 256+n % 256,(r,false))=_
 rw [show n / 256 * 256+n % 256=n by omega]
theorem LA {r:List Int}:∀{xs:List Int},iH xs.length (xs++r,false)=(xs,(r,false))
 | []=>rfl
 | x :: xs=>by
  rw [List.length_cons,iH,if_neg (by simp),List.cons_append,Lx,LA (xs:=xs)]
theorem MJ {r:List Int}:∀{us:List Int},nT us.length (us.flatMap two++r,false)=(us,(r,false))
 | []=>rfl
 | u :: us=>by
  rw [List.length_cons,nT,if_neg (by simp),List.flatMap_cons,List.append_assoc,Qk,MJ (us:=us)]
structure afS (d:List Int) where
 k:Int×Tk:=bO (d,false)
 bn:Int×Tk:=bO k.2
 b:List Int×Tk:=iH bn.1.toNat bn.2
 tn:Int×Tk:=bO b.2
 t:List Int×Tk:=iH tn.1.toNat tn.2
 un:Int×Tk:=bO t.2
 u:List Int×Tk:=nT un.1.toNat un.2
 m:Int×Tk:=bO u.2
 f:Int×Tk:=bO m.2
 da:Int×Tk:=jf f.2
 xn:Int×Tk:=jf da.2
 x:List Int×Tk:=iH xn.1.toNat xn.2
def EX (d:List Int):KI×Tk:=
 let r:afS d:={}
 ((r.k.1,r.b.1,r.t.1,r.u.1,r.m.1,r.f.1,r.da.1,r.x.1,()),r.x.2)
theorem DW (o:KI) (r:List Int):EX (jA o++r)=(o,(r,false)):=by
 obtain ⟨k,b,t,u,m,f,da,x,_⟩:=o
 simp only [EX,jA,List.cons_append,List.append_assoc,Lx,Int.toNat_natCast,LA,MJ,Qk]
section
variable {R:KI→Prop}
def Is (R:KI→Prop) (d:List Int) (o:KI):Prop:=R o∧fK o <+: d
theorem JV {d:List Int} {o:KI} (h:fK o <+: d):2≤d.length∧d.getD 0 0 * 256+d.getD 1 0=((fK o).length:Int)∧d.take (fK o).length=fK o:=by
 obtain ⟨r,rfl⟩:=h
 refine ⟨by rw [List.length_append,vJ]; omega, ?_,by simp⟩
 have e:(fK o++r)=two (((jA o).length:Int)+4)++(jA o++two (Bu (yt o))++r):=by simp [fK,yt]
 rw [e,vJ]
 show ((((jA o).length:Int)+4) / 256) * 256+(((jA o).length:Int)+4) % 256=_
 omega
theorem zH (o:KI):(fK o).drop 2=jA o++two (Bu (yt o)):=rfl
theorem ado {d:List Int} {o o':KI} (h:fK o <+: d) (h':fK o' <+: d):o=o':=by
 obtain ⟨_,e1,t1⟩:=JV h
 obtain ⟨_,e2,t2⟩:=JV h'
 have hl:(fK o).length=(fK o').length:=by omega
 rw [hl,t2] at t1
 have hd:=congrArg (fun l=>wm (l.drop 2)) t1
 simp only [zH,Mo] at hd
 exact (congrArg Prod.fst hd).symm
open Classical in
noncomputable def xJ (R:KI→Prop) (d:List Int):Option KI:=if h:∃o,Is R d o then some h.choose else none
theorem Mq {d:List Int} {o:KI} (h:Is R d o):xJ R d=some o:=by
 unfold xJ
 rw [dif_pos ⟨o,h⟩]
 have h2:∃o,Is R d o:=⟨o,h⟩
 exact congrArg some (ado h2.choose_spec.2 h.2)
theorem Gg {d:List Int} (h:¬∃o,Is R d o):xJ R d=none:=by
 unfold xJ
 rw [dif_neg h]
theorem EY {d:List Int} {o:KI} (h:xJ R d=some o):Is R d o:=by
 unfold xJ at h
 split at h
 ·rename_i hh
  simp only [Option.some.injEq] at h
  rw [←h]
  exact hh.choose_spec
 ·simp at h
noncomputable def xX (R:KI→Prop):Nat→List Int→List KI×Nat
 | 0,_=>([],0)
 | k+1,d=>match xJ R d with
  | none=>([],0)
  | some o=>(o :: (xX R k (d.drop (fK o).length)).1,(fK o).length+(xX R k (d.drop (fK o).length)).2)
theorem JW:∀{k:Nat} {d:List Int},∀o∈(xX R k d).1,R o
 | 0,_,o,h=>by simp [xX] at h
 | k+1,d,o,h=>by
  rw [xX] at h
  cases hr:xJ R d with
  | none=>rw [hr] at h; simp at h
  | some q=>
   rw [hr] at h
   rcases List.mem_cons.1 h with rfl | h
   ·exact (EY hr).1
   ·exact JW o h
theorem Tv:∀{k:Nat} {d:List Int},(xX R k d).2≤d.length∧13 * (xX R k d).1.length≤d.length
 | 0,_=>by simp [xX]
 | k+1,d=>by
  rw [xX]
  cases hr:xJ R d with
  | none=>simp
  | some q=>
   have h1:=(EY hr).2.length_le
   have h2:=Tv (k:=k) (d:=d.drop (fK q).length)
   rw [List.length_drop] at h2
   have h3:=vJ q
   have h4:=Ce q
   simp only [List.length_cons]
   omega
end
end Go.Proofs.YtailcbngagacaabGreat.Ab
