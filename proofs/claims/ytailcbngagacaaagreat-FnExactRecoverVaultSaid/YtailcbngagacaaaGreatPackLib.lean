/- The bytes of an op, and how they are read back. No program in sight. -/
import Derived.Test.YtailcbngagacaaaGreatOwF
set_option linter.unusedSectionVars false
set_option linter.unusedVariables false
set_option linter.unusedSimpArgs false
namespace Go.Proofs.YtailcbngagacaaaGreat.zU
open Go
abbrev KC:=Int×List Int×List Int×List Int×Int×Int×Int×List Int×Unit
abbrev Tk:=List Int×Bool
def two (n:Int):List Int:=[n / 256,n % 256]
def Bg (l:List Int):Int:=l.foldl (fun s b=>(s * 31+b) % 65521) 1
def jw (o:KC):List Int:=
 o.1 :: (o.2.1.length:Int) :: (o.2.1++(o.2.2.1.length:Int) :: (o.2.2.1++(o.2.2.2.1.length:Int) :: (o.2.2.2.1.flatMap two++o.2.2.2.2.1 :: o.2.2.2.2.2.1 :: (two o.2.2.2.2.2.2.1++(two (o.2.2.2.2.2.2.2.1.length:Int)++o.2.2.2.2.2.2.2.1)))))
def yf (o:KC):List Int:=two (((jw o).length:Int)+4)++jw o
def fI (o:KC):List Int:=yf o++two (Bg (yf o))
theorem kN (n:Int):(two n).length=2:=rfl
theorem val_two (n:Int):(two n).getD 0 0 * 256+(two n).getD 1 0=n:=by
 show n / 256 * 256+n % 256=n
 omega
theorem BU (us:List Int):(us.flatMap two).length=2 * us.length:=by
 induction us with
 | nil=>rfl
 | cons u us ih=>simp only [List.flatMap_cons,List.length_append,kN,ih,List.length_cons]; omega
theorem BS (o:KC):(jw o).length=10+o.2.1.length+o.2.2.1.length+2 * o.2.2.2.1.length+o.2.2.2.2.2.2.2.1.length:=by
 simp only [jw,List.length_cons,List.length_append,BU,kN]
 omega
theorem Pn (o:KC):(yf o).length=(jw o).length+2:=by simp only [yf,List.length_append,kN]; omega
theorem vG (o:KC):(fI o).length=(jw o).length+4:=by simp only [fI,List.length_append,Pn,kN]
def gG (n:Nat) (t:Tk):List Int×Tk:=if t.2=true∨t.1.length<n then (List.replicate n 0,(t.1,true)) else (t.1.take n,(t.1.drop n,false))
def iH (t:Tk):Int×Tk:=((gG 1 t).1.getD 0 0,(gG 1 t).2)
def gy (t:Tk):Int×Tk:=((gG 2 t).1.getD 0 0 * 256+(gG 2 t).1.getD 1 0,(gG 2 t).2)
def pE (t:Tk):Nat→List Int×Tk
 | 0=>([],t)
 | n+1=>((pE t n).1++[(gy (pE t n).2).1],(gy (pE t n).2).2)
theorem Ku {xs r:List Int}:gG xs.length (xs++r,false)=(xs,(r,false)):=by
 unfold gG
 rw [if_neg (by simp)]
 simp
theorem X6 {x:Int} {r:List Int}:iH (x :: r,false)=(x,(r,false)):=by
 have:=Ku (xs:=[x]) (r:=r)
 unfold iH
 rw [show gG 1 (x :: r,false)=([x],(r,false)) from this]
 rfl
theorem TB {n:Int} {r:List Int}:gy (two n++r,false)=(n,(r,false)):=by
 have:=Ku (xs:=two n) (r:=r)
 unfold gy
 rw [show gG 2 (two n++r,false)=(two n,(r,false)) from this,val_two]
theorem XR {us r:List Int}:pE (us.flatMap two++r,false) us.length=(us,(r,false)):=by
 have h:∀k,k≤us.length→pE (us.flatMap two++r,false) k=(us.take k,((us.drop k).flatMap two++r,false)):=by
  intro k
  induction k with
  | zero=>intro _; simp [pE]
  | succ k ih=>
   intro hk
   have hlt:k<us.length:=by omega
   have hd:us.drop k=us[k] :: us.drop (k+1):=List.drop_eq_getElem_cons hlt
   have ht:us.take (k+1)=us.take k++[us[k]]:=by simp
   rw [pE,ih (by omega)]
   simp only [hd,List.flatMap_cons,List.append_assoc,TB,ht]
 have:=h us.length (Nat.le_refl _)
 simpa using this
structure afn (d:List Int) where
 k:Int×Tk:=iH (d,false)
 bn:Int×Tk:=iH k.2
 b:List Int×Tk:=gG bn.1.toNat bn.2
 tn:Int×Tk:=iH b.2
 t:List Int×Tk:=gG tn.1.toNat tn.2
 un:Int×Tk:=iH t.2
 u:List Int×Tk:=pE un.2 un.1.toNat
 m:Int×Tk:=iH u.2
 f:Int×Tk:=iH m.2
 da:Int×Tk:=gy f.2
 xn:Int×Tk:=gy da.2
 x:List Int×Tk:=gG xn.1.toNat xn.2
def vW (d:List Int):KC×Tk:=
 let r:afn d:={}
 ((r.k.1,r.b.1,r.t.1,r.u.1,r.m.1,r.f.1,r.da.1,r.x.1,()),r.x.2)
theorem Me (o:KC) (r:List Int):vW (jw o++r)=(o,(r,false)):=by
 obtain ⟨k,b,t,u,m,f,da,x,_⟩:=o
 simp only [vW,jw,List.cons_append,List.append_assoc,X6,Int.toNat_natCast,Ku,XR,TB]
def bN (t:Tk):Int×Tk:=match t.1 with | []=>(0,([],true)) | x :: r=>(x,(r,t.2))
def iY (t:Tk):Int×Tk:=((bN t).1 * 256+(bN (bN t).2).1,(bN (bN t).2).2)
def iC:Nat→Tk→List Int×Tk
 | 0,t=>([],t)
 | n+1,t=>if t.2=true then ([],t) else ((bN t).1 :: (iC n (bN t).2).1,(iC n (bN t).2).2)
def nS:Nat→Tk→List Int×Tk
 | 0,t=>([],t)
 | n+1,t=>if t.2=true then ([],t) else ((iY t).1 :: (nS n (iY t).2).1,(nS n (iY t).2).2)
theorem Lp {x:Int} {r:List Int}:bN (x :: r,false)=(x,(r,false)):=rfl
theorem Qb {n:Int} {r:List Int}:iY (two n++r,false)=(n,(r,false)):=by
 show (n / 256 * 256+n % 256,(r,false))=_
 rw [show n / 256 * 256+n % 256=n by omega]
theorem Lr {r:List Int}:∀{xs:List Int},iC xs.length (xs++r,false)=(xs,(r,false))
 | []=>rfl
 | x :: xs=>by
  rw [List.length_cons,iC,if_neg (by simp),List.cons_append,Lp,Lr (xs:=xs)]
theorem Mw {r:List Int}:∀{us:List Int},nS us.length (us.flatMap two++r,false)=(us,(r,false))
 | []=>rfl
 | u :: us=>by
  rw [List.length_cons,nS,if_neg (by simp),List.flatMap_cons,List.append_assoc,Qb,Mw (us:=us)]
structure afo (d:List Int) where
 k:Int×Tk:=bN (d,false)
 bn:Int×Tk:=bN k.2
 b:List Int×Tk:=iC bn.1.toNat bn.2
 tn:Int×Tk:=bN b.2
 t:List Int×Tk:=iC tn.1.toNat tn.2
 un:Int×Tk:=bN t.2
 u:List Int×Tk:=nS un.1.toNat un.2
 m:Int×Tk:=bN u.2
 f:Int×Tk:=bN m.2
 da:Int×Tk:=iY f.2
 xn:Int×Tk:=iY da.2
 x:List Int×Tk:=iC xn.1.toNat xn.2
def EL (d:List Int):KC×Tk:=
 let r:afo d:={}
 ((r.k.1,r.b.1,r.t.1,r.u.1,r.m.1,r.f.1,r.da.1,r.x.1,()),r.x.2)
theorem DI (o:KC) (r:List Int):EL (jw o++r)=(o,(r,false)):=by
 obtain ⟨k,b,t,u,m,f,da,x,_⟩:=o
 simp only [EL,jw,List.cons_append,List.append_assoc,Lp,Int.toNat_natCast,Lr,Mw,Qb]
section
variable {R:KC→Prop}
def Is (R:KC→Prop) (d:List Int) (o:KC):Prop:=R o∧fI o <+: d
theorem JO {d:List Int} {o:KC} (h:fI o <+: d):2≤d.length∧d.getD 0 0 * 256+d.getD 1 0=((fI o).length:Int)∧d.take (fI o).length=fI o:=by
 obtain ⟨r,rfl⟩:=h
 refine ⟨by rw [List.length_append,vG]; omega, ?_,by simp⟩
 have e:(fI o++r)=two (((jw o).length:Int)+4)++(jw o++two (Bg (yf o))++r):=by simp [fI,yf]
 rw [e,vG]
 show ((((jw o).length:Int)+4) / 256) * 256+(((jw o).length:Int)+4) % 256=_
 omega
theorem zw (o:KC):(fI o).drop 2=jw o++two (Bg (yf o)):=rfl
theorem ac1 {d:List Int} {o o':KC} (h:fI o <+: d) (h':fI o' <+: d):o=o':=by
 obtain ⟨_,e1,t1⟩:=JO h
 obtain ⟨_,e2,t2⟩:=JO h'
 have hl:(fI o).length=(fI o').length:=by omega
 rw [hl,t2] at t1
 have hd:=congrArg (fun l=>vW (l.drop 2)) t1
 simp only [zw,Me] at hd
 exact (congrArg Prod.fst hd).symm
open Classical in
noncomputable def xD (R:KC→Prop) (d:List Int):Option KC:=if h:∃o,Is R d o then some h.choose else none
theorem Mf {d:List Int} {o:KC} (h:Is R d o):xD R d=some o:=by
 unfold xD
 rw [dif_pos ⟨o,h⟩]
 have h2:∃o,Is R d o:=⟨o,h⟩
 exact congrArg some (ac1 h2.choose_spec.2 h.2)
theorem F9 {d:List Int} (h:¬∃o,Is R d o):xD R d=none:=by
 unfold xD
 rw [dif_neg h]
theorem EM {d:List Int} {o:KC} (h:xD R d=some o):Is R d o:=by
 unfold xD at h
 split at h
 ·rename_i hh
  simp only [Option.some.injEq] at h
  rw [←h]
  exact hh.choose_spec
 ·simp at h
noncomputable def xR (R:KC→Prop):Nat→List Int→List KC×Nat
 | 0,_=>([],0)
 | k+1,d=>match xD R d with
  | none=>([],0)
  | some o=>(o :: (xR R k (d.drop (fI o).length)).1,(fI o).length+(xR R k (d.drop (fI o).length)).2)
theorem JP:∀{k:Nat} {d:List Int},∀o∈(xR R k d).1,R o
 | 0,_,o,h=>by simp [xR] at h
 | k+1,d,o,h=>by
  rw [xR] at h
  cases hr:xD R d with
  | none=>rw [hr] at h; simp at h
  | some q=>
   rw [hr] at h
   rcases List.mem_cons.1 h with rfl | h
   ·exact (EM hr).1
   ·exact JP o h
theorem SY:∀{k:Nat} {d:List Int},(xR R k d).2≤d.length∧13 * (xR R k d).1.length≤d.length
 | 0,_=>by simp [xR]
 | k+1,d=>by
  rw [xR]
  cases hr:xD R d with
  | none=>simp
  | some q=>
   have h1:=(EM hr).2.length_le
   have h2:=SY (k:=k) (d:=d.drop (fI q).length)
   rw [List.length_drop] at h2
   have h3:=vG q
   have h4:=BS q
   simp only [List.length_cons]
   omega
end
end Go.Proofs.YtailcbngagacaaaGreat.zU
