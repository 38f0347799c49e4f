/- The bytes of an op, and how they are read back. No program in sight. -/
import Derived.Test.YtailcbngagacaaaGreatGrowLib
set_option linter.unusedVariables false
set_option linter.unusedSimpArgs false
namespace Go.Proofs.YtailcbngagacaaaGreat.vB
open Go
abbrev mK:=Int×List Int×List Int×List Int×Int×Int×Int×List Int×Unit
abbrev Tk:=List Int×Bool
def two (n:Int):List Int:=[n / 256,n % 256]
def pE (l:List Int):Int:=l.foldl (fun s b=>(s * 31+b) % 65521) 1
def jR (o:mK):List Int:=
 o.1 :: (o.2.1.length:Int) :: (o.2.1++(o.2.2.1.length:Int) :: (o.2.2.1++(o.2.2.2.1.length:Int) :: (o.2.2.2.1.flatMap two++o.2.2.2.2.1 :: o.2.2.2.2.2.1 :: (two o.2.2.2.2.2.2.1++(two (o.2.2.2.2.2.2.2.1.length:Int)++o.2.2.2.2.2.2.2.1)))))
def qZ (o:mK):List Int:=two (((jR o).length:Int)+4)++jR o
def bZ (o:mK):List Int:=qZ o++two (pE (qZ o))
theorem qG (n:Int):(two n).length=2:=rfl
theorem val_two (n:Int):(two n).getD 0 0 * 256+(two n).getD 1 0=n:=by
 show n / 256 * 256+n % 256=n
 omega
theorem Jr (us:List Int):(us.flatMap two).length=2 * us.length:=by
 induction us with
 | nil=>rfl
 | cons u us ih=>simp only [List.flatMap_cons,List.length_append,qG,ih,List.length_cons]; omega
theorem Jp (o:mK):(jR o).length=10+o.2.1.length+o.2.2.1.length+2 * o.2.2.2.1.length+o.2.2.2.2.2.2.2.1.length:=by
 simp only [jR,List.length_cons,List.length_append,Jr,qG]
 omega
theorem aar (o:mK):(qZ o).length=(jR o).length+2:=by simp only [qZ,List.length_append,qG]; omega
theorem xw (o:mK):(bZ o).length=(jR o).length+4:=by simp only [bZ,List.length_append,aar,qG]
def iZ (n:Nat) (t:Tk):List Int×Tk:=if t.2=true\/t.1.length<n then (List.replicate n 0,(t.1,true)) else (t.1.take n,(t.1.drop n,false))
def fH (t:Tk):Int×Tk:=((iZ 1 t).1.getD 0 0,(iZ 1 t).2)
def dW (t:Tk):Int×Tk:=((iZ 2 t).1.getD 0 0 * 256+(iZ 2 t).1.getD 1 0,(iZ 2 t).2)
def mq (t:Tk):Nat->List Int×Tk
 | 0=>([],t)
 | n+1=>((mq t n).1++[(dW (mq t n).2).1],(dW (mq t n).2).2)
theorem UI {xs r:List Int}:iZ xs.length (xs++r,false)=(xs,(r,false)):=by
 unfold iZ
 rw [if_neg (by simp)]
 simp
theorem amD {x:Int} {r:List Int}:fH (x :: r,false)=(x,(r,false)):=by
 have:=UI (xs:=[x]) (r:=r)
 unfold fH
 rw [show iZ 1 (x :: r,false)=([x],(r,false)) from this]
 rfl
theorem acD {n:Int} {r:List Int}:dW (two n++r,false)=(n,(r,false)):=by
 have:=UI (xs:=two n) (r:=r)
 unfold dW
 rw [show iZ 2 (two n++r,false)=(two n,(r,false)) from this,val_two]
theorem amc {us r:List Int}:mq (us.flatMap two++r,false) us.length=(us,(r,false)):=by
 have h:∀k,k<=us.length->mq (us.flatMap two++r,false) k=(us.take k,((us.drop k).flatMap two++r,false)):=by
  intro k
  induction k with
  | zero=>intro _; simp [mq]
  | succ k ih=>
   intro hk
   have hlt:k<us.length:=by omega
   have hd:us.drop k=us[k] :: us.drop (k+1):=List.drop_eq_getElem_cons hlt
   have ht:us.take (k+1)=us.take k++[us[k]]:=by simp
   rw [mq,ih (by omega)]
   simp only [hd,List.flatMap_cons,List.append_assoc,acD,ht]
 have:=h us.length (Nat.le_refl _)
 simpa using this
structure agM (d:List Int) where
 k:Int×Tk:=fH (d,false)
 bn:Int×Tk:=fH k.2
 b:List Int×Tk:=iZ bn.1.toNat bn.2
 tn:Int×Tk:=fH b.2
 t:List Int×Tk:=iZ tn.1.toNat tn.2
 un:Int×Tk:=fH t.2
 u:List Int×Tk:=mq un.2 un.1.toNat
 m:Int×Tk:=fH u.2
 f:Int×Tk:=fH m.2
 da:Int×Tk:=dW f.2
 xn:Int×Tk:=dW da.2
 x:List Int×Tk:=iZ xn.1.toNat xn.2
def qI (d:List Int):mK×Tk:=
 let r:agM d:={}
 ((r.k.1,r.b.1,r.t.1,r.u.1,r.m.1,r.f.1,r.da.1,r.x.1,()),r.x.2)
theorem abM (o:mK) (r:List Int):qI (jR o++r)=(o,(r,false)):=by
 obtain ⟨k,b,t,u,m,f,da,x,_⟩:=o
 simp only [qI,jR,List.cons_append,List.append_assoc,amD,Int.toNat_natCast,UI,amc,acD]
def cZ (t:Tk):Int×Tk:=match t.1 with | []=>(0,([],true)) | x :: r=>(x,(r,t.2))
def jK (t:Tk):Int×Tk:=((cZ t).1 * 256+(cZ (cZ t).2).1,(cZ (cZ t).2).2)
def lG:Nat->Tk->List Int×Tk
 | 0,t=>([],t)
 | n+1,t=>if t.2=true then ([],t) else ((cZ t).1 :: (lG n (cZ t).2).1,(lG n (cZ t).2).2)
def pI:Nat->Tk->List Int×Tk
 | 0,t=>([],t)
 | n+1,t=>if t.2=true then ([],t) else ((jK t).1 :: (pI n (jK t).2).1,(pI n (jK t).2).2)
theorem XX {x:Int} {r:List Int}:cZ (x :: r,false)=(x,(r,false)):=rfl
theorem acL {n:Int} {r:List Int}:jK (two n++r,false)=(n,(r,false)):=by
 show (n / 256 * 256+n % 256,(r,false))=_
 rw [show n / 256 * 256+n % 256=n by omega]
theorem XY {r:List Int}:∀{xs:List Int},lG xs.length (xs++r,false)=(xs,(r,false))
 | []=>rfl
 | x :: xs=>by
  rw [List.length_cons,lG,if_neg (by simp),List.cons_append,XX,XY (xs:=xs)]
theorem acM {r:List Int}:∀{us:List Int},pI us.length (us.flatMap two++r,false)=(us,(r,false))
 | []=>rfl
 | u :: us=>by
  rw [List.length_cons,pI,if_neg (by simp),List.flatMap_cons,List.append_assoc,acL,acM (us:=us)]
structure agN (d:List Int) where
 k:Int×Tk:=cZ (d,false)
 bn:Int×Tk:=cZ k.2
 b:List Int×Tk:=lG bn.1.toNat bn.2
 tn:Int×Tk:=cZ b.2
 t:List Int×Tk:=lG tn.1.toNat tn.2
 un:Int×Tk:=cZ t.2
 u:List Int×Tk:=pI un.1.toNat un.2
 m:Int×Tk:=cZ u.2
 f:Int×Tk:=cZ m.2
 da:Int×Tk:=jK f.2
 xn:Int×Tk:=jK da.2
 x:List Int×Tk:=lG xn.1.toNat xn.2
def yG (d:List Int):mK×Tk:=
 let r:agN d:={}
 ((r.k.1,r.b.1,r.t.1,r.u.1,r.m.1,r.f.1,r.da.1,r.x.1,()),r.x.2)
theorem T_ (o:mK) (r:List Int):yG (jR o++r)=(o,(r,false)):=by
 obtain ⟨k,b,t,u,m,f,da,x,_⟩:=o
 simp only [yG,jR,List.cons_append,List.append_assoc,XX,Int.toNat_natCast,XY,acM,acL]
section
variable {R:mK->Prop}
def Is (R:mK->Prop) (d:List Int) (o:mK):Prop:=R o/\bZ o <+: d
theorem Fj {d:List Int} {o:mK} (h:bZ o <+: d):2<=d.length/\d.getD 0 0 * 256+d.getD 1 0=((bZ o).length:Int)/\d.take (bZ o).length=bZ o:=by
 obtain ⟨r,rfl⟩:=h
 refine ⟨by rw [List.length_append,xw]; omega, ?_,by simp⟩
 have e:(bZ o++r)=two (((jR o).length:Int)+4)++(jR o++two (pE (qZ o))++r):=by simp [bZ,qZ]
 rw [e,xw]
 show ((((jR o).length:Int)+4) / 256) * 256+(((jR o).length:Int)+4) % 256=_
 omega
theorem JH (o:mK):(bZ o).drop 2=jR o++two (pE (qZ o)):=rfl
theorem aad {d:List Int} {o o':mK} (h:bZ o <+: d) (h':bZ o' <+: d):o=o':=by
 obtain ⟨_,e1,t1⟩:=Fj h
 obtain ⟨_,e2,t2⟩:=Fj h'
 have hl:(bZ o).length=(bZ o').length:=by omega
 rw [hl,t2] at t1
 have hd:=congrArg (fun l=>qI (l.drop 2)) t1
 simp only [JH,abM] at hd
 exact (congrArg Prod.fst hd).symm
open Classical in
noncomputable def qi (R:mK->Prop) (d:List Int):Option mK:=if h:∃o,Is R d o then some h.choose else none
theorem Ua {d:List Int} {o:mK} (h:Is R d o):qi R d=some o:=by
 unfold qi
 rw [dif_pos ⟨o,h⟩]
 have h2:∃o,Is R d o:=⟨o,h⟩
 exact congrArg some (aad h2.choose_spec.2 h.2)
theorem NZ {d:List Int} (h:¬∃o,Is R d o):qi R d=none:=by
 unfold qi
 rw [dif_neg h]
theorem Da {d:List Int} {o:mK} (h:qi R d=some o):Is R d o:=by
 unfold qi at h
 split at h
 ·rename_i hh
  simp only [Option.some.injEq] at h
  rw [<-h]
  exact hh.choose_spec
 ·simp at h
noncomputable def jB (R:mK->Prop):Nat->List Int->List mK×Nat
 | 0,_=>([],0)
 | k+1,d=>match qi R d with
  | none=>([],0)
  | some o=>(o :: (jB R k (d.drop (bZ o).length)).1,(bZ o).length+(jB R k (d.drop (bZ o).length)).2)
theorem aal:∀{k:Nat} {d:List Int},∀o∈(jB R k d).1,R o
 | 0,_,o,h=>by simp [jB] at h
 | k+1,d,o,h=>by
  rw [jB] at h
  cases hr:qi R d with
  | none=>rw [hr] at h; simp at h
  | some q=>
   rw [hr] at h
   rcases List.mem_cons.1 h with rfl | h
   ·exact (Da hr).1
   ·exact aal o h
theorem aak:∀{k:Nat} {d:List Int},(jB R k d).2<=d.length/\13 * (jB R k d).1.length<=d.length
 | 0,_=>by simp [jB]
 | k+1,d=>by
  rw [jB]
  cases hr:qi R d with
  | none=>simp
  | some q=>
   have h1:=(Da hr).2.length_le
   have h2:=aak (k:=k) (d:=d.drop (bZ q).length)
   rw [List.length_drop] at h2
   have h3:=xw q
   have h4:=Jp q
   simp only [List.length_cons]
   omega
end
end Go.Proofs.YtailcbngagacaaaGreat.vB
