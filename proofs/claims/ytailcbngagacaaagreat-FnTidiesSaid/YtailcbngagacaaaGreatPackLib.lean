/- The bytes of an op, and how they are read back. No program in sight. -/
import Derived.Test.YtailcbngagacaaaGreatCutLib
set_option linter.unusedVariables false
set_option linter.unusedSimpArgs false
namespace Go.Proofs.YtailcbngagacaaaGreat.qc
open Go
abbrev Hw:=Int×List Int×List Int×List Int×Int×Int×Int×List Int×Unit
abbrev Tk:=List Int×Bool
def two (n:Int):List Int:=[n / 256,n % 256]
def yJ (l:List Int):Int:=l.foldl (fun s b=>(s * 31+b) % 65521) 1
def j6 (o:Hw):List Int:=
 o.1 :: (o.2.1.length:Int) :: (o.2.1++(o.2.2.1.length:Int) :: (o.2.2.1++(o.2.2.2.1.length:Int) :: (o.2.2.2.1.flatMap two++o.2.2.2.2.1 :: o.2.2.2.2.2.1 :: (two o.2.2.2.2.2.2.1++(two (o.2.2.2.2.2.2.2.1.length:Int)++o.2.2.2.2.2.2.2.1)))))
def vD (o:Hw):List Int:=two (((j6 o).length:Int)+4)++j6 o
def bK (o:Hw):List Int:=vD o++two (yJ (vD o))
theorem lW (n:Int):(two n).length=2:=rfl
theorem val_two (n:Int):(two n).getD 0 0 * 256+(two n).getD 1 0=n:=by
 show n / 256 * 256+n % 256=n
 omega
theorem za (us:List Int):(us.flatMap two).length=2 * us.length:=by
 induction us with
 | nil=>rfl
 | cons u us ih=>simp only [List.flatMap_cons,List.length_append,lW,ih,List.length_cons]; omega
theorem y9 (o:Hw):(j6 o).length=10+o.2.1.length+o.2.2.1.length+2 * o.2.2.2.1.length+o.2.2.2.2.2.2.2.1.length:=by
 simp only [j6,List.length_cons,List.length_append,za,lW]
 omega
theorem Mw (o:Hw):(vD o).length=(j6 o).length+2:=by simp only [vD,List.length_append,lW]; omega
theorem oD (o:Hw):(bK o).length=(j6 o).length+4:=by simp only [bK,List.length_append,Mw,lW]
def iH (n:Nat) (t:Tk):List Int×Tk:=if t.2=true\/t.1.length<n then (List.replicate n 0,(t.1,true)) else (t.1.take n,(t.1.drop n,false))
def jr (t:Tk):Int×Tk:=((iH 1 t).1.getD 0 0,(iH 1 t).2)
def iq (t:Tk):Int×Tk:=((iH 2 t).1.getD 0 0 * 256+(iH 2 t).1.getD 1 0,(iH 2 t).2)
def oF (t:Tk):Nat->List Int×Tk
 | 0=>([],t)
 | n+1=>((oF t n).1++[(iq (oF t n).2).1],(iq (oF t n).2).2)
theorem Ho {xs r:List Int}:iH xs.length (xs++r,false)=(xs,(r,false)):=by
 unfold iH
 rw [if_neg (by simp)]
 simp
theorem V9 {x:Int} {r:List Int}:jr (x :: r,false)=(x,(r,false)):=by
 have:=Ho (xs:=[x]) (r:=r)
 unfold jr
 rw [show iH 1 (x :: r,false)=([x],(r,false)) from this]
 rfl
theorem QJ {n:Int} {r:List Int}:iq (two n++r,false)=(n,(r,false)):=by
 have:=Ho (xs:=two n) (r:=r)
 unfold iq
 rw [show iH 2 (two n++r,false)=(two n,(r,false)) from this,val_two]
theorem VV {us r:List Int}:oF (us.flatMap two++r,false) us.length=(us,(r,false)):=by
 have h:∀k,k<=us.length->oF (us.flatMap two++r,false) k=(us.take k,((us.drop k).flatMap two++r,false)):=by
  intro k
  induction k with
  | zero=>intro _; simp [oF]
  | succ k ih=>
   intro hk
   have hlt:k<us.length:=by omega
   have hd:us.drop k=us[k] :: us.drop (k+1):=List.drop_eq_getElem_cons hlt
   have ht:us.take (k+1)=us.take k++[us[k]]:=by simp
   rw [oF,ih (by omega)]
   simp only [hd,List.flatMap_cons,List.append_assoc,QJ,ht]
 have:=h us.length (Nat.le_refl _)
 simpa using this
structure aew (d:List Int) where
 k:Int×Tk:=jr (d,false)
 bn:Int×Tk:=jr k.2
 b:List Int×Tk:=iH bn.1.toNat bn.2
 tn:Int×Tk:=jr b.2
 t:List Int×Tk:=iH tn.1.toNat tn.2
 un:Int×Tk:=jr t.2
 u:List Int×Tk:=oF un.2 un.1.toNat
 m:Int×Tk:=jr u.2
 f:Int×Tk:=jr m.2
 da:Int×Tk:=iq f.2
 xn:Int×Tk:=iq da.2
 x:List Int×Tk:=iH xn.1.toNat xn.2
def uD (d:List Int):Hw×Tk:=
 let r:aew d:={}
 ((r.k.1,r.b.1,r.t.1,r.u.1,r.m.1,r.f.1,r.da.1,r.x.1,()),r.x.2)
theorem Jm (o:Hw) (r:List Int):uD (j6 o++r)=(o,(r,false)):=by
 obtain ⟨k,b,t,u,m,f,da,x,_⟩:=o
 simp only [uD,j6,List.cons_append,List.append_assoc,V9,Int.toNat_natCast,Ho,VV,QJ]
def cu (t:Tk):Int×Tk:=match t.1 with | []=>(0,([],true)) | x :: r=>(x,(r,t.2))
def jK (t:Tk):Int×Tk:=((cu t).1 * 256+(cu (cu t).2).1,(cu (cu t).2).2)
def jl:Nat->Tk->List Int×Tk
 | 0,t=>([],t)
 | n+1,t=>if t.2=true then ([],t) else ((cu t).1 :: (jl n (cu t).2).1,(jl n (cu t).2).2)
def nM:Nat->Tk->List Int×Tk
 | 0,t=>([],t)
 | n+1,t=>if t.2=true then ([],t) else ((jK t).1 :: (nM n (jK t).2).1,(nM n (jK t).2).2)
theorem IU {x:Int} {r:List Int}:cu (x :: r,false)=(x,(r,false)):=rfl
theorem Ng {n:Int} {r:List Int}:jK (two n++r,false)=(n,(r,false)):=by
 show (n / 256 * 256+n % 256,(r,false))=_
 rw [show n / 256 * 256+n % 256=n by omega]
theorem IV {r:List Int}:∀{xs:List Int},jl xs.length (xs++r,false)=(xs,(r,false))
 | []=>rfl
 | x :: xs=>by
  rw [List.length_cons,jl,if_neg (by simp),List.cons_append,IU,IV (xs:=xs)]
theorem JE {r:List Int}:∀{us:List Int},nM us.length (us.flatMap two++r,false)=(us,(r,false))
 | []=>rfl
 | u :: us=>by
  rw [List.length_cons,nM,if_neg (by simp),List.flatMap_cons,List.append_assoc,Ng,JE (us:=us)]
structure aex (d:List Int) where
 k:Int×Tk:=cu (d,false)
 bn:Int×Tk:=cu k.2
 b:List Int×Tk:=jl bn.1.toNat bn.2
 tn:Int×Tk:=cu b.2
 t:List Int×Tk:=jl tn.1.toNat tn.2
 un:Int×Tk:=cu t.2
 u:List Int×Tk:=nM un.1.toNat un.2
 m:Int×Tk:=cu u.2
 f:Int×Tk:=cu m.2
 da:Int×Tk:=jK f.2
 xn:Int×Tk:=jK da.2
 x:List Int×Tk:=jl xn.1.toNat xn.2
def Ca (d:List Int):Hw×Tk:=
 let r:aex d:={}
 ((r.k.1,r.b.1,r.t.1,r.u.1,r.m.1,r.f.1,r.da.1,r.x.1,()),r.x.2)
theorem AZ (o:Hw) (r:List Int):Ca (j6 o++r)=(o,(r,false)):=by
 obtain ⟨k,b,t,u,m,f,da,x,_⟩:=o
 simp only [Ca,j6,List.cons_append,List.append_assoc,IU,Int.toNat_natCast,IV,JE,Ng]
section
variable {R:Hw->Prop}
def Is (R:Hw->Prop) (d:List Int) (o:Hw):Prop:=R o/\bK o <+: d
theorem CZ {d:List Int} {o:Hw} (h:bK o <+: d):2<=d.length/\d.getD 0 0 * 256+d.getD 1 0=((bK o).length:Int)/\d.take (bK o).length=bK o:=by
 obtain ⟨r,rfl⟩:=h
 refine ⟨by rw [List.length_append,oD]; omega, ?_,by simp⟩
 have e:(bK o++r)=two (((j6 o).length:Int)+4)++(j6 o++two (yJ (vD o))++r):=by simp [bK,vD]
 rw [e,oD]
 show ((((j6 o).length:Int)+4) / 256) * 256+(((j6 o).length:Int)+4) % 256=_
 omega
theorem xz (o:Hw):(bK o).drop 2=j6 o++two (yJ (vD o)):=rfl
theorem abu {d:List Int} {o o':Hw} (h:bK o <+: d) (h':bK o' <+: d):o=o':=by
 obtain ⟨_,e1,t1⟩:=CZ h
 obtain ⟨_,e2,t2⟩:=CZ h'
 have hl:(bK o).length=(bK o').length:=by omega
 rw [hl,t2] at t1
 have hd:=congrArg (fun l=>uD (l.drop 2)) t1
 simp only [xz,Jm] at hd
 exact (congrArg Prod.fst hd).symm
open Classical in
noncomputable def uj (R:Hw->Prop) (d:List Int):Option Hw:=if h:∃o,Is R d o then some h.choose else none
theorem Dk {d:List Int} {o:Hw} (h:Is R d o):uj R d=some o:=by
 unfold uj
 rw [dif_pos ⟨o,h⟩]
 have h2:∃o,Is R d o:=⟨o,h⟩
 exact congrArg some (abu h2.choose_spec.2 h.2)
theorem Dj {d:List Int} (h:¬∃o,Is R d o):uj R d=none:=by
 unfold uj
 rw [dif_neg h]
theorem ym {d:List Int} {o:Hw} (h:uj R d=some o):Is R d o:=by
 unfold uj at h
 split at h
 ·rename_i hh
  simp only [Option.some.injEq] at h
  rw [<-h]
  exact hh.choose_spec
 ·simp at h
noncomputable def pU (R:Hw->Prop):Nat->List Int->List Hw×Nat
 | 0,_=>([],0)
 | k+1,d=>match uj R d with
  | none=>([],0)
  | some o=>(o :: (pU R k (d.drop (bK o).length)).1,(bK o).length+(pU R k (d.drop (bK o).length)).2)
theorem Gq:∀{k:Nat} {d:List Int},∀o∈(pU R k d).1,R o
 | 0,_,o,h=>by simp [pU] at h
 | k+1,d,o,h=>by
  rw [pU] at h
  cases hr:uj R d with
  | none=>rw [hr] at h; simp at h
  | some q=>
   rw [hr] at h
   rcases List.mem_cons.1 h with rfl | h
   ·exact (ym hr).1
   ·exact Gq o h
theorem Qq:∀{k:Nat} {d:List Int},(pU R k d).2<=d.length/\13 * (pU R k d).1.length<=d.length
 | 0,_=>by simp [pU]
 | k+1,d=>by
  rw [pU]
  cases hr:uj R d with
  | none=>simp
  | some q=>
   have h1:=(ym hr).2.length_le
   have h2:=Qq (k:=k) (d:=d.drop (bK q).length)
   rw [List.length_drop] at h2
   have h3:=oD q
   have h4:=y9 q
   simp only [List.length_cons]
   omega
end
end Go.Proofs.YtailcbngagacaaaGreat.qc
