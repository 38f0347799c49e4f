/- The bytes of an op, and how they are read back. No program in sight. -/
import Derived.Test.YtplpeegfeajkkaaGreatDoorCutLib
set_option linter.unusedVariables false
set_option linter.unusedSimpArgs false
namespace Go.Proofs.YtplpeegfeajkkaaGreatDoor.BH
open Go
abbrev mQ:=Int×List Int×List Int×List Int×Int×Int×Int×List Int×Unit
abbrev Tk:=List Int×Bool
def two(n:Int):List Int:=[n / 256,n%256]
def pR(l:List Int):Int:=l.foldl (λs b=>(s*31+b)%65521) 1
def jL(o:mQ):List Int:=
 o.1 :: (o.2.1.length:Int) :: (o.2.1++(o.2.2.1.length:Int) :: (o.2.2.1++(o.2.2.2.1.length:Int) :: (o.2.2.2.1.flatMap two++o.2.2.2.2.1 :: o.2.2.2.2.2.1 :: (two o.2.2.2.2.2.2.1++(two (o.2.2.2.2.2.2.2.1.length:Int)++o.2.2.2.2.2.2.2.1)))))
def sQ(o:mQ):List Int:=two (((jL o).length:Int)+4)++jL o
def h_(o:mQ):List Int:=sQ o++two (pR (sQ o))
theorem qP(n:Int):(two n).length=2:=rfl
theorem val_two(n:Int):(two n).getD 0 0*256+(two n).getD 1 0=n:=by
 show n / 256*256+n%256=n
 omega
theorem JP(us:List Int):(us.flatMap two).length=2*us.length:=by
 induction us with
 |nil=>rfl
 |cons u us ih=>simp only[List.flatMap_cons,List.length_append,qP,ih,List.length_cons];omega
theorem JN(o:mQ):(jL o).length=10+o.2.1.length+o.2.2.1.length+2*o.2.2.2.1.length+o.2.2.2.2.2.2.2.1.length:=by
 simp only[jL,List.length_cons,List.length_append,JP,qP]
 omega
theorem abP(o:mQ):(sQ o).length=(jL o).length+2:=by simp only[sQ,List.length_append,qP];omega
theorem Ap(o:mQ):(h_ o).length=(jL o).length+4:=by simp only[h_,List.length_append,abP,qP]
def iX(n:Nat)(t:Tk):List Int×Tk:=if t.2=true\/t.1.length<n then(List.replicate n 0,(t.1,true))else(t.1.take n,(t.1.drop n,false))
def fO(t:Tk):Int×Tk:=((iX 1 t).1.getD 0 0,(iX 1 t).2)
def eF(t:Tk):Int×Tk:=((iX 2 t).1.getD 0 0*256+(iX 2 t).1.getD 1 0,(iX 2 t).2)
def mF(t:Tk):Nat->List Int×Tk
 |0=>([],t)
 |n+1=>((mF t n).1++[(eF (mF t n).2).1],(eF (mF t n).2).2)
theorem Vn{xs r:List Int}:iX xs.length (xs++r,false)=(xs,(r,false)):=by
 unfold iX
 rw[if_neg (by simp)]
 simp
theorem aqM{x:Int}{r:List Int}:fO (x :: r,false)=(x,(r,false)):=by
 have:=Vn (xs:=[x]) (r:=r)
 unfold fO
 rw[show iX 1 (x :: r,false)=([x],(r,false))from this]
 rfl
theorem aeH{n:Int}{r:List Int}:eF (two n++r,false)=(n,(r,false)):=by
 have:=Vn (xs:=two n) (r:=r)
 unfold eF
 rw[show iX 2 (two n++r,false)=(two n,(r,false))from this,val_two]
theorem aqc{us r:List Int}:mF (us.flatMap two++r,false) us.length=(us,(r,false)):=by
 have h:∀k,k<=us.length->mF (us.flatMap two++r,false) k=(us.take k,((us.drop k).flatMap two++r,false)):=by
  intro k
  induction k with
  |zero=>intro _;simp[mF]
  |succ k ih=>
   intro hk
   have hlt:k<us.length:=by omega
   have hd:us.drop k=us[k] :: us.drop (k+1):=List.drop_eq_getElem_cons hlt
   have ht:us.take (k+1)=us.take k++[us[k]]:=by simp
   rw[mF,ih (by omega)]
   simp only[hd,List.flatMap_cons,List.append_assoc,aeH,ht]
 have:=h us.length (Nat.le_refl _)
 simpa using this
structure aki(d:List Int) where
 k:Int×Tk:=fO (d,false)
 bn:Int×Tk:=fO k.2
 b:List Int×Tk:=iX bn.1.toNat bn.2
 tn:Int×Tk:=fO b.2
 t:List Int×Tk:=iX tn.1.toNat tn.2
 un:Int×Tk:=fO t.2
 u:List Int×Tk:=mF un.2 un.1.toNat
 m:Int×Tk:=fO u.2
 f:Int×Tk:=fO m.2
 da:Int×Tk:=eF f.2
 xn:Int×Tk:=eF da.2
 x:List Int×Tk:=iX xn.1.toNat xn.2
def qQ(d:List Int):mQ×Tk:=
 let r:aki d:={}
 ((r.k.1,r.b.1,r.t.1,r.u.1,r.m.1,r.f.1,r.da.1,r.x.1,()),r.x.2)
theorem adS(o:mQ)(r:List Int):qQ (jL o++r)=(o,(r,false)):=by
 obtain⟨k,b,t,u,m,f,da,x,_⟩:=o
 simp only[qQ,jL,List.cons_append,List.append_assoc,aqM,Int.toNat_natCast,Vn,aqc,aeH]
def dI(t:Tk):Int×Tk:=match t.1 with | []=>(0,([],true))|x :: r=>(x,(r,t.2))
def jJ(t:Tk):Int×Tk:=((dI t).1*256+(dI (dI t).2).1,(dI (dI t).2).2)
def lq:Nat->Tk->List Int×Tk
 |0,t=>([],t)
 |n+1,t=>if t.2=true then([],t)else((dI t).1 :: (lq n (dI t).2).1,(lq n (dI t).2).2)
def pW:Nat->Tk->List Int×Tk
 |0,t=>([],t)
 |n+1,t=>if t.2=true then([],t)else((jJ t).1 :: (pW n (jJ t).2).1,(pW n (jJ t).2).2)
theorem Zo{x:Int}{r:List Int}:dI (x :: r,false)=(x,(r,false)):=rfl
theorem aeP{n:Int}{r:List Int}:jJ (two n++r,false)=(n,(r,false)):=by
 show(n / 256*256+n%256,(r,false))=_
 rw[show n / 256*256+n%256=n by omega]
theorem Zp{r:List Int}:∀{xs:List Int},lq xs.length (xs++r,false)=(xs,(r,false))
 | []=>rfl
 |x :: xs=>by
  rw[List.length_cons,lq,if_neg (by simp),List.cons_append,Zo,Zp (xs:=xs)]
theorem aeQ{r:List Int}:∀{us:List Int},pW us.length (us.flatMap two++r,false)=(us,(r,false))
 | []=>rfl
 |u :: us=>by
  rw[List.length_cons,pW,if_neg (by simp),List.flatMap_cons,List.append_assoc,aeP,aeQ (us:=us)]
structure akj(d:List Int) where
 k:Int×Tk:=dI (d,false)
 bn:Int×Tk:=dI k.2
 b:List Int×Tk:=lq bn.1.toNat bn.2
 tn:Int×Tk:=dI b.2
 t:List Int×Tk:=lq tn.1.toNat tn.2
 un:Int×Tk:=dI t.2
 u:List Int×Tk:=pW un.1.toNat un.2
 m:Int×Tk:=dI u.2
 f:Int×Tk:=dI m.2
 da:Int×Tk:=jJ f.2
 xn:Int×Tk:=jJ da.2
 x:List Int×Tk:=lq xn.1.toNat xn.2
def yV(d:List Int):mQ×Tk:=
 let r:akj d:={}
 ((r.k.1,r.b.1,r.t.1,r.u.1,r.m.1,r.f.1,r.da.1,r.x.1,()),r.x.2)
theorem UJ(o:mQ)(r:List Int):yV (jL o++r)=(o,(r,false)):=by
 obtain⟨k,b,t,u,m,f,da,x,_⟩:=o
 simp only[yV,jL,List.cons_append,List.append_assoc,Zo,Int.toNat_natCast,Zp,aeQ,aeP]
section
variable {R:mQ->Prop}
def Is(R:mQ->Prop)(d:List Int)(o:mQ):Prop:=R o/\h_ o <+: d
theorem JH{d:List Int}{o:mQ}(h:h_ o <+: d):2<=d.length/\d.getD 0 0*256+d.getD 1 0=((h_ o).length:Int)/\d.take (h_ o).length=h_ o:=by
 obtain⟨r,rfl⟩:=h
 refine⟨by rw[List.length_append,Ap];omega,?_,by simp⟩
 have e:(h_ o++r)=two (((jL o).length:Int)+4)++(jL o++two (pR (sQ o))++r):=by simp[h_,sQ]
 rw[e,Ap]
 show((((jL o).length:Int)+4) / 256)*256+(((jL o).length:Int)+4)%256=_
 omega
theorem Ka(o:mQ):(h_ o).drop 2=jL o++two (pR (sQ o)):=rfl
theorem apv{d:List Int}{o o':mQ}(h:h_ o <+: d)(h':h_ o' <+: d):o=o':=by
 obtain⟨_,e1,t1⟩:=JH h
 obtain⟨_,e2,t2⟩:=JH h'
 have hl:(h_ o).length=(h_ o').length:=by omega
 rw[hl,t2]at t1
 have hd:=congrArg (λl=>qQ (l.drop 2)) t1
 simp only[Ka,adS]at hd
 exact(congrArg Prod.fst hd).symm
open Classical in
noncomputable def rQ (R:mQ->Prop) (d:List Int):Option mQ:=if h:∃o,Is R d o then some h.choose else none
theorem adT{d:List Int}{o:mQ}(h:Is R d o):rQ R d=some o:=by
 unfold rQ
 rw[dif_pos ⟨o,h⟩]
 have h2:∃o,Is R d o:=⟨o,h⟩
 exact congrArg some (apv h2.choose_spec.2 h.2)
theorem UL{d:List Int}(h:¬∃o,Is R d o):rQ R d=none:=by
 unfold rQ
 rw[dif_neg h]
theorem Kg{d:List Int}{o:mQ}(h:rQ R d=some o):Is R d o:=by
 unfold rQ at h
 split at h
 ·rename_i hh
  simp only[Option.some.injEq]at h
  rw[<-h]
  exact hh.choose_spec
 ·simp at h
noncomputable def nk (R:mQ->Prop):Nat->List Int->List mQ×Nat
 |0,_=>([],0)
 |k+1,d=>match rQ R d with
  |none=>([],0)
  |some o=>(o :: (nk R k (d.drop (h_ o).length)).1,(h_ o).length+(nk R k (d.drop (h_ o).length)).2)
theorem abI:∀{k:Nat} {d:List Int},∀o∈(nk R k d).1,R o
 |0,_,o,h=>by simp[nk]at h
 |k+1,d,o,h=>by
  rw[nk]at h
  cases hr:rQ R d with
  |none=>rw[hr]at h;simp at h
  |some q=>
   rw[hr]at h
   rcases List.mem_cons.1 h with rfl|h
   ·exact(Kg hr).1
   ·exact abI o h
theorem abH:∀{k:Nat} {d:List Int},(nk R k d).2<=d.length/\13*(nk R k d).1.length<=d.length
 |0,_=>by simp[nk]
 |k+1,d=>by
  rw[nk]
  cases hr:rQ R d with
  |none=>simp
  |some q=>
   have h1:=(Kg hr).2.length_le
   have h2:=abH (k:=k) (d:=d.drop (h_ q).length)
   rw[List.length_drop]at h2
   have h3:=Ap q
   have h4:=JN q
   simp only[List.length_cons]
   omega
end
end Go.Proofs.YtplpeegfeajkkaaGreatDoor.BH
