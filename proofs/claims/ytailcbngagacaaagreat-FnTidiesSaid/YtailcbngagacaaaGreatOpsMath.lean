/- Ops on stores: what the printed functions of both sides come to. -/
import Derived.Test.YtailcbngagacaaaGreatStoreMath
set_option linter.unusedVariables false
set_option linter.unusedSimpArgs false
namespace Go.Proofs.YtailcbngagacaaaGreat.gU
open Go Ow JO kF iw
abbrev OpC:=Int×List Int×List Int×List Int×Int×Int×Int×List Int×Unit
def okO (o:OpC):Prop:=o.2.1.length<=big/\o.2.2.1.length<=big/\o.2.2.2.1.length<=big/\o.2.2.2.2.2.2.2.1.length<=big
theorem AJ {n:Nat} {bs:List Int} (h:bs.length<=big):gL n bs=some (bs,()):=by
 unfold big at h
 unfold gL
 rw [aoi (by simp; omega)]
 rfl
theorem clone {n:Nat} {bs:List Int} (h:bs.length<=big):dL n bs=some (bs,()):=by
 unfold big at h
 unfold dL
 have hc:(([]:List Int).length+bs.length) * 1<=140737488355328:=by simp; omega
 simp only [aoi hc]
 cases bs with
 | nil=>exact (aoi (show ([]:List Int).isEmpty=true from rfl)).trans (Ur (ks:=[.sl 5 (.int .u8)]) (some (([]:List Int),())))
 | cons b bs=>rfl
theorem OO {n:Nat} {ms:List oV} (hb:ms.length<=big) (h:∀m∈ms,OX m) (hn:big<n):nO n ms=some (ms,()):=by
 have hb':=hb
 unfold big at hb
 unfold nO
 refine (aT (fun i=>(ms,(i:Int),ms.take i,())) (fun _=>none) (some (ms,())) (m:=ms.length) (by simp) (by omega) ?_ ?_).trans (dn (fun _ _ _=>rfl))
 ·intro L i hi _
  have ht:ms.take (i+1)=ms.take i++[ms[i]]:=by simp
  have hl:(ms.take i).length<=i:=by simp; omega
  simp only [anG,hi,aox,aof,aJ hi,fV hi,aX hi (by omega),AJ (h ms[i] (anI hi)),anf,anA,ht]
  rw [aoi (by omega)]
 ·intro L _
  simp
theorem Db {n:Nat} {b:Bx} (h:okB b) (hn:big<n):jO n b=some (b,()):=by
 unfold jO
 rw [OO h.2.1 h.2.2 hn]
 rfl
theorem Da {n:Nat} {s:j4} (h:wW s) (hn:big<n):jI n s=some (s,()):=by
 have hb:=h.1
 unfold big at hb
 unfold jI
 refine (aT (fun i=>((i:Int),s,(0,[],()),(s.1,s.2.1.take i,()),())) (fun _=>none) (some (s,())) (m:=s.2.1.length) (by simp) (by have:=h.1; omega) ?_ ?_).trans (dn (fun _ _ _=>rfl))
 ·intro L i hi _
  have ht:s.2.1.take (i+1)=s.2.1.take i++[s.2.1[i]]:=by simp
  have hl:(s.2.1.take i).length<=i:=by simp; omega
  simp only [anG,hi,aox,aof,aJ hi,fV hi,aX hi (by omega),Db (h.2 _ (anI hi)) hn,anf,anA,ht]
  rw [aoi (by omega)]
 ·intro L _
  simp
theorem own {n:Nat} {s:j4} (h:wW s) (hn:big<n):jM n s=some (s,()):=by
 have hb:=h.1
 unfold big at hb
 unfold jM
 refine (aT (fun i=>(s.2.1,(s.2.1.length:Int),(i:Int),(0,[],()),(s.1,s.2.1.take i,()),())) (fun _=>none) (some (s,())) (m:=s.2.1.length) (by simp) (by have:=h.1; omega) ?_ ?_).trans (dn (fun _ _ _=>rfl))
 ·intro L i hi _
  have ht:s.2.1.take (i+1)=s.2.1.take i++[s.2.1[i]]:=by simp
  have hl:(s.2.1.take i).length<=i:=by simp; omega
  simp only [anG,hi,aox,aof,aJ hi,fV hi]
  have hB:=h.2 _ (anI hi)
  generalize s.2.1[i]=b at hB ht ⊢
  have hb2:=hB.2.1
  unfold big at hb2
  refine (aT (fun j=>(s.2.1,(s.2.1.length:Int),(i:Int),b.2.2.2.1,(b.2.2.2.1.length:Int),(j:Int),(0,[],()),(s.1,s.2.1.take i,()),(b.1,b.2.1,b.2.2.1,b.2.2.2.1.take j,()),())) (fun _=>none) (L (s.2.1,(s.2.1.length:Int),((i+1:Nat):Int),(0,[],()),(s.1,s.2.1.take (i+1),()),())) (m:=b.2.2.2.1.length) (by simp) (by have:=hB.2.1; omega) ?_ ?_).trans (dn (fun _ _ _=>rfl))
  ·intro L2 j hj _
   have htj:b.2.2.2.1.take (j+1)=b.2.2.2.1.take j++[b.2.2.2.1[j]]:=by simp
   have hlj:(b.2.2.2.1.take j).length<=j:=by simp; omega
   simp only [anG,hj,aox,aof,aJ hj,fV hj,aX hj (by omega),clone (hB.2.2 _ (anI hj)),anf,anA,htj]
   rw [aoi (by omega)]
  ·intro L2 _
   simp only [apc,apd,anh,aog,ape,anA,aX hi (by omega),ht]
   rw [aoi (by omega)]
 ·intro L _
  simp
def uP (s:j4) (nm:List Int):Int:=if s.2.1.findIdx (fun b=>decide (b.1=nm))<s.2.1.length then ((s.2.1.findIdx (fun b=>decide (b.1=nm)):Nat):Int) else -1
theorem mX (s:j4) (nm:List Int):uP s nm=-1\/∃i:Nat,uP s nm=(i:Int)/\i<s.2.1.length:=by
 unfold uP
 split
 ·exact .inr ⟨_,rfl,by assumption⟩
 ·exact .inl rfl
theorem abv {n:Nat} {s:j4} {nm:List Int} (hb:s.2.1.length<=big) (hn:big<n):qy n s nm=some (uP s nm,()):=by
 have hb':=hb
 unfold big at hb
 unfold qy
 refine (aT (fun i=>(s,nm,(i:Int),())) (fun j=>if decide ((s.2.1.getD j dB).1=nm)=true then some (some ((j:Int),())) else none) (some (-1,())) (m:=s.2.1.length) rfl (by omega) ?_ ?_).trans ?_
 ·intro L i hi _
  simp only [anG,hi,aox,aof,aJ hi,ano,aX hi (by omega)]
  split <;> rfl
 ·intro L _
  simp
 ·rw [mJ.xZ (p:=fun b:Bx=>decide (b.1=nm)) (r:=fun j=>some ((j:Int),())) s.2.1.length 0 (by omega)]
  simp only [apf,anY]
  unfold uP
  split <;> rfl
theorem box {n:Nat} {s:j4} {nm:List Int} (hb:s.2.1.length<=big) (hn:big<n):jL n s nm=some (uP s nm,()):=by
 unfold jL
 have h:cO n s.2.1 nm=some (_,()):=mJ.Gp (p:=fun b:Bx=>decide (b.1=nm)) (q:=fun c x=>qg n x c) (d:=dB) (fun _ _=>rfl) (fun _=>rfl) (by unfold big at hb; omega) (by omega)
 rw [h]
 rfl
theorem has {n:Nat} {us:List Int} {x:Int} (hb:us.length<=big) (hn:big<n):mQ n us x=some (us.contains x,()):=
 kG.Me (fun _ _=>rfl) (by unfold big at hb; omega) (by omega)
theorem contains {n:Nat} {us:List Int} {x:Int} (hb:us.length<=big) (hn:big<n):aZ n us x=some (us.contains x,()):=
 mJ.Kh (fun _ _=>rfl) (by unfold big at hb; omega) (by omega)
def xB (b:Bx) (m:oV):Bx:=(b.1,b.2.1,b.2.2.1+1,b.2.2.2.1++[(b.2.2.1,m.2.1,m.2.2.1,m.2.2.2.1,())],())
theorem MU {n:Nat} {b:Bx} {m:oV} (hm:OX m) (h1:0<=b.2.2.1) (h2:b.2.2.1<=2000) (h3:b.2.2.2.1.length<=2000):mR n b m=some (b.2.2.1,xB b m,()):=by
 unfold mR
 rw [AJ hm]
 simp only [anf,anA]
 rw [aoi (by omega),wrap_i64 (by omega) (by omega)]
 rfl
theorem MS {n:Nat} {b:Bx} {m:oV} (hm:OX m) (h1:0<=b.2.2.1) (h2:b.2.2.1<=2000) (h3:b.2.2.2.1.length<=2000):qO n b m=some (b.2.2.1,xB b m,()):=by
 unfold qO
 rw [clone hm]
 simp only [anf,anA]
 rw [aoi ⟨trivial,by omega⟩,wrap_i64 (x:=b.2.2.1+1) (by omega) (by omega),show b.2.2.1+1 - 1=b.2.2.1 by omega,wrap_i64 (by omega) (by omega)]
 rfl
theorem SX {n:Nat} {b:Bx} {m:oV} (hm:OX m) (h1:0<=b.2.2.1) (h2:b.2.2.1<=2000) (h3:b.2.2.2.1.length<=2000):kR n b m=some (b.2.2.1,xB b m,()):=MS hm h1 h2 h3
def turn (was mode fl:Int):Int:=
 if mode=2 then IntKind.i64.wrap ((BitVec.ofInt (IntKind.bits .i64) was ||| BitVec.ofInt (IntKind.bits .i64) fl).toNat) else if mode=3 then IntKind.i64.wrap ((BitVec.ofInt (IntKind.bits .i64) was &&& ~~~ BitVec.ofInt (IntKind.bits .i64) fl).toNat) else fl
def jg (o:OpC) (m:oV):oV:=if o.2.2.2.1.contains m.1=true then (m.1,turn m.2.1 o.2.2.2.2.1 o.2.2.2.2.2.1,m.2.2) else m
def rM (o:OpC) (b:Bx):Bx:=(b.1,b.2.1,b.2.2.1,b.2.2.2.1.map (jg o),())
def yU (o:OpC) (b:Bx):List Int:=(b.2.2.2.1.filter fun m=>o.2.2.2.1.contains m.1).map (·.1)
theorem flags {n:Nat} (a m f:Int):qW n a m f=some (turn a m f,()):=by
 unfold qW turn
 by_cases h2:m=2
 ·simp [h2]
 ·by_cases h3:m=3 <;> simp [h2,h3]
theorem KH {A:Type} {p:A->Bool} {x:A} (h:p x=false):[x].filter p=[]:=by simp [apg,h]
theorem one_pos {A:Type} {p:A->Bool} {x:A} (h:p x=true):[x].filter p=[x]:=by simp [apg,h]
theorem M7 {A:Type} {f:A->A} {xs:List A} {i:Nat} (hi:i<xs.length) (h:f xs[i]=xs[i]):(xs.map f).take i++xs.drop i=(xs.map f).take (i+1)++xs.drop (i+1):=by
 have h1:=KD (xs:=xs) (ys:=xs.map f) (by simp) hi xs[i] (by simp [h])
 rw [<-h1]
 symm
 have hl:i<((xs.map f).take i++xs.drop i).length:=by simp; omega
 have hg:=KC (xs:=xs) (ys:=xs.map f) (by simp) hi xs[i]
 rw [anr,ant hl] at hg
 simp only [aoj] at hg
 conv=>lhs; rw [<-hg]
 exact List.set_getElem_self hl
theorem RU {n:Nat} {b:Bx} {o:OpC} (hb:b.2.2.2.1.length<=big) (ho:o.2.2.2.1.length<=big) (hn:big<n):sW n b o=some (yU o b,rM o b,()):=by
 have hb':=hb
 unfold big at hb
 unfold sW
 obtain ⟨nm,va,ne,ms,u⟩:=b
 have hb:ms.length<=1048576:=hb
 refine (aT (fun i=>(o,(i:Int),(nm,va,ne,(ms.map (jg o)).take i++ms.drop i,()),((ms.take i).filter fun m=>o.2.2.2.1.contains m.1).map (·.1),())) (fun _=>none) (some (yU o (nm,va,ne,ms,()),rM o (nm,va,ne,ms,()),())) (m:=ms.length) (by simp) (by unfold big at hn; omega) ?_ ?_).trans (dn (fun _ _ _=>rfl))
 ·intro L i hi _
  have hy:(ms.map (jg o)).length=ms.length:=by simp
  have hlen:=Qw (xs:=ms) (ys:=ms.map (jg o)) hy (Nat.le_of_lt hi)
  have hget:=KC (xs:=ms) (ys:=ms.map (jg o)) hy hi dM
  have ht:ms.take (i+1)=ms.take i++[ms[i]]:=by simp
  have hl1:(((ms.take i).filter fun m=>o.2.2.2.1.contains m.1).map (·.1)).length<=i:=by
   rw [aoy]; exact aov (aow _ _) (by simp; omega)
  simp only [hlen,anG,hi,aox,aof,aJ hi,ano,A8,hget,has ho hn,anf,flags,aX hi (by omega)]
  cases hc:o.2.2.2.1.contains ms[i].1 with
  | false=>
   have hf:jg o ms[i]=ms[i]:=by unfold jg; rw [hc]; rfl
   rw [aok aph,M7 hi hf,ht,aoz,KH (p:=fun m:oV=>o.2.2.2.1.contains m.1) hc,anJ]
  | true=>
   have hset:=KD (xs:=ms) (ys:=ms.map (jg o)) hy hi (ms[i].1,turn ms[i].2.1 o.2.2.2.2.1 o.2.2.2.2.2.1,ms[i].2.2) (by rw [List.getElem_map]; unfold jg; rw [aoi hc])
   have hgs:((ms.map (jg o)).take (i+1)++ms.drop (i+1)).getD i dM=(ms[i].1,turn ms[i].2.1 o.2.2.2.2.1 o.2.2.2.2.2.1,ms[i].2.2):=by
    rw [<-hset,anr,List.getElem?_set_self (by omega)]; rfl
   simp only [aof,hset,hgs,anA]
   rw [aoi (by omega),ht,aoz,one_pos (p:=fun m:oV=>o.2.2.2.1.contains m.1) hc,aon]
   rfl
 ·intro L _
  have ht:(ms.map (jg o)).take ms.length=ms.map (jg o):=aoW (by simp)
  simp only [ht,aoy,apc,apd,anh,aog,ape,api,anJ]
  rfl
theorem RS {n:Nat} {b:Bx} {o:OpC} (hb:b.2.2.2.1.length<=big) (ho:o.2.2.2.1.length<=big) (hn:big<n) (hm:1<=o.2.2.2.2.1/\o.2.2.2.2.1<=3):mK n b o=some (yU o b,rM o b,()):=by
 have hb':=hb
 unfold big at hb
 unfold mK
 obtain ⟨nm,va,ne,ms,u⟩:=b
 have hb:ms.length<=1048576:=hb
 refine (aT (fun i=>((ms.length:Int),(i:Int),(nm,va,ne,(ms.map (jg o)).take i++ms.drop i,()),o,((ms.take i).filter fun m=>o.2.2.2.1.contains m.1).map (·.1),())) (fun _=>none) (some (yU o (nm,va,ne,ms,()),rM o (nm,va,ne,ms,()),())) (m:=ms.length) (by simp) (by unfold big at hn; omega) ?_ ?_).trans (dn (fun _ _ _=>rfl))
 ·intro L i hi _
  have hy:(ms.map (jg o)).length=ms.length:=by simp
  have hlen:=Qw (xs:=ms) (ys:=ms.map (jg o)) hy (Nat.le_of_lt hi)
  have hget:=KC (xs:=ms) (ys:=ms.map (jg o)) hy hi dM
  have ht:ms.take (i+1)=ms.take i++[ms[i]]:=by simp
  have hl1:(((ms.take i).filter fun m=>o.2.2.2.1.contains m.1).map (·.1)).length<=i:=by
   rw [aoy]; exact aov (aow _ _) (by simp; omega)
  simp only [hlen,anG,hi,aox,aof,aJ hi,ano,A8,hget,contains ho hn,anf,aX hi (by omega)]
  cases hc:o.2.2.2.1.contains ms[i].1 with
  | false=>
   have hf:jg o ms[i]=ms[i]:=by unfold jg; rw [hc]; rfl
   rw [anS,aoi rfl,M7 hi hf,ht,aoz,KH (p:=fun m:oV=>o.2.2.2.1.contains m.1) hc,anJ]
  | true=>
   have hset:=KD (xs:=ms) (ys:=ms.map (jg o)) hy hi (ms[i].1,turn ms[i].2.1 o.2.2.2.2.1 o.2.2.2.2.2.1,ms[i].2.2) (by rw [List.getElem_map]; unfold jg; rw [aoi hc])
   rw [anH,aok aph]
   simp only [anA]
   rw [aoi (by omega),ht,aoz,one_pos (p:=fun m:oV=>o.2.2.2.1.contains m.1) hc,aon, <-hset]
   unfold turn
   by_cases h1:o.2.2.2.2.1=1
   ·simp [h1]
   ·by_cases h2:o.2.2.2.2.1=2
    ·simp [h2]
    ·have h3:o.2.2.2.2.1=3:=by omega
     simp [h3]
 ·intro L _
  have ht:(ms.map (jg o)).take ms.length=ms.map (jg o):=aoW (by simp)
  simp only [ht,apc,apd,anh,aog,ape,api,anJ]
  rfl
theorem SS (us:List Int) (u f:Int):kG.pick us 0 u f=us.contains u:=by
 unfold kG.pick
 rw [show BitVec.ofInt (IntKind.bits .i64) f &&& BitVec.ofInt (IntKind.bits .i64) 0=BitVec.ofInt (IntKind.bits .i64) 0 from BitVec.and_zero]
 have:(IntKind.i64.wrap ((BitVec.ofInt (IntKind.bits .i64) 0).toNat:Int))=0:=by decide
 rw [this]
 simp
def UX (b:Bx):List Int:=(b.2.2.2.1.filter fun m=>kW.del m.2.1).map (·.1)
def VJ (b:Bx):Bx:=(b.1,b.2.1,b.2.2.1,b.2.2.2.1.filter (fun m=>!kW.del m.2.1),())
theorem abI {n:Nat} {b:Bx} (hb:b.2.2.2.1.length<=big) (hn:big<n):gP n b=some (UX b,VJ b,()):=by
 unfold big at hb hn
 show kW.wY n b=_
 unfold kW.wY
 rw [aoi ⟨by omega,by omega⟩]
 rfl
theorem Tf {n:Nat} {b:Bx} (hb:b.2.2.2.1.length<=big) (hn:big<n):gM n b [] 8=some (b.2.2.2.1.filter (fun m=>kW.del m.2.1),VJ b,()):=by
 unfold big at hb hn
 show kG.yL kG.pick n b [] 8=_
 unfold kG.yL
 rw [aoi ⟨by omega,by omega,by simp,by simp; omega⟩]
 rfl
def dN (o:OpC) (b:Bx):List oV:=b.2.2.2.1.filter fun m=>o.2.2.2.1.contains m.1
def ZC (o:OpC) (b:Bx):Bx:=(b.1,b.2.1,b.2.2.1,b.2.2.2.1.filter (fun m=>!o.2.2.2.1.contains m.1),())
theorem Jw {n:Nat} {b:Bx} {o:OpC} (hb:b.2.2.2.1.length<=big) (ho:o.2.2.2.1.length<=big) (hn:big<n):gM n b o.2.2.2.1 0=some (dN o b,ZC o b,()):=by
 have hb':=hb
 have ho':=ho
 unfold big at hb ho hn
 show kG.yL kG.pick n b o.2.2.2.1 0=_
 unfold kG.yL
 rw [aoi ⟨by omega,by omega,by omega,by omega⟩]
 simp only [SS]
 rfl
def gJ (b:Bx) (l:List oV):Bx:=l.foldl xB b
def wU (b:Bx):Nat->List Int
 | 0=>[]
 | k+1=>wU b k++[b.2.2.1+(k:Int)]
theorem tJ (b:Bx):∀k,(wU b k).length=k
 | 0=>rfl
 | k+1=>by simp [wU,tJ b k]
theorem MR (b:Bx) (l:List oV) (m:oV):gJ b (l++[m])=xB (gJ b l) m:=by simp [gJ]
theorem Ec (b:Bx):∀l:List oV,(gJ b l).2.2.1=b.2.2.1+(l.length:Int)/\(gJ b l).2.2.2.1.length=b.2.2.2.1.length+l.length:=by
 intro l
 induction l generalizing b with
 | nil=>simp [gJ]
 | cons m l ih=>
  have:=ih (xB b m)
  simp only [gJ,List.foldl_cons,anD] at this ⊢
  rw [this.1,this.2]
  simp [xB]
  omega
theorem Jl {l:List oV}:∀{b:Bx},okB b->(∀m∈l,OX m)->b.2.2.2.1.length+l.length<=big->okB (gJ b l):=by
 induction l with
 | nil=>intro b h _ _; exact h
 | cons m l ih=>
  intro b h hl hb
  simp only [anD] at hb
  refine ih (b:=xB b m) ⟨h.1, ?_, ?_⟩ (fun x hx=>hl x (by simp [hx])) ?_
  ·simp only [xB,anm,anA]; omega
  ·intro x hx
   simp only [xB,ann,anz] at hx
   rcases hx with hx | rfl
   ·exact h.2.2 x hx
   ·exact hl m (by simp)
  ·simp only [xB,anm,anA]; omega
theorem Cg {A:Type} {xs:List A} {k:Nat} (h:k<xs.length) (y d:A):(xs.set k y).getD k d=y:=by
 rw [anr,List.getElem?_set_self h]; rfl
theorem getD_lt {A:Type} {xs:List A} {k:Nat} (h:k<xs.length) (d:A):xs.getD k d=xs[k]:=by
 rw [anr,ant h]; rfl
theorem Wx {A:Type} {xs:List A} {k:Nat} (h:k<xs.length) (d:A):xs.set k (xs.getD k d)=xs:=by
 rw [anr,ant h]
 exact List.set_getElem_self h
theorem MV {s:j4} {k j:Nat} {l:List oV} {b:Bx} (hk:k<s.2.1.length) (hj:j<l.length) :
  ((s.2.1.set k (gJ b (l.take j))).set k (xB (gJ b (l.take j)) l[j]))=s.2.1.set k (gJ b (l.take (j+1))):=by
 rw [List.set_set, <-MR]
 congr 2
 simp
theorem FD {n:Nat} {s:j4} {at':Int} {k:Nat} {o:OpC} {part:Bx} {l:List oV} {b:Bx} {fin:Int×OpC×Int×Int×j4×Bx×List oV×List Int×Unit->Option (List Int×Int×j4×Unit)}
  {B:(Int×OpC×Int×Int×j4×Bx×List oV×List Int×Unit->Option (List Int×Int×j4×Unit))->Int×OpC×Int×Int×j4×Bx×List oV×List Int×Unit->Option (List Int×Int×j4×Unit)}
  (hB:∀L v,B L v=(if decide (v.2.2.2.1<(v.2.2.2.2.2.2.1.length:Int))=true then (if aL v.2.2.2.1 v.2.2.2.2.2.2.1.length then ((mR n (v.2.2.2.2.1.2.1.getD v.2.2.1.toNat dB) (v.2.2.2.2.2.2.1.getD v.2.2.2.1.toNat dM)).bind fun r5=>(if (v.2.2.2.2.2.2.2.1.length+[r5.1].length) * 8<=140737488355328 then L (v.1,v.2.1,v.2.2.1,IntKind.i64.wrap (v.2.2.2.1+(1:Int)),(v.2.2.2.2.1.1,v.2.2.2.2.1.2.1.set v.2.2.1.toNat r5.2.1,v.2.2.2.2.1.2.2),v.2.2.2.2.2.1,v.2.2.2.2.2.2.1,v.2.2.2.2.2.2.2.1++[r5.1],()) else none)) else none) else fin v))
  (hk:k<s.2.1.length) (hb:s.2.1.getD k dB=b) (hl:∀m∈l,OX m) (hl6:l.length<=6) (h1:0<=b.2.2.1) (h2:b.2.2.1<=1000) (h3:b.2.2.2.1.length<=6) (hn:big<n) :
  rounds B n (at',o,(k:Int),(0:Int),s,part,l,[],())=fin (at',o,(k:Int),(l.length:Int),(s.1,s.2.1.set k (gJ b l),()),part,l,wU b l.length,()):=by
 have hn':1048576<n:=hn
 refine (aT (fun j=>(at',o,(k:Int),(j:Int),(s.1,s.2.1.set k (gJ b (l.take j)),()),part,l,wU b j,())) (fun _=>none) (fin (at',o,(k:Int),(l.length:Int),(s.1,s.2.1.set k (gJ b l),()),part,l,wU b l.length,())) (m:=l.length) ?_ (by omega) ?_ ?_).trans (dn (fun _ _ _=>rfl))
 ·rw [List.take_zero]
  show _=(_,_,_,_,(s.1,s.2.1.set k b,()),_,_,[],())
  rw [<-hb,Wx hk]
  rfl
 ·intro L j hj _
  have hp:=Ec b (l.take j)
  have hlt:(l.take j).length=j:=by simp; omega
  rw [hlt] at hp
  have hput:=MU (n:=n) (b:=gJ b (l.take j)) (m:=l[j]) (hl _ (anI hj)) (by rw [hp.1]; omega) (by rw [hp.1]; omega) (by rw [hp.2]; omega)
  simp only [hB,anG,hj,aox,aof,aJ hj,ano,getD_lt hj,Cg hk,hput,anf,aX hj (by omega),tJ,anA,MV hk hj]
  rw [aoi (by omega),hp.1]
  rfl
 ·intro L _
  simp only [hB,apc,apd,anh,aog,ape]
theorem FC {n:Nat} {s:j4} {at':Int} {k:Nat} {o:OpC} {l:List oV} {b:Bx} {fin:Int×Int×Int×Int×j4×OpC×List oV×List Int×Unit->Option (List Int×Int×j4×Unit)}
  {B:(Int×Int×Int×Int×j4×OpC×List oV×List Int×Unit->Option (List Int×Int×j4×Unit))->Int×Int×Int×Int×j4×OpC×List oV×List Int×Unit->Option (List Int×Int×j4×Unit)}
  (hB:∀L v,B L v=(if decide (v.2.2.2.1<v.2.2.1)=true then (if aL v.2.2.2.1 v.2.2.2.2.2.2.1.length then ((kR n (v.2.2.2.2.1.2.1.getD v.2.1.toNat dB) (v.2.2.2.2.2.2.1.getD v.2.2.2.1.toNat dM)).bind fun r6=>(if (v.2.2.2.2.2.2.2.1.length+[r6.1].length) * 8<=140737488355328 then L (v.1,v.2.1,v.2.2.1,IntKind.i64.wrap (v.2.2.2.1+(1:Int)),(v.2.2.2.2.1.1,v.2.2.2.2.1.2.1.set v.2.1.toNat r6.2.1,v.2.2.2.2.1.2.2),v.2.2.2.2.2.1,v.2.2.2.2.2.2.1,v.2.2.2.2.2.2.2.1++[r6.1],()) else none)) else none) else fin v))
  (hk:k<s.2.1.length) (hb:s.2.1.getD k dB=b) (hl:∀m∈l,OX m) (hl6:l.length<=6) (h1:0<=b.2.2.1) (h2:b.2.2.1<=1000) (h3:b.2.2.2.1.length<=6) (hn:big<n) :
  rounds B n (at',(k:Int),(l.length:Int),(0:Int),s,o,l,[],())=fin (at',(k:Int),(l.length:Int),(l.length:Int),(s.1,s.2.1.set k (gJ b l),()),o,l,wU b l.length,()):=by
 have hn':1048576<n:=hn
 refine (aT (fun j=>(at',(k:Int),(l.length:Int),(j:Int),(s.1,s.2.1.set k (gJ b (l.take j)),()),o,l,wU b j,())) (fun _=>none) (fin (at',(k:Int),(l.length:Int),(l.length:Int),(s.1,s.2.1.set k (gJ b l),()),o,l,wU b l.length,())) (m:=l.length) ?_ (by omega) ?_ ?_).trans (dn (fun _ _ _=>rfl))
 ·rw [List.take_zero]
  show _=(_,_,_,_,(s.1,s.2.1.set k b,()),_,_,[],())
  rw [<-hb,Wx hk]
  rfl
 ·intro L j hj _
  have hp:=Ec b (l.take j)
  have hlt:(l.take j).length=j:=by simp; omega
  rw [hlt] at hp
  have hput:=SX (n:=n) (b:=gJ b (l.take j)) (m:=l[j]) (hl _ (anI hj)) (by rw [hp.1]; omega) (by rw [hp.1]; omega) (by rw [hp.2]; omega)
  simp only [hB,anG,hj,aox,aof,aJ hj,ano,getD_lt hj,Cg hk,hput,anf,aX hj (by omega),tJ,anA,MV hk hj]
  rw [aoi (by omega),hp.1]
  rfl
 ·intro L _
  simp only [hB,apc,apd,anh,aog,ape]
theorem Je {n:Nat} {ms:List oV} {o:OpC} {a b:Int} {s:j4} {fin:Int×Int×List oV×Int×Int×j4×OpC×List oV×Unit->Option (List Int×Int×j4×Unit)}
  {B:(Int×Int×List oV×Int×Int×j4×OpC×List oV×Unit->Option (List Int×Int×j4×Unit))->Int×Int×List oV×Int×Int×j4×OpC×List oV×Unit->Option (List Int×Int×j4×Unit)}
  (hB:∀L v,B L v=(if decide (v.2.2.2.2.1<v.2.2.2.1)=true then (if aL v.2.2.2.2.1 v.2.2.1.length then ((aZ n v.2.2.2.2.2.2.1.2.2.2.1 ((v.2.2.1.getD v.2.2.2.2.1.toNat dM).1)).bind fun r3=>(if r3.1=true then (if (v.2.2.2.2.2.2.2.1.length+[v.2.2.1.getD v.2.2.2.2.1.toNat dM].length) * 48<=140737488355328 then L (v.1,v.2.1,v.2.2.1,v.2.2.2.1,IntKind.i64.wrap (v.2.2.2.2.1+(1:Int)),v.2.2.2.2.2.1,v.2.2.2.2.2.2.1,v.2.2.2.2.2.2.2.1++[v.2.2.1.getD v.2.2.2.2.1.toNat dM],()) else none) else L (v.1,v.2.1,v.2.2.1,v.2.2.2.1,IntKind.i64.wrap (v.2.2.2.2.1+(1:Int)),v.2.2.2.2.2.1,v.2.2.2.2.2.2.1,v.2.2.2.2.2.2.2.1,()))) else none) else fin v))
  (hb:ms.length<=big) (ho:o.2.2.2.1.length<=big) (hn:big<n) :
  rounds B n (a,b,ms,(ms.length:Int),(0:Int),s,o,[],())=fin (a,b,ms,(ms.length:Int),(ms.length:Int),s,o,ms.filter (fun m=>o.2.2.2.1.contains m.1),()):=by
 have hb':ms.length<=1048576:=hb
 refine (aT (fun i=>(a,b,ms,(ms.length:Int),(i:Int),s,o,(ms.take i).filter (fun m=>o.2.2.2.1.contains m.1),())) (fun _=>none) (fin (a,b,ms,(ms.length:Int),(ms.length:Int),s,o,ms.filter (fun m=>o.2.2.2.1.contains m.1),())) (m:=ms.length) (by simp) (by omega) ?_ ?_).trans (dn (fun _ _ _=>rfl))
 ·intro L i hi _
  have ht:ms.take (i+1)=ms.take i++[ms[i]]:=by simp
  have hl:((ms.take i).filter fun m=>o.2.2.2.1.contains m.1).length<=i:=aov (aow _ _) (by simp; omega)
  simp only [hB,anG,hi,aox,aof,aJ hi,fV hi,contains ho hn,anf,aX hi (by omega),anA,ht,aoz]
  cases hc:o.2.2.2.1.contains ms[i].1 with
  | false=>rw [aok aph,KH (p:=fun m:oV=>o.2.2.2.1.contains m.1) hc,anJ]
  | true=>rw [aoi rfl,aoi (by omega),one_pos (p:=fun m:oV=>o.2.2.2.1.contains m.1) hc]
 ·intro L _
  simp only [hB,apc,apd,anh,aog,ape]
def KU (b:Bx):Prop:=(0<=b.2.2.1/\b.2.2.1<=1000)/\b.2.2.2.1.length<=6
def xS (s:j4) (i k:Nat) (o:OpC):List Int×Int×j4×Unit:=
 if (s.2.1.getD k dB).2.2.2.1.length+(dN o (s.2.1.getD i dB)).length>6 then ([],10,s,()) else
 if (s.2.1.getD k dB).2.2.1+((dN o (s.2.1.getD i dB)).length:Int)>1000 then ([],10,s,()) else
 (wU (s.2.1.getD k dB) (dN o (s.2.1.getD i dB)).length,0,(s.1,if o.1=6 then (s.2.1.set k (gJ (s.2.1.getD k dB) (dN o (s.2.1.getD i dB)))).set i (ZC o (s.2.1.getD i dB)) else s.2.1.set k (gJ (s.2.1.getD k dB) (dN o (s.2.1.getD i dB))),()),())
def carried (s:j4) (i:Nat) (o:OpC):List Int×Int×j4×Unit:=
 if uP s o.2.2.1<0 then ([],4,s,()) else if o.1=6/\uP s o.2.2.1=(i:Int) then ([],9,s,()) else xS s i (uP s o.2.2.1).toNat o
theorem fU {A:Type} {xs:List A} {k:Nat} (h:k<xs.length) (d:A):xs.getD k d∈xs:=by
 rw [getD_lt h]; exact anI h
theorem Yb {n:Nat} {s:j4} {i:Nat} {o:OpC} (hs:wW s) (ho:okO o) (hsm:∀b∈s.2.1,KU b) (hi:i<s.2.1.length) (hn:big<n):qV n s (i:Int) o=some (carried s i o):=by
 unfold qV carried
 rw [abv hs.1 hn]
 simp only [anf]
 rcases mX s o.2.2.1 with h | ⟨k,h,hk⟩
 ·rw [h]; rfl
 ·rw [h]
  have h0:¬((k:Int)<0):=by omega
  rw [aoY h0,aok aph,aok h0]
  have hA:=hsm _ (fU hi dB)
  have hK:=hsm _ (fU hk dB)
  have WW:=hs.2 _ (fU hi dB)
  have hKo:=hs.2 _ (fU hk dB)
  have hT:(dN o (s.2.1.getD i dB)).length<=6:=aov (aow _ _) hA.2
  have hTo:∀m∈dN o (s.2.1.getD i dB),OX m:=fun m hm=>WW.2.2 m (anw.1 hm).1
  have hK2:=hK.2
  have hK1:=hK.1
  by_cases h6:o.1=6
  ·rw [aoA h6,aoi rfl]
   by_cases he:(k:Int)=(i:Int)
   ·rw [aoA he,aoi rfl,aoi ⟨h6,he⟩]
   ·rw [aoY he,aok aph,aok (show ¬(o.1=6/\(k:Int)=(i:Int)) from fun h=>he h.2),aoi (aJ hi)]
    simp only [ano,Db WW hn,anf,Jw WW.2.1 ho.2.2.1 hn,aoi (aJ hk)]
    unfold xS
    have w1:IntKind.i64.wrap (((s.2.1.getD k dB).2.2.2.1.length:Int)+((dN o (s.2.1.getD i dB)).length:Int))=((s.2.1.getD k dB).2.2.2.1.length:Int)+((dN o (s.2.1.getD i dB)).length:Int):=wrap_i64 (by omega) (by omega)
    have w2:IntKind.i64.wrap ((s.2.1.getD k dB).2.2.1+((dN o (s.2.1.getD i dB)).length:Int))=(s.2.1.getD k dB).2.2.1+((dN o (s.2.1.getD i dB)).length:Int):=wrap_i64 (by omega) (by omega)
    simp only [w1,w2]
    by_cases c1:(s.2.1.getD k dB).2.2.2.1.length+(dN o (s.2.1.getD i dB)).length>6
    ·have c1':((s.2.1.getD k dB).2.2.2.1.length:Int)+((dN o (s.2.1.getD i dB)).length:Int)>6:=by omega
     simp only [c1,c1',aox,aof]
    ·have c1':¬(((s.2.1.getD k dB).2.2.2.1.length:Int)+((dN o (s.2.1.getD i dB)).length:Int)>6):=by omega
     simp only [c1,c1',apd,anh,aog]
     by_cases c2:(s.2.1.getD k dB).2.2.1+((dN o (s.2.1.getD i dB)).length:Int)>1000
     ·simp only [c2,aox,aof]
     ·simp only [c2,apd,anh,aog]
      refine (FD (s:=s) (k:=k) (l:=dN o (s.2.1.getD i dB)) (b:=s.2.1.getD k dB) (fun _ _=>rfl) hk rfl hTo hT hK1.1 hK1.2 hK2 hn).trans ?_
      have hi2:i<(s.2.1.set k (gJ (s.2.1.getD k dB) (dN o (s.2.1.getD i dB)))).length:=by simpa using hi
      simp only [h6,aox,aof,aoi (aJ hi2),ano]
  ·rw [aoY h6,aok aph,aok (show ¬(o.1=6/\(k:Int)=(i:Int)) from fun h=>h6 h.1),aoi (aJ hi)]
   simp only [ano,Db WW hn,anf,Jw WW.2.1 ho.2.2.1 hn,aoi (aJ hk)]
   unfold xS
   have w1:IntKind.i64.wrap (((s.2.1.getD k dB).2.2.2.1.length:Int)+((dN o (s.2.1.getD i dB)).length:Int))=((s.2.1.getD k dB).2.2.2.1.length:Int)+((dN o (s.2.1.getD i dB)).length:Int):=wrap_i64 (by omega) (by omega)
   have w2:IntKind.i64.wrap ((s.2.1.getD k dB).2.2.1+((dN o (s.2.1.getD i dB)).length:Int))=(s.2.1.getD k dB).2.2.1+((dN o (s.2.1.getD i dB)).length:Int):=wrap_i64 (by omega) (by omega)
   simp only [w1,w2]
   by_cases c1:(s.2.1.getD k dB).2.2.2.1.length+(dN o (s.2.1.getD i dB)).length>6
   ·have c1':((s.2.1.getD k dB).2.2.2.1.length:Int)+((dN o (s.2.1.getD i dB)).length:Int)>6:=by omega
    simp only [c1,c1',aox,aof]
   ·have c1':¬(((s.2.1.getD k dB).2.2.2.1.length:Int)+((dN o (s.2.1.getD i dB)).length:Int)>6):=by omega
    simp only [c1,c1',apd,anh,aog]
    by_cases c2:(s.2.1.getD k dB).2.2.1+((dN o (s.2.1.getD i dB)).length:Int)>1000
    ·simp only [c2,aox,aof]
    ·simp only [c2,apd,anh,aog]
     refine (FD (s:=s) (k:=k) (l:=dN o (s.2.1.getD i dB)) (b:=s.2.1.getD k dB) (fun _ _=>rfl) hk rfl hTo hT hK1.1 hK1.2 hK2 hn).trans ?_
     simp only [h6,apd,anh,aog]
theorem getD_set_ne {A:Type} {xs:List A} {i k:Nat} (h:k≠i) (y d:A):(xs.set k y).getD i d=xs.getD i d:=by
 rw [anr,anr,List.getElem?_set_ne h]
theorem XE {n:Nat} {ms:List oV} {o:OpC} (hb:ms.length<=big) (ho:o.2.2.2.1.length<=big) (hn:big<n) :
  aH n ms o=some (((ms.filter fun m=>!o.2.2.2.1.contains m.1).length:Int),(ms.filter fun m=>!o.2.2.2.1.contains m.1)++List.replicate (ms.length - (ms.filter fun m=>!o.2.2.2.1.contains m.1).length) dM,()):=by
 unfold big at hb ho hn
 show mJ.Cu n ms o=_
 unfold mJ.Cu
 rw [aoi ⟨by omega,by omega,by omega,by omega⟩]
 rfl
theorem copied {n:Nat} {s:j4} {i:Nat} {o:OpC} (hs:wW s) (ho:okO o) (hsm:∀b∈s.2.1,KU b) (hi:i<s.2.1.length) (hn:big<n):lQ n s (i:Int) o=some (carried s i o):=by
 unfold lQ carried
 rw [box hs.1 hn]
 simp only [anf]
 rcases mX s o.2.2.1 with h | ⟨k,h,hk⟩
 ·rw [h]; rfl
 ·rw [h]
  have h0:¬((k:Int)<0):=by omega
  rw [aoY h0,aok aph,aok h0]
  have hA:=hsm _ (fU hi dB)
  have hK:=hsm _ (fU hk dB)
  have WW:=hs.2 _ (fU hi dB)
  have hKo:=hs.2 _ (fU hk dB)
  have hT:(dN o (s.2.1.getD i dB)).length<=6:=aov (aow _ _) hA.2
  have hTo:∀m∈dN o (s.2.1.getD i dB),OX m:=fun m hm=>WW.2.2 m (anw.1 hm).1
  have hK2:=hK.2
  have hK1:=hK.1
  have w1:IntKind.i64.wrap (((s.2.1.getD k dB).2.2.2.1.length:Int)+((dN o (s.2.1.getD i dB)).length:Int))=((s.2.1.getD k dB).2.2.2.1.length:Int)+((dN o (s.2.1.getD i dB)).length:Int):=wrap_i64 (by omega) (by omega)
  have w2:IntKind.i64.wrap ((s.2.1.getD k dB).2.2.1+((dN o (s.2.1.getD i dB)).length:Int))=(s.2.1.getD k dB).2.2.1+((dN o (s.2.1.getD i dB)).length:Int):=wrap_i64 (by omega) (by omega)
  have hlist:(s.2.1.getD i dB).2.2.2.1.filter (fun m=>o.2.2.2.1.contains m.1)=dN o (s.2.1.getD i dB):=rfl
  by_cases h6:o.1=6
  ·rw [aoA h6,aoi rfl]
   by_cases he:(k:Int)=(i:Int)
   ·rw [aoA he,aoi rfl,aoi ⟨h6,he⟩]
   ·rw [aoY he,aok aph,aok (show ¬(o.1=6/\(k:Int)=(i:Int)) from fun h=>he h.2),aoi (aJ hi)]
    simp only [ano]
    refine (Je (s:=s) (o:=o) (a:=(i:Int)) (b:=(k:Int)) (ms:=(s.2.1.getD i dB).2.2.2.1) (fun _ _=>rfl) WW.2.1 ho.2.2.1 hn).trans ?_
    simp only [aoi (aJ hk),ano,hlist,w1]
    unfold xS
    by_cases c1:(s.2.1.getD k dB).2.2.2.1.length+(dN o (s.2.1.getD i dB)).length>6
    ·have c1':((s.2.1.getD k dB).2.2.2.1.length:Int)+((dN o (s.2.1.getD i dB)).length:Int)>6:=by omega
     simp only [c1,c1',aox,aof]
    ·have c1':¬(((s.2.1.getD k dB).2.2.2.1.length:Int)+((dN o (s.2.1.getD i dB)).length:Int)>6):=by omega
     have hlen:fu n (dN o (s.2.1.getD i dB))=some (((dN o (s.2.1.getD i dB)).length:Int),()):=rfl
     simp only [c1,c1',apd,anh,aog,hlen,anf,w2]
     by_cases c2:(s.2.1.getD k dB).2.2.1+((dN o (s.2.1.getD i dB)).length:Int)>1000
     ·simp only [c2,aox,aof]
     ·simp only [c2,apd,anh,aog]
      refine (FC (s:=s) (k:=k) (l:=dN o (s.2.1.getD i dB)) (b:=s.2.1.getD k dB) (fun _ _=>rfl) hk rfl hTo hT hK1.1 hK1.2 hK2 hn).trans ?_
      have hki:k≠i:=fun h=>he (by omega)
      have hi2:i<(s.2.1.set k (gJ (s.2.1.getD k dB) (dN o (s.2.1.getD i dB)))).length:=by simpa using hi
      simp only [h6,aox,aof,aoi (aJ hi2),ano,A8,getD_set_ne hki,XE WW.2.1 ho.2.2.1 hn,anf,List.set_set,Cg hi2,List.take_left']
      rfl
  ·rw [aoY h6,aok aph,aok (show ¬(o.1=6/\(k:Int)=(i:Int)) from fun h=>h6 h.1),aoi (aJ hi)]
   simp only [ano]
   refine (Je (s:=s) (o:=o) (a:=(i:Int)) (b:=(k:Int)) (ms:=(s.2.1.getD i dB).2.2.2.1) (fun _ _=>rfl) WW.2.1 ho.2.2.1 hn).trans ?_
   simp only [aoi (aJ hk),ano,hlist,w1]
   unfold xS
   by_cases c1:(s.2.1.getD k dB).2.2.2.1.length+(dN o (s.2.1.getD i dB)).length>6
   ·have c1':((s.2.1.getD k dB).2.2.2.1.length:Int)+((dN o (s.2.1.getD i dB)).length:Int)>6:=by omega
    simp only [c1,c1',aox,aof]
   ·have c1':¬(((s.2.1.getD k dB).2.2.2.1.length:Int)+((dN o (s.2.1.getD i dB)).length:Int)>6):=by omega
    have hlen:fu n (dN o (s.2.1.getD i dB))=some (((dN o (s.2.1.getD i dB)).length:Int),()):=rfl
    simp only [c1,c1',apd,anh,aog,hlen,anf,w2]
    by_cases c2:(s.2.1.getD k dB).2.2.1+((dN o (s.2.1.getD i dB)).length:Int)>1000
    ·simp only [c2,aox,aof]
    ·simp only [c2,apd,anh,aog]
     refine (FC (s:=s) (k:=k) (l:=dN o (s.2.1.getD i dB)) (b:=s.2.1.getD k dB) (fun _ _=>rfl) hk rfl hTo hT hK1.1 hK1.2 hK2 hn).trans ?_
     simp only [h6,apd,anh,aog]
abbrev rG:=Int×List Int×j4×Unit
def bad (c:Int):rG:=(c,[],(0,[],()),())
def BP (s:j4) (o:OpC):List Int×Int×j4×Unit:=
 if uP s o.2.1>=0 then ([],6,s,()) else if s.2.1.length=3 then ([],10,s,()) else if s.1=1000 then ([],10,s,()) else ([],0,(s.1+1,s.2.1++[(o.2.1,s.1,1,[],())],()),())
def Uq (s:j4) (i:Nat) (o:OpC):List Int×Int×j4×Unit:=
 if (s.2.1.getD i dB).2.2.2.1.length=6 then ([],10,s,()) else if (s.2.1.getD i dB).2.2.1=1000 then ([],10,s,()) else
  ([(s.2.1.getD i dB).2.2.1],0,(s.1,s.2.1.set i (xB (s.2.1.getD i dB) (0,o.2.2.2.2.2.1,o.2.2.2.2.2.2.1,o.2.2.2.2.2.2.2.1,())),()),())
def GR (s:j4) (i:Nat) (o:OpC):List Int×Int×j4×Unit:=
 if o.1=2 then ([],0,(s.1,s.2.1.take i++s.2.1.drop (i+1),()),()) else
 if o.1=3 then Uq s i o else
 if o.1=4 then (yU o (s.2.1.getD i dB),0,(s.1,s.2.1.set i (rM o (s.2.1.getD i dB)),()),()) else
 if o.1=7 then (UX (s.2.1.getD i dB),0,(s.1,s.2.1.set i (VJ (s.2.1.getD i dB)),()),()) else carried s i o
def ji (s:j4) (o:OpC):List Int×Int×j4×Unit:=
 if o.1=1 then BP s o else if uP s o.2.1<0 then ([],4,s,()) else GR s (uP s o.2.1).toNat o
def uQ (r:List Int×Int×j4×Unit):rG:=if r.2.1=0 then (0,r.1,r.2.2.1,()) else bad r.2.1
structure Fit (s:j4) (o:OpC):Prop where
 wW:wW s
 okO:okO o
 val:1<=s.1/\s.1<=1000
 few:s.2.1.length<=3
 small:∀b∈s.2.1,KU b
 mode:o.1=4->1<=o.2.2.2.2.1/\o.2.2.2.2.1<=3
theorem made {n:Nat} {s:j4} {o:OpC} (h:Fit s o) (hn:big<n):nN n s o.2.1=some ((BP s o).2.1,(BP s o).2.2.1,())/\(BP s o).1=[]:=by
 have hf:=h.few
 have hv:=h.val
 unfold nN BP
 rw [box h.wW.1 hn]
 simp only [anf]
 by_cases c0:uP s o.2.1>=0
 ·simp only [c0,aox,aof,and_self]
 ·simp only [c0,apd,anh,aog]
  by_cases c1:s.2.1.length=3
  ·simp only [c1,aof]
   exact ⟨rfl,trivial⟩
  ·have:¬(s.2.1.length:Int)=3:=by omega
   simp only [c1,this,apd,anh,aog]
   by_cases c2:s.1=1000
   ·simp only [c2,aox,aof,and_self]
   ·simp only [c2,apd,anh,aog,anA,an9]
    rw [aoi (by omega),wrap_i64 (by omega) (by omega)]
theorem abw {n:Nat} {s:j4} {o:OpC} (h:Fit s o) (hn:big<n):tq n s o=some (uQ (BP s o),()):=by
 have hf:=h.few
 have hv:=h.val
 unfold tq BP
 rw [abv h.wW.1 hn]
 simp only [anf]
 by_cases c0:uP s o.2.1>=0
 ·simp only [c0,aox,aof]; rfl
 ·simp only [c0,apd,anh,aog]
  by_cases c1:s.2.1.length=3
  ·have:(s.2.1.length:Int)>=3:=by omega
   simp only [c1,this,aox,aof]; rfl
  ·have:¬(s.2.1.length:Int)>=3:=by omega
   simp only [c1,this,apd,anh,aog]
   by_cases c2:s.1=1000
   ·have:s.1>=1000:=by omega
    simp only [c2,aox,aof]; rfl
   ·have:¬s.1>=1000:=by omega
    simp only [c2,this,apd,anh,aog,Da h.wW hn,anf,anA]
    rw [aoi (by omega),wrap_i64 (by omega) (by omega)]
    rfl
theorem OY {o:OpC} (ho:okO o):OX (0,o.2.2.2.2.2.1,o.2.2.2.2.2.2.1,o.2.2.2.2.2.2.2.1,()):=ho.2.2.2
theorem NL {n:Nat} {s:j4} {o:OpC} (h:Fit s o) (hn:big<n):mM n s o=some (ji s o):=by
 unfold mM ji
 by_cases k1:o.1=1
 ·obtain ⟨h1,h2⟩:=made h hn
  simp only [k1,aox,aof,h1,anf]
  rw [<-h2]
 ·simp only [k1,apd,anh,aog,box h.wW.1 hn,anf]
  rcases mX s o.2.1 with hp | ⟨i,hp,hi⟩
  ·rw [hp]; rfl
  ·rw [hp]
   have h0:¬((i:Int)<0):=by omega
   simp only [h0,apd,anh,aog,aoi (aJ hi),ano]
   have hB:=h.small _ (fU hi dB)
   have OC:=h.wW.2 _ (fU hi dB)
   have hB1:=hB.1
   have hB2:=hB.2
   have hf:=h.few
   unfold GR
   by_cases k2:o.1=2
   ·have hw:IntKind.i64.wrap ((i:Int)+1)=((i+1:Nat):Int):=aX hi (by omega)
    have hdel:cz n s.2.1 (i:Int) ((i+1:Nat):Int)=some (((s.2.1.length - 1:Nat):Int),s.2.1.take i++s.2.1.drop (i+1)++[dB],()):=by
     show mJ.FO dB s.2.1 (i:Int) ((i+1:Nat):Int)=_
     unfold mJ.FO
     rw [aoi ⟨by omega,by omega,by omega⟩]
     simp only [ano,Nat.add_sub_cancel_left]
     rfl
    have hl:(s.2.1.take i++s.2.1.drop (i+1)).length=s.2.1.length - 1:=by simp; omega
    simp only [k2,aox,aof,hw,hdel,anf,ano]
    rw [<-hl,List.take_left']
    rfl
   ·simp only [k2,apd,anh,aog]
    by_cases k3:o.1=3
    ·simp only [k3,aox,aof]
     unfold Uq
     by_cases c1:(s.2.1.getD i dB).2.2.2.1.length=6
     ·simp only [c1,aof]
      rfl
     ·have:¬((s.2.1.getD i dB).2.2.2.1.length:Int)=6:=by omega
      simp only [c1,this,apd,anh,aog]
      by_cases c2:(s.2.1.getD i dB).2.2.1=1000
      ·simp only [c2,aox,aof]
      ·have hput:=MS (n:=n) (b:=s.2.1.getD i dB) (OY h.okO) (by omega) (by omega) (by omega)
       simp only [c2,apd,anh,aog,hput,anf]
    ·simp only [k3,apd,anh,aog]
     by_cases k4:o.1=4
     ·simp only [k4,aox,aof,RS OC.2.1 h.okO.2.2.1 hn (h.mode k4),anf]
     ·simp only [k4,apd,anh,aog]
      by_cases k7:o.1=7
      ·simp only [k7,aox,aof,abI OC.2.1 hn,anf]
      ·simp only [k7,apd,anh,aog,copied h.wW h.okO h.small hi hn,anf]
theorem RZ {n:Nat} {ms:List oV} {r0:rG} {st:j4} {c:Int} {B:(Int×rG×rG×List oV×Unit->Option (rG×Unit))->Int×rG×rG×List oV×Unit->Option (rG×Unit)}
  (hB:∀L v,B L v=(if decide (v.1<(v.2.2.2.1.length:Int))=true then (if aL v.1 v.2.2.2.1.length then (if (v.2.2.1.2.1.length+[(v.2.2.2.1.getD v.1.toNat dM).1].length) * 8<=140737488355328 then L (IntKind.i64.wrap (v.1+(1:Int)),v.2.1,(v.2.2.1.1,v.2.2.1.2.1++[(v.2.2.2.1.getD v.1.toNat dM).1],v.2.2.1.2.2),v.2.2.2.1,()) else none) else none) else some (v.2.2.1,())))
  (hb:ms.length<=big) (hn:big<n):rounds B n ((0:Int),r0,(c,[],st,()),ms,())=some ((c,ms.map (·.1),st,()),()):=by
 have hb':ms.length<=1048576:=hb
 refine (aT (fun i=>((i:Int),r0,(c,(ms.take i).map (·.1),st,()),ms,())) (fun _=>none) (some ((c,ms.map (·.1),st,()),())) (m:=ms.length) (by simp) (by omega) ?_ ?_).trans (dn (fun _ _ _=>rfl))
 ·intro L i hi _
  have ht:ms.take (i+1)=ms.take i++[ms[i]]:=by simp
  have hl:((ms.take i).map (·.1)).length<=i:=by simp; omega
  simp only [hB,anG,hi,aox,aof,aJ hi,fV hi,aX hi (by omega),anA,ht,aon,aoh,List.map_nil]
  rw [aoi (by omega)]
 ·intro L _
  simp only [hB,apc,apd,anh,aog,ape]
theorem NM {n:Nat} {s:j4} {o:OpC} (h:Fit s o) (hn:big<n):qU n s o=some (uQ (ji s o),()):=by
 unfold qU ji
 by_cases k1:o.1=1
 ·simp only [k1,aox,aof,abw h hn,anf]
 ·simp only [k1,apd,anh,aog,abv h.wW.1 hn,anf]
  rcases mX s o.2.1 with hp | ⟨i,hp,hi⟩
  ·rw [hp]; rfl
  ·rw [hp]
   have h0:¬((i:Int)<0):=by omega
   simp only [h0,apd,anh,aog,Da h.wW hn,anf,aoi (aJ hi),ano]
   have hB:=h.small _ (fU hi dB)
   have OC:=h.wW.2 _ (fU hi dB)
   have hB1:=hB.1
   have hB2:=hB.2
   have hf:=h.few
   unfold GR
   by_cases k2:o.1=2
   ·have hw:IntKind.i64.wrap ((i:Int)+1)=((i+1:Nat):Int):=aX hi (by omega)
    simp only [k2,aox,aof,hw,ano]
    rw [aoi ⟨by omega,by omega,by omega⟩,aoi ⟨by first | trivial | rfl,by first | trivial | rfl,by omega⟩,aoi ⟨by omega,by omega,by omega⟩,aoi ⟨by omega,by omega,by first | trivial | rfl,by first | trivial | rfl,by omega⟩]
    rfl
   ·simp only [k2,apd,anh,aog]
    by_cases k3:o.1=3
    ·simp only [k3,aox,aof]
     unfold Uq
     by_cases c1:(s.2.1.getD i dB).2.2.2.1.length=6
     ·have:((s.2.1.getD i dB).2.2.2.1.length:Int)>=6:=by omega
      simp only [c1,this,aox,aof]; rfl
     ·have:¬((s.2.1.getD i dB).2.2.2.1.length:Int)>=6:=by omega
      simp only [c1,this,apd,anh,aog]
      by_cases c2:(s.2.1.getD i dB).2.2.1=1000
      ·have:(s.2.1.getD i dB).2.2.1>=1000:=by omega
       simp only [c2,this,aox,aof]; rfl
      ·have:¬(s.2.1.getD i dB).2.2.1>=1000:=by omega
       have hput:=MU (n:=n) (b:=s.2.1.getD i dB) (OY h.okO) (by omega) (by omega) (by omega)
       simp only [c2,this,apd,anh,aog,hput,anf]
       rfl
    ·simp only [k3,apd,anh,aog]
     by_cases k4:o.1=4
     ·simp only [k4,aox,aof,RU OC.2.1 h.okO.2.2.1 hn,anf]
      rfl
     ·simp only [k4,apd,anh,aog]
      by_cases k7:o.1=7
      ·simp only [k7,aox,aof,Tf OC.2.1 hn,anf]
       exact RZ (fun _ _=>rfl) (aov (aow _ _) OC.2.1) hn
      ·simp only [k7,apd,anh,aog,Yb h.wW h.okO h.small hi hn,anf]
       unfold uQ
       by_cases c:(carried s i o).2.1=0
       ·simp only [c,aox,anH,anh,aog,aof]
       ·simp only [c,apd,anS,aof,aog]; rfl
theorem copies {n:Nat} (k:Int):dZ n k=some (decide (k=5) || decide (k=6),()):=by
 unfold dZ
 cases decide (k=5) <;> rfl
theorem U4 {n:Nat} (o:OpC):ng n o=some (decide (o.1=5) || decide (o.1=6),()):=copies (n:=n) o.1
theorem XT {n:Nat} (o:OpC):kS n o=some ((decide (o.1=5) || decide (o.1=6)) || decide (o.1=4),()):=by
 unfold kS
 rw [U4]
 simp only [anf]
 cases (decide (o.1=5) || decide (o.1=6)) <;> rfl
theorem aaJ (k:Nat):decide ((k:Int)>0)=!decide ((k:Int)=0):=by
 by_cases h:k=0
 ·subst h; rfl
 ·rw [aoA (by omega),aoY (by omega)]; rfl
def yV (o:OpC):Bool:=(((decide (o.1=5) || decide (o.1=6)) || decide (o.2.2.1=[])) && ((((decide (o.1=5) || decide (o.1=6)) || decide (o.1=4)) || decide ((o.2.2.2.1.length:Int)=0)) && ((decide (o.1=4) || decide (o.2.2.2.2.1=0)) &&
 ((decide (o.1=4) || (decide (o.1=3) || decide (o.2.2.2.2.2.1=0))) && (decide (o.1=3) || (decide (o.2.2.2.2.2.2.1=0) && decide ((o.2.2.2.2.2.2.2.1.length:Int)=0)))))))
set_option maxRecDepth 20000 in
theorem only {n:Nat} (o:OpC):oM n o=some (yV o,()):=by
 unfold oM yV
 simp only [U4,XT,anf]
 generalize (decide (o.1=5) || decide (o.1=6))=c
 generalize decide (o.2.2.1=[])=b1
 generalize decide (o.1=4)=b2
 generalize decide ((o.2.2.2.1.length:Int)=0)=b3
 generalize decide (o.2.2.2.2.1=0)=b4
 generalize decide (o.1=3)=b5
 generalize decide (o.2.2.2.2.2.1=0)=b6
 generalize decide (o.2.2.2.2.2.2.1=0)=b7
 generalize decide ((o.2.2.2.2.2.2.2.1.length:Int)=0)=b8
 revert c b1 b2 b3 b4 b5 b6 b7 b8
 decide +kernel
set_option maxRecDepth 20000 in
theorem form {n:Nat} (o:OpC):sZ n o=some (decide (1<=o.1/\o.1<=7) && yV o,()):=by
 unfold sZ yV
 simp only [Eu,copies,anf,aaJ]
 generalize (decide (o.1=5) || decide (o.1=6))=c
 generalize decide (o.2.2.1=[])=b1
 generalize decide (o.1=4)=b2
 generalize decide ((o.2.2.2.1.length:Int)=0)=b3
 generalize decide (o.2.2.2.2.1=0)=b4
 generalize decide (o.1=3)=b5
 generalize decide (o.2.2.2.2.2.1=0)=b6
 generalize decide (o.2.2.2.2.2.2.1=0)=b7
 generalize decide ((o.2.2.2.2.2.2.2.1.length:Int)=0)=b8
 generalize decide (1<=o.1/\o.1<=7)=b9
 revert c b1 b2 b3 b4 b5 b6 b7 b8 b9
 decide +kernel
def Fq (us:List Int) (j:Nat):Bool:=!decide (1<=us.getD j 0/\us.getD j 0<=999) || (decide ((j:Int)>0) && decide (us.getD j 0<=us.getD (j - 1) 0))
theorem Tq {n:Nat} {us:List Int} (hb:us.length<=big) (hn:big<n):pK n us=dI (fun j=>if Fq us j=true then some (some (false,())) else none) (some (true,())) us.length 0:=by
 have hb':us.length<=1048576:=hb
 unfold pK
 refine aT (fun i=>(us,(i:Int),())) (fun j=>if Fq us j=true then some (some (false,())) else none) (some (true,())) (m:=us.length) rfl (by omega) ?_ ?_
 ·intro L i hi _
  simp only [anG,hi,aox,aof,aJ hi,ano,Eu,anf,aX hi (by omega)]
  unfold Fq
  cases h1:decide (1<=us.getD i 0/\us.getD i 0<=999) with
  | false=>rfl
  | true=>
   cases i with
   | zero=>rfl
   | succ j=>
    have hj:j<us.length:=by omega
    rw [aoA (show ((j+1:Nat):Int)>0 by omega),DC hj (by omega)]
    simp only [aJ hj,aof,ano,Nat.add_sub_cancel,anH,anh,aog,aos,ao2]
    by_cases hle:us.getD (j+1) 0<=us.getD j 0
    ·simp only [hle,aox,aof]
    ·simp only [hle,apd,anh,aog]
 ·intro L _
  simp
theorem Tp {n:Nat} {us:List Int} (hb:us.length<=big) (hn:big<n):nX n us=dI (fun j=>if Fq us j=true then some (some (false,())) else none) (some (true,())) us.length 0:=by
 have hb':us.length<=1048576:=hb
 unfold nX
 refine aT (fun i=>(us,us,(us.length:Int),(i:Int),())) (fun j=>if Fq us j=true then some (some (false,())) else none) (some (true,())) (m:=us.length) rfl (by omega) ?_ ?_
 ·intro L i hi _
  have hu:oN n (us.getD i 0)=some (decide (1<=us.getD i 0/\us.getD i 0<=999),()):=by
   unfold oN
   rw [sH,Eu]; rfl
  simp only [anG,hi,aox,aof,aJ hi,ano,hu,anf,aX hi (by omega)]
  unfold Fq
  cases h1:decide (1<=us.getD i 0/\us.getD i 0<=999) with
  | false=>rfl
  | true=>
   cases i with
   | zero=>rfl
   | succ j=>
    have hj:j<us.length:=by omega
    rw [aoA (show ((j+1:Nat):Int)>0 by omega),DC hj (by omega)]
    simp only [aJ hj,aof,ano,Nat.add_sub_cancel,anH,anh,aog,aos,ao2,ge_iff_le]
    cases decide (us.getD (j+1) 0<=us.getD j 0) <;> rfl
 ·intro L _
  simp
def Cn (us:List Int):Bool:=((dI (fun j=>if Fq us j=true then some (some (false,())) else none) (some (true,())) us.length 0).getD (false,())).1
theorem Hu (us:List Int):dI (fun j=>if Fq us j=true then some (some (false,())) else none) (some (true,())) us.length 0=some (Cn us,()):=by
 unfold Cn
 rcases BD (step:=fun j=>if Fq us j=true then some (some (false,())) else none) (fin:=some (true,())) (r:=some (false,())) (fun j=>by by_cases h:Fq us j=true <;> simp [h]) (m:=us.length) (i:=0) with h | h <;> rw [h] <;> rfl
def dW (o:OpC):Int:=
 if (!(decide (1<=o.1/\o.1<=7) && yV o))=true then 1 else
 if (!decide (qD o.2.1) || ((decide (o.1=5) || decide (o.1=6)) && !decide (qD o.2.2.1)))=true then 5 else
 if decide ((o.2.2.2.1.length:Int)>6)=true then 2 else
 if (!Cn o.2.2.2.1 || (decide (o.1=4) && !decide (1<=o.2.2.2.2.1/\o.2.2.2.2.1<=3)) || !decide (0<=o.2.2.2.2.2.1/\o.2.2.2.2.2.1<=15) || !decide (0<=o.2.2.2.2.2.2.1/\o.2.2.2.2.2.2.1<=9999))=true then 3 else
 if decide ((o.2.2.2.2.2.2.2.1.length:Int)>400)=true then 2 else 0
set_option maxRecDepth 20000 in
theorem Ar {n:Nat} {o:OpC} (ho:okO o) (hn:big<n):oh n o=some (dW o,()):=by
 unfold oh dW
 simp only [form,(name_eq ho.1 hn).2,(name_eq ho.2.1 hn).2,copies,Eu,Tq ho.2.2.1 hn,Hu,anf]
 generalize (decide (1<=o.1/\o.1<=7) && yV o)=b0
 generalize decide (qD o.2.1)=b1
 generalize (decide (o.1=5) || decide (o.1=6))=b2
 generalize decide (qD o.2.2.1)=b3
 generalize decide ((o.2.2.2.1.length:Int)>6)=b4
 generalize Cn o.2.2.2.1=b5
 generalize decide (o.1=4)=b6
 generalize decide (1<=o.2.2.2.2.1/\o.2.2.2.2.1<=3)=b7
 generalize decide (0<=o.2.2.2.2.2.1/\o.2.2.2.2.2.1<=15)=b8
 generalize decide (0<=o.2.2.2.2.2.2.1/\o.2.2.2.2.2.2.1<=9999)=b9
 generalize decide ((o.2.2.2.2.2.2.2.1.length:Int)>400)=c
 revert b0 b1 b2 b3 b4 b5 b6 b7 b8 b9 c
 decide +kernel
set_option maxRecDepth 20000 in
theorem FZ {n:Nat} {o:OpC} (ho:okO o) (hn:big<n):nV n o=some (dW o,()):=by
 have hfl:∀x,gp n x=some (decide (0<=x/\x<=15),()):=fun x=>by unfold gp; rw [sH,Eu]; rfl
 have hda:∀x,iM n x=some (decide (0<=x/\x<=9999),()):=fun x=>by unfold iM; rw [sH,Eu]; rfl
 unfold nV dW
 simp only [only,(name_eq ho.1 hn).1,(name_eq ho.2.1 hn).1,U4,sH,Eu,Tp ho.2.2.1 hn,Hu,hfl,hda,anf]
 generalize yV o=b0
 generalize decide (1<=o.1/\o.1<=7)=a0
 generalize decide (qD o.2.1)=b1
 generalize (decide (o.1=5) || decide (o.1=6))=b2
 generalize decide (qD o.2.2.1)=b3
 generalize decide ((o.2.2.2.1.length:Int)>6)=b4
 generalize Cn o.2.2.2.1=b5
 generalize decide (o.1=4)=b6
 generalize decide (1<=o.2.2.2.2.1/\o.2.2.2.2.1<=3)=b7
 generalize decide (0<=o.2.2.2.2.2.1/\o.2.2.2.2.2.1<=15)=b8
 generalize decide (0<=o.2.2.2.2.2.2.1/\o.2.2.2.2.2.2.1<=9999)=b9
 generalize decide ((o.2.2.2.2.2.2.2.1.length:Int)>400)=c
 revert a0 b0 b1 b2 b3 b4 b5 b6 b7 b8 b9 c
 decide +kernel
def ZA (r:rG):Prop:=r.2.1.length<=big/\wW r.2.2.1
theorem zN (c:Int):ZA (bad c):=by
 refine ⟨by simp [bad,big],by simp [bad,big],fun b hb=>?_⟩
 simp [bad] at hb
theorem BS {s:j4} {i:Nat} {b:Bx} {v:Int} (hs:wW s) (hb:okB b):wW (v,s.2.1.set i b,()):=by
 refine ⟨by simpa using hs.1,fun x hx=>?_⟩
 rcases ao0 hx with h | rfl
 ·exact hs.2 x h
 ·exact hb
theorem GG {b:Bx} {p:oV->Bool} (h:okB b):okB (b.1,b.2.1,b.2.2.1,b.2.2.2.1.filter p,()):=
 ⟨h.1,aov (aow _ _) h.2.1,fun m hm=>h.2.2 m (anw.1 hm).1⟩
theorem Rt {s:j4} {i k:Nat} {o:OpC} (hs:wW s) (hsm:∀b∈s.2.1,KU b) (hi:i<s.2.1.length) (hk:k<s.2.1.length):(xS s i k o).1.length<=big/\wW (xS s i k o).2.2.1:=by
 have hT:(dN o (s.2.1.getD i dB)).length<=6:=aov (aow _ _) (hsm _ (fU hi dB)).2
 have hK:=(hsm _ (fU hk dB)).2
 unfold xS
 split
 ·exact ⟨by simp [big],hs⟩
 ·split
  ·exact ⟨by simp [big],hs⟩
  ·have hP:okB (gJ (s.2.1.getD k dB) (dN o (s.2.1.getD i dB))):=Jl (hs.2 _ (fU hk dB)) (fun m hm=>(hs.2 _ (fU hi dB)).2.2 m (anw.1 hm).1) (by unfold big; omega)
   refine ⟨by rw [tJ]; unfold big; omega, ?_⟩
   have h1:wW (s.1,s.2.1.set k (gJ (s.2.1.getD k dB) (dN o (s.2.1.getD i dB))),()):=BS hs hP
   by_cases h6:o.1=6
   ·simp only [h6,aof]
    exact BS (s:=(s.1,s.2.1.set k (gJ (s.2.1.getD k dB) (dN o (s.2.1.getD i dB))),())) h1 (GG (hs.2 _ (fU hi dB)))
   ·simp only [h6,aog]
    exact h1
theorem Rl {s:j4} {o:OpC} (h:Fit s o):(ji s o).1.length<=big/\wW (ji s o).2.2.1:=by
 have hs:=h.wW
 have hf:=h.few
 unfold ji
 by_cases k1:o.1=1
 ·rw [aoi k1]
  unfold BP
  split
  ·exact ⟨by simp [big],hs⟩
  ·split
   ·exact ⟨by simp [big],hs⟩
   ·split
    ·exact ⟨by simp [big],hs⟩
    ·refine ⟨by simp [big], ?_,fun b hb=>?_⟩
     ·simp [big]; omega
     ·rcases ann.1 hb with hb | hb
      ·exact hs.2 b hb
      ·simp only [anz] at hb
       subst hb
       exact ⟨h.okO.1,by simp [big],by simp⟩
 ·rw [aok k1]
  rcases mX s o.2.1 with hp | ⟨i,hp,hi⟩
  ·rw [hp,aoi (by decide)]
   exact ⟨by simp [big],hs⟩
  ·rw [hp,aok (by omega),ano]
   have hB:=h.small _ (fU hi dB)
   have OC:=hs.2 _ (fU hi dB)
   have hB2:=hB.2
   unfold GR
   split
   ·refine ⟨by simp [big], ?_,fun b hb=>?_⟩
    ·simp [big]; omega
    ·rcases ann.1 hb with hb | hb
     ·exact hs.2 b (an6 hb)
     ·exact hs.2 b (List.mem_of_mem_drop hb)
   ·split
    ·unfold Uq
     split
     ·exact ⟨by simp [big],hs⟩
     ·split
      ·exact ⟨by simp [big],hs⟩
      ·refine ⟨by simp [big],BS hs (Jl (l:=[_]) OC (fun m hm=>?_) (by simp only [anA]; unfold big; omega))⟩
       simp only [anz] at hm
       subst hm
       exact OY h.okO
    ·split
     ·refine ⟨?_,BS hs ⟨OC.1,by simpa [rM] using OC.2.1,fun m hm=>?_⟩⟩
      ·unfold yU
       rw [aoy]
       exact aov (aow _ _) OC.2.1
      ·obtain ⟨x,hx,rfl⟩:=anQ.1 hm
       unfold jg
       split
       ·exact OC.2.2 x hx
       ·exact OC.2.2 x hx
     ·split
      ·refine ⟨?_,BS hs (GG OC)⟩
       unfold UX
       rw [aoy]
       exact aov (aow _ _) OC.2.1
      ·unfold carried
       split
       ·exact ⟨by simp [big],hs⟩
       ·split
        ·exact ⟨by simp [big],hs⟩
        ·rename_i hneg _
         rcases mX s o.2.2.1 with hp2 | ⟨k,hp2,hk⟩
         ·rw [hp2] at hneg; exact absurd (by decide) hneg
         ·rw [hp2,ano]
          exact Rt hs h.small hi hk
theorem Yk {s:j4} {o:OpC} (h:Fit s o):ZA (uQ (ji s o)):=by
 unfold uQ
 split
 ·exact Rl h
 ·exact zN _
theorem fit {s:j4} {o:OpC} (hs:wW s) (ho:okO o) (hg:qE s) (hf:dW o=0):Fit s o:=by
 refine ⟨hs,ho,hg.1,hg.2.1,fun b hb=>?_,fun h4=>?_⟩
 ·obtain ⟨i,hi,rfl⟩:=aoc.1 hb
  have:=(hg.2.2 i hi).1
  rw [getD_lt hi] at this
  obtain ⟨_,_,h3,h4,_⟩:=this
  exact ⟨⟨by omega,h3.2⟩,h4⟩
 ·unfold dW at hf
  split at hf
  ·omega
  ·split at hf
   ·omega
   ·split at hf
    ·omega
    ·split at hf
     ·omega
     ·rename_i hc
      rw [aoA h4] at hc
      simp only [Bool.not_eq_true,aor,ao2] at hc
      have:=hc.1.1.2
      simpa using this
theorem Br {n:Nat} {s:j4} {o:OpC} (hs:wW s) (ho:okO o) (hg:qE s) (hn:big<n):∃r:rG,iT n s o=some (r,())/\nW n s o=some (r,())/\ZA r/\
  ((dW o=0/\r=uQ (ji s o))\/(dW o≠0/\r=bad (dW o))):=by
 obtain ⟨he,c,hc,hgc⟩:=vv hs hn
 have h0:=hgc.2 hg
 unfold iT nW
 rw [hc]
 simp only [anf,h0,aox,anH,anh,aog,Ar ho hn,FZ ho hn]
 by_cases h1:dW o=0
 ·have hF:=fit hs ho hg h1
  simp only [h1,aox,anH,anh,aog,NM hF hn,own hs hn,NL hF hn,anf]
  refine ⟨uQ (ji s o),rfl, ?_,Yk hF, .inl ⟨trivial,rfl⟩⟩
  unfold uQ
  by_cases h2:(ji s o).2.1=0
  ·simp only [h2,aox,anH,anh,aog,aof]
  ·simp only [h2,apd,anS,aof,aog]
   rfl
 ·refine ⟨bad (dW o), ?_, ?_,zN _, .inr ⟨h1,rfl⟩⟩
  ·simp only [h1,apd,anS,aof]; rfl
  ·simp only [h1,apd,anS,aof]; rfl
end Go.Proofs.YtailcbngagacaaaGreat.gU
