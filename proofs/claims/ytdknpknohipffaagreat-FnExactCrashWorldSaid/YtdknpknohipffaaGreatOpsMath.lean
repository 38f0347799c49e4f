/- Ops on stores: what the printed functions of both sides come to. -/
import Derived.Test.YtdknpknohipffaaGreatOwF
import Derived.Test.YtdknpknohipffaaGreatLoopLib
import Derived.Test.YtdknpknohipffaaGreatCutLib
import Derived.Test.YtdknpknohipffaaGreatTakeLib
import Derived.Test.YtdknpknohipffaaGreatStoreMath
import Derived.Test.YtdknpknohipffaaGreatCwF
set_option linter.unusedSectionVars false
set_option linter.unusedVariables false
set_option linter.unusedSimpArgs false
namespace Go.Proofs.YtdknpknohipffaaGreat.jO
open Go Go.Proofs.YtdknpknohipffaaGreat.Ow Go.Proofs.YtdknpknohipffaaGreat.Qq Go.Proofs.YtdknpknohipffaaGreat.kG Go.Proofs.YtdknpknohipffaaGreat.gK
abbrev OpC:=Int×List Int×List Int×List Int×Int×Int×Int×List Int×Unit
def okO (o:OpC):Prop:=o.2.1.length≤big∧o.2.2.1.length≤big∧o.2.2.2.1.length≤big∧o.2.2.2.2.2.2.2.1.length≤big
theorem Ur {n:Nat} {bs:List Int} (h:bs.length≤big):nT n bs=some (bs,()):=by
 unfold big at h
 unfold nT
 rw [if_pos (by simp; omega)]
 rfl
theorem clone {n:Nat} {bs:List Int} (h:bs.length≤big):dV n bs=some (bs,()):=by
 unfold big at h
 unfold dV
 have hc:(([]:List Int).length+bs.length) * 1≤140737488355328:=by simp; omega
 simp only [if_pos hc]
 cases bs with
 | nil=>exact (if_pos (show ([]:List Int).isEmpty=true from rfl)).trans (Yt (ks:=[.sl 5 (.int .u8)]) (some (([]:List Int),())))
 | cons b bs=>rfl
theorem Ut {n:Nat} {ms:List nD} (hb:ms.length≤big) (h:∀m∈ms,Jy m) (hn:big<n):oG n ms=some (ms,()):=by
 have hb':=hb
 unfold big at hb
 unfold oG
 refine (aM (fun i=>(ms,(i:Int),ms.take i,())) (fun _=>none) (some (ms,())) (m:=ms.length) (by simp) (by omega) ?_ ?_).trans (bG (fun _ _ _=>rfl))
 ·intro L i hi _
  have ht:ms.take (i+1)=ms.take i++[ms[i]]:=by simp
  have hl:(ms.take i).length≤i:=by simp; omega
  simp only [apE,hi,decide_true,if_true,aG hi,dR hi,aN hi (by omega),Ur (h ms[i] (apG hi)),ape,apy,ht]
  rw [if_pos (by omega)]
 ·intro L _
  simp
theorem Ic {n:Nat} {b:Bx} (h:okB b) (hn:big<n):jw n b=some (b,()):=by
 unfold jw
 rw [Ut h.2.1 h.2.2 hn]
 rfl
theorem Us {n:Nat} {s:mq} (h:AO s) (hn:big<n):nU n s=some (s,()):=by
 have hb:=h.1
 unfold big at hb
 unfold nU
 refine (aM (fun i=>((i:Int),s,(0,[],()),(s.1,s.2.1.take i,()),())) (fun _=>none) (some (s,())) (m:=s.2.1.length) (by simp) (by have:=h.1; omega) ?_ ?_).trans (bG (fun _ _ _=>rfl))
 ·intro L i hi _
  have ht:s.2.1.take (i+1)=s.2.1.take i++[s.2.1[i]]:=by simp
  have hl:(s.2.1.take i).length≤i:=by simp; omega
  simp only [apE,hi,decide_true,if_true,aG hi,dR hi,aN hi (by omega),Ic (h.2 _ (apG hi)) hn,ape,apy,ht]
  rw [if_pos (by omega)]
 ·intro L _
  simp
theorem own {n:Nat} {s:mq} (h:AO s) (hn:big<n):lF n s=some (s,()):=by
 have hb:=h.1
 unfold big at hb
 unfold lF
 refine (aM (fun i=>(s.2.1,(s.2.1.length:Int),(i:Int),(0,[],()),(s.1,s.2.1.take i,()),())) (fun _=>none) (some (s,())) (m:=s.2.1.length) (by simp) (by have:=h.1; omega) ?_ ?_).trans (bG (fun _ _ _=>rfl))
 ·intro L i hi _
  have ht:s.2.1.take (i+1)=s.2.1.take i++[s.2.1[i]]:=by simp
  have hl:(s.2.1.take i).length≤i:=by simp; omega
  simp only [apE,hi,decide_true,if_true,aG hi,dR hi]
  have hB:=h.2 _ (apG hi)
  generalize s.2.1[i]=b at hB ht ⊢
  have hb2:=hB.2.1
  unfold big at hb2
  refine (aM (fun j=>(s.2.1,(s.2.1.length:Int),(i:Int),b.2.2.2.1,(b.2.2.2.1.length:Int),(j:Int),(0,[],()),(s.1,s.2.1.take i,()),(b.1,b.2.1,b.2.2.1,b.2.2.2.1.take j,()),())) (fun _=>none) (L (s.2.1,(s.2.1.length:Int),((i+1:Nat):Int),(0,[],()),(s.1,s.2.1.take (i+1),()),())) (m:=b.2.2.2.1.length) (by simp) (by have:=hB.2.1; omega) ?_ ?_).trans (bG (fun _ _ _=>rfl))
  ·intro L2 j hj _
   have htj:b.2.2.2.1.take (j+1)=b.2.2.2.1.take j++[b.2.2.2.1[j]]:=by simp
   have hlj:(b.2.2.2.1.take j).length≤j:=by simp; omega
   simp only [apE,hj,decide_true,if_true,aG hj,dR hj,aN hj (by omega),clone (hB.2.2 _ (apG hj)),ape,apy,htj]
   rw [if_pos (by omega)]
  ·intro L2 _
   simp only [Int.lt_irrefl,decide_false,apg,if_false,List.take_length,apy,aN hi (by omega),ht]
   rw [if_pos (by omega)]
 ·intro L _
  simp
def AP (s:mq) (nm:List Int):Int:=if s.2.1.findIdx (fun b=>decide (b.1=nm))<s.2.1.length then ((s.2.1.findIdx (fun b=>decide (b.1=nm)):Nat):Int) else -1
theorem pI (s:mq) (nm:List Int):AP s nm=-1∨∃i:Nat,AP s nm=(i:Int)∧i<s.2.1.length:=by
 unfold AP
 split
 ·exact .inr ⟨_,rfl,by assumption⟩
 ·exact .inl rfl
theorem aeS {n:Nat} {s:mq} {nm:List Int} (hb:s.2.1.length≤big) (hn:big<n):qP n s nm=some (AP s nm,()):=by
 have hb':=hb
 unfold big at hb
 unfold qP
 refine (aM (fun i=>(s,nm,(i:Int),())) (fun j=>if decide ((s.2.1.getD j dB).1=nm)=true then some (some ((j:Int),())) else none) (some (-1,())) (m:=s.2.1.length) rfl (by omega) ?_ ?_).trans ?_
 ·intro L i hi _
  simp only [apE,hi,decide_true,if_true,aG hi,apn,aN hi (by omega)]
  split <;> rfl
 ·intro L _
  simp
 ·rw [mU.Au (p:=fun b:Bx=>decide (b.1=nm)) (r:=fun j=>some ((j:Int),())) s.2.1.length 0 (by omega)]
  simp only [List.drop_zero,Nat.zero_add]
  unfold AP
  split <;> rfl
theorem box {n:Nat} {s:mq} {nm:List Int} (hb:s.2.1.length≤big) (hn:big<n):jq n s nm=some (AP s nm,()):=by
 unfold jq
 have h:bW n s.2.1 nm=some (_,()):=mU.LP (p:=fun b:Bx=>decide (b.1=nm)) (q:=fun c x=>qJ n x c) (d:=dB) (fun _ _=>rfl) (fun _=>rfl) (by unfold big at hb; omega) (by omega)
 rw [h]
 rfl
theorem has {n:Nat} {us:List Int} {x:Int} (hb:us.length≤big) (hn:big<n):ny n us x=some (us.contains x,()):=
 jQ.Rs (fun _ _=>rfl) (by unfold big at hb; omega) (by omega)
theorem contains {n:Nat} {us:List Int} {x:Int} (hb:us.length≤big) (hn:big<n):aW n us x=some (us.contains x,()):=
 mU.Pz (fun _ _=>rfl) (by unfold big at hb; omega) (by omega)
def zN (b:Bx) (m:nD):Bx:=(b.1,b.2.1,b.2.2.1+1,b.2.2.2.1++[(b.2.2.1,m.2.1,m.2.2.1,m.2.2.2.1,())],())
theorem Sj {n:Nat} {b:Bx} {m:nD} (hm:Jy m) (h1:0≤b.2.2.1) (h2:b.2.2.1≤2000) (h3:b.2.2.2.1.length≤2000):nA n b m=some (b.2.2.1,zN b m,()):=by
 unfold nA
 rw [Ur hm]
 simp only [ape,apy]
 rw [if_pos (by omega),wrap_i64 (by omega) (by omega)]
 rfl
theorem Si {n:Nat} {b:Bx} {m:nD} (hm:Jy m) (h1:0≤b.2.2.1) (h2:b.2.2.1≤2000) (h3:b.2.2.2.1.length≤2000):rz n b m=some (b.2.2.1,zN b m,()):=by
 unfold rz
 rw [clone hm]
 simp only [ape,apy]
 rw [if_pos ⟨trivial,by omega⟩,wrap_i64 (x:=b.2.2.1+1) (by omega) (by omega),show b.2.2.1+1 - 1=b.2.2.1 by omega,wrap_i64 (by omega) (by omega)]
 rfl
theorem XH {n:Nat} {b:Bx} {m:nD} (hm:Jy m) (h1:0≤b.2.2.1) (h2:b.2.2.1≤2000) (h3:b.2.2.2.1.length≤2000):kr n b m=some (b.2.2.1,zN b m,()):=Si hm h1 h2 h3
def turn (was mode fl:Int):Int:=
 if mode=2 then IntKind.i64.wrap ((BitVec.ofInt (IntKind.bits .i64) was ||| BitVec.ofInt (IntKind.bits .i64) fl).toNat) else if mode=3 then IntKind.i64.wrap ((BitVec.ofInt (IntKind.bits .i64) was &&& ~~~ BitVec.ofInt (IntKind.bits .i64) fl).toNat) else fl
def mP (o:OpC) (m:nD):nD:=if o.2.2.2.1.contains m.1=true then (m.1,turn m.2.1 o.2.2.2.2.1 o.2.2.2.2.2.1,m.2.2) else m
def Lr (o:OpC) (b:Bx):Bx:=(b.1,b.2.1,b.2.2.1,b.2.2.2.1.map (mP o),())
def NU (o:OpC) (b:Bx):List Int:=(b.2.2.2.1.filter fun m=>o.2.2.2.1.contains m.1).map (·.1)
theorem flags {n:Nat} (a m f:Int):rV n a m f=some (turn a m f,()):=by
 unfold rV turn
 by_cases h2:m=2
 ·simp [h2]
 ·by_cases h3:m=3 <;> simp [h2,h3]
theorem P9 {A:Type} {p:A→Bool} {x:A} (h:p x=false):[x].filter p=[]:=by simp [List.filter_cons,h]
theorem one_pos {A:Type} {p:A→Bool} {x:A} (h:p x=true):[x].filter p=[x]:=by simp [List.filter_cons,h]
theorem Sw {A:Type} {f:A→A} {xs:List A} {i:Nat} (hi:i<xs.length) (h:f xs[i]=xs[i]):(xs.map f).take i++xs.drop i=(xs.map f).take (i+1)++xs.drop (i+1):=by
 have h1:=xW (xs:=xs) (ys:=xs.map f) (by simp) hi xs[i] (by simp [h])
 rw [←h1]
 symm
 have hl:i<((xs.map f).take i++xs.drop i).length:=by simp; omega
 have hg:=Db (xs:=xs) (ys:=xs.map f) (by simp) hi xs[i]
 rw [apr,aps hl] at hg
 simp only [Option.getD_some] at hg
 conv=>lhs; rw [←hg]
 exact List.set_getElem_self hl
theorem WO {n:Nat} {b:Bx} {o:OpC} (hb:b.2.2.2.1.length≤big) (ho:o.2.2.2.1.length≤big) (hn:big<n):uz n b o=some (NU o b,Lr o b,()):=by
 have hb':=hb
 unfold big at hb
 unfold uz
 obtain ⟨nm,va,ne,ms,u⟩:=b
 have hb:ms.length≤1048576:=hb
 refine (aM (fun i=>(o,(i:Int),(nm,va,ne,(ms.map (mP o)).take i++ms.drop i,()),((ms.take i).filter fun m=>o.2.2.2.1.contains m.1).map (·.1),())) (fun _=>none) (some (NU o (nm,va,ne,ms,()),Lr o (nm,va,ne,ms,()),())) (m:=ms.length) (by simp) (by unfold big at hn; omega) ?_ ?_).trans (bG (fun _ _ _=>rfl))
 ·intro L i hi _
  have hy:(ms.map (mP o)).length=ms.length:=by simp
  have hlen:=AL (xs:=ms) (ys:=ms.map (mP o)) hy (Nat.le_of_lt hi)
  have hget:=Db (xs:=ms) (ys:=ms.map (mP o)) hy hi dM
  have ht:ms.take (i+1)=ms.take i++[ms[i]]:=by simp
  have hl1:(((ms.take i).filter fun m=>o.2.2.2.1.contains m.1).map (·.1)).length≤i:=by
   rw [List.length_map]; exact Nat.le_trans (List.length_filter_le _ _) (by simp; omega)
  simp only [hlen,apE,hi,decide_true,if_true,aG hi,apn,fH,hget,has ho hn,ape,flags,aN hi (by omega)]
  cases hc:o.2.2.2.1.contains ms[i].1 with
  | false=>
   have hf:mP o ms[i]=ms[i]:=by unfold mP; rw [hc]; rfl
   rw [if_neg Bool.false_ne_true,Sw hi hf,ht,List.filter_append,P9 (p:=fun m:nD=>o.2.2.2.1.contains m.1) hc,apH]
  | true=>
   have hset:=xW (xs:=ms) (ys:=ms.map (mP o)) hy hi (ms[i].1,turn ms[i].2.1 o.2.2.2.2.1 o.2.2.2.2.2.1,ms[i].2.2) (by rw [List.getElem_map]; unfold mP; rw [if_pos hc])
   have hgs:((ms.map (mP o)).take (i+1)++ms.drop (i+1)).getD i dM=(ms[i].1,turn ms[i].2.1 o.2.2.2.2.1 o.2.2.2.2.2.1,ms[i].2.2):=by
    rw [←hset,apr,List.getElem?_set_self (by omega)]; rfl
   simp only [if_true,hset,hgs,apy]
   rw [if_pos (by omega),ht,List.filter_append,one_pos (p:=fun m:nD=>o.2.2.2.1.contains m.1) hc,List.map_append]
   rfl
 ·intro L _
  have ht:(ms.map (mP o)).take ms.length=ms.map (mP o):=List.take_of_length_le (by simp)
  simp only [ht,List.length_map,Int.lt_irrefl,decide_false,apg,if_false,List.take_length,List.drop_length,apH]
  rfl
theorem WN {n:Nat} {b:Bx} {o:OpC} (hb:b.2.2.2.1.length≤big) (ho:o.2.2.2.1.length≤big) (hn:big<n) (hm:1≤o.2.2.2.2.1∧o.2.2.2.2.1≤3):mZ n b o=some (NU o b,Lr o b,()):=by
 have hb':=hb
 unfold big at hb
 unfold mZ
 obtain ⟨nm,va,ne,ms,u⟩:=b
 have hb:ms.length≤1048576:=hb
 refine (aM (fun i=>((ms.length:Int),(i:Int),(nm,va,ne,(ms.map (mP o)).take i++ms.drop i,()),o,((ms.take i).filter fun m=>o.2.2.2.1.contains m.1).map (·.1),())) (fun _=>none) (some (NU o (nm,va,ne,ms,()),Lr o (nm,va,ne,ms,()),())) (m:=ms.length) (by simp) (by unfold big at hn; omega) ?_ ?_).trans (bG (fun _ _ _=>rfl))
 ·intro L i hi _
  have hy:(ms.map (mP o)).length=ms.length:=by simp
  have hlen:=AL (xs:=ms) (ys:=ms.map (mP o)) hy (Nat.le_of_lt hi)
  have hget:=Db (xs:=ms) (ys:=ms.map (mP o)) hy hi dM
  have ht:ms.take (i+1)=ms.take i++[ms[i]]:=by simp
  have hl1:(((ms.take i).filter fun m=>o.2.2.2.1.contains m.1).map (·.1)).length≤i:=by
   rw [List.length_map]; exact Nat.le_trans (List.length_filter_le _ _) (by simp; omega)
  simp only [hlen,apE,hi,decide_true,if_true,aG hi,apn,fH,hget,contains ho hn,ape,aN hi (by omega)]
  cases hc:o.2.2.2.1.contains ms[i].1 with
  | false=>
   have hf:mP o ms[i]=ms[i]:=by unfold mP; rw [hc]; rfl
   rw [apQ,if_pos rfl,Sw hi hf,ht,List.filter_append,P9 (p:=fun m:nD=>o.2.2.2.1.contains m.1) hc,apH]
  | true=>
   have hset:=xW (xs:=ms) (ys:=ms.map (mP o)) hy hi (ms[i].1,turn ms[i].2.1 o.2.2.2.2.1 o.2.2.2.2.2.1,ms[i].2.2) (by rw [List.getElem_map]; unfold mP; rw [if_pos hc])
   rw [apF,if_neg Bool.false_ne_true]
   simp only [apy]
   rw [if_pos (by omega),ht,List.filter_append,one_pos (p:=fun m:nD=>o.2.2.2.1.contains m.1) hc,List.map_append, ←hset]
   unfold turn
   by_cases h1:o.2.2.2.2.1=1
   ·simp [h1]
   ·by_cases h2:o.2.2.2.2.1=2
    ·simp [h2]
    ·have h3:o.2.2.2.2.1=3:=by omega
     simp [h3]
 ·intro L _
  have ht:(ms.map (mP o)).take ms.length=ms.map (mP o):=List.take_of_length_le (by simp)
  simp only [ht,Int.lt_irrefl,decide_false,apg,if_false,List.take_length,List.drop_length,apH]
  rfl
theorem XF (us:List Int) (u f:Int):jQ.pick us 0 u f=us.contains u:=by
 unfold jQ.pick
 rw [show BitVec.ofInt (IntKind.bits .i64) f &&& BitVec.ofInt (IntKind.bits .i64) 0=BitVec.ofInt (IntKind.bits .i64) 0 from BitVec.and_zero]
 have:(IntKind.i64.wrap ((BitVec.ofInt (IntKind.bits .i64) 0).toNat:Int))=0:=by decide
 rw [this]
 simp
def YV (b:Bx):List Int:=(b.2.2.2.1.filter fun m=>kH.del m.2.1).map (·.1)
def ZO (b:Bx):Bx:=(b.1,b.2.1,b.2.2.1,b.2.2.2.1.filter (fun m=>!kH.del m.2.1),())
theorem ae2 {n:Nat} {b:Bx} (hb:b.2.2.2.1.length≤big) (hn:big<n):gu n b=some (YV b,ZO b,()):=by
 unfold big at hb hn
 show kH.za n b=_
 unfold kH.za
 rw [if_pos ⟨by omega,by omega⟩]
 rfl
theorem XT {n:Nat} {b:Bx} (hb:b.2.2.2.1.length≤big) (hn:big<n):fZ n b [] 8=some (b.2.2.2.1.filter (fun m=>kH.del m.2.1),ZO b,()):=by
 unfold big at hb hn
 show jQ.BM jQ.pick n b [] 8=_
 unfold jQ.BM
 rw [if_pos ⟨by omega,by omega,by simp,by simp; omega⟩]
 rfl
def dF (o:OpC) (b:Bx):List nD:=b.2.2.2.1.filter fun m=>o.2.2.2.1.contains m.1
def ac9 (o:OpC) (b:Bx):Bx:=(b.1,b.2.1,b.2.2.1,b.2.2.2.1.filter (fun m=>!o.2.2.2.1.contains m.1),())
theorem OH {n:Nat} {b:Bx} {o:OpC} (hb:b.2.2.2.1.length≤big) (ho:o.2.2.2.1.length≤big) (hn:big<n):fZ n b o.2.2.2.1 0=some (dF o b,ac9 o b,()):=by
 have hb':=hb
 have ho':=ho
 unfold big at hb ho hn
 show jQ.BM jQ.pick n b o.2.2.2.1 0=_
 unfold jQ.BM
 rw [if_pos ⟨by omega,by omega,by omega,by omega⟩]
 simp only [XF]
 rfl
def fV (b:Bx) (l:List nD):Bx:=l.foldl zN b
def yN (b:Bx):Nat→List Int
 | 0=>[]
 | k+1=>yN b k++[b.2.2.1+(k:Int)]
theorem uG (b:Bx):∀k,(yN b k).length=k
 | 0=>rfl
 | k+1=>by simp [yN,uG b k]
theorem Sg (b:Bx) (l:List nD) (m:nD):fV b (l++[m])=zN (fV b l) m:=by simp [fV]
theorem I5 (b:Bx):∀l:List nD,(fV b l).2.2.1=b.2.2.1+(l.length:Int)∧(fV b l).2.2.2.1.length=b.2.2.2.1.length+l.length:=by
 intro l
 induction l generalizing b with
 | nil=>simp [fV]
 | cons m l ih=>
  have:=ih (zN b m)
  simp only [fV,List.foldl_cons,apB] at this ⊢
  rw [this.1,this.2]
  simp [zN]
  omega
theorem Ou {l:List nD}:∀{b:Bx},okB b→(∀m∈l,Jy m)→b.2.2.2.1.length+l.length≤big→okB (fV b l):=by
 induction l with
 | nil=>intro b h _ _; exact h
 | cons m l ih=>
  intro b h hl hb
  simp only [apB] at hb
  refine ih (b:=zN b m) ⟨h.1, ?_, ?_⟩ (fun x hx=>hl x (by simp [hx])) ?_
  ·simp only [zN,apl,apy]; omega
  ·intro x hx
   simp only [zN,apm,apx] at hx
   rcases hx with hx | rfl
   ·exact h.2.2 x hx
   ·exact hl m (by simp)
  ·simp only [zN,apl,apy]; omega
theorem CG {A:Type} {xs:List A} {k:Nat} (h:k<xs.length) (y d:A):(xs.set k y).getD k d=y:=by
 rw [apr,List.getElem?_set_self h]; rfl
theorem getD_lt {A:Type} {xs:List A} {k:Nat} (h:k<xs.length) (d:A):xs.getD k d=xs[k]:=by
 rw [apr,aps h]; rfl
theorem aaw {A:Type} {xs:List A} {k:Nat} (h:k<xs.length) (d:A):xs.set k (xs.getD k d)=xs:=by
 rw [apr,aps h]
 exact List.set_getElem_self h
theorem Sk {s:mq} {k j:Nat} {l:List nD} {b:Bx} (hk:k<s.2.1.length) (hj:j<l.length) :
  ((s.2.1.set k (fV b (l.take j))).set k (zN (fV b (l.take j)) l[j]))=s.2.1.set k (fV b (l.take (j+1))):=by
 rw [List.set_set, ←Sg]
 congr 2
 simp
theorem KW {n:Nat} {s:mq} {at':Int} {k:Nat} {o:OpC} {part:Bx} {l:List nD} {b:Bx} {fin:Int×OpC×Int×Int×mq×Bx×List nD×List Int×Unit→Option (List Int×Int×mq×Unit)}
  {B:(Int×OpC×Int×Int×mq×Bx×List nD×List Int×Unit→Option (List Int×Int×mq×Unit))→Int×OpC×Int×Int×mq×Bx×List nD×List Int×Unit→Option (List Int×Int×mq×Unit)}
  (hB:∀L v,B L v=(if decide (v.2.2.2.1<(v.2.2.2.2.2.2.1.length:Int))=true then (if aH v.2.2.2.1 v.2.2.2.2.2.2.1.length then ((nA n (v.2.2.2.2.1.2.1.getD v.2.2.1.toNat dB) (v.2.2.2.2.2.2.1.getD v.2.2.2.1.toNat dM)).bind fun r5=>(if (v.2.2.2.2.2.2.2.1.length+[r5.1].length) * 8≤140737488355328 then L (v.1,v.2.1,v.2.2.1,IntKind.i64.wrap (v.2.2.2.1+(1:Int)),(v.2.2.2.2.1.1,v.2.2.2.2.1.2.1.set v.2.2.1.toNat r5.2.1,v.2.2.2.2.1.2.2),v.2.2.2.2.2.1,v.2.2.2.2.2.2.1,v.2.2.2.2.2.2.2.1++[r5.1],()) else none)) else none) else fin v))
  (hk:k<s.2.1.length) (hb:s.2.1.getD k dB=b) (hl:∀m∈l,Jy m) (hl6:l.length≤6) (h1:0≤b.2.2.1) (h2:b.2.2.1≤1000) (h3:b.2.2.2.1.length≤6) (hn:big<n) :
  rounds B n (at',o,(k:Int),(0:Int),s,part,l,[],())=fin (at',o,(k:Int),(l.length:Int),(s.1,s.2.1.set k (fV b l),()),part,l,yN b l.length,()):=by
 have hn':1048576<n:=hn
 refine (aM (fun j=>(at',o,(k:Int),(j:Int),(s.1,s.2.1.set k (fV b (l.take j)),()),part,l,yN b j,())) (fun _=>none) (fin (at',o,(k:Int),(l.length:Int),(s.1,s.2.1.set k (fV b l),()),part,l,yN b l.length,())) (m:=l.length) ?_ (by omega) ?_ ?_).trans (bG (fun _ _ _=>rfl))
 ·rw [List.take_zero]
  show _=(_,_,_,_,(s.1,s.2.1.set k b,()),_,_,[],())
  rw [←hb,aaw hk]
  rfl
 ·intro L j hj _
  have hp:=I5 b (l.take j)
  have hlt:(l.take j).length=j:=by simp; omega
  rw [hlt] at hp
  have hput:=Sj (n:=n) (b:=fV b (l.take j)) (m:=l[j]) (hl _ (apG hj)) (by rw [hp.1]; omega) (by rw [hp.1]; omega) (by rw [hp.2]; omega)
  simp only [hB,apE,hj,decide_true,if_true,aG hj,apn,getD_lt hj,CG hk,hput,ape,aN hj (by omega),uG,apy,Sk hk hj]
  rw [if_pos (by omega),hp.1]
  rfl
 ·intro L _
  simp only [hB,Int.lt_irrefl,decide_false,apg,if_false,List.take_length]
theorem KV {n:Nat} {s:mq} {at':Int} {k:Nat} {o:OpC} {l:List nD} {b:Bx} {fin:Int×Int×Int×Int×mq×OpC×List nD×List Int×Unit→Option (List Int×Int×mq×Unit)}
  {B:(Int×Int×Int×Int×mq×OpC×List nD×List Int×Unit→Option (List Int×Int×mq×Unit))→Int×Int×Int×Int×mq×OpC×List nD×List Int×Unit→Option (List Int×Int×mq×Unit)}
  (hB:∀L v,B L v=(if decide (v.2.2.2.1<v.2.2.1)=true then (if aH v.2.2.2.1 v.2.2.2.2.2.2.1.length then ((kr n (v.2.2.2.2.1.2.1.getD v.2.1.toNat dB) (v.2.2.2.2.2.2.1.getD v.2.2.2.1.toNat dM)).bind fun r6=>(if (v.2.2.2.2.2.2.2.1.length+[r6.1].length) * 8≤140737488355328 then L (v.1,v.2.1,v.2.2.1,IntKind.i64.wrap (v.2.2.2.1+(1:Int)),(v.2.2.2.2.1.1,v.2.2.2.2.1.2.1.set v.2.1.toNat r6.2.1,v.2.2.2.2.1.2.2),v.2.2.2.2.2.1,v.2.2.2.2.2.2.1,v.2.2.2.2.2.2.2.1++[r6.1],()) else none)) else none) else fin v))
  (hk:k<s.2.1.length) (hb:s.2.1.getD k dB=b) (hl:∀m∈l,Jy m) (hl6:l.length≤6) (h1:0≤b.2.2.1) (h2:b.2.2.1≤1000) (h3:b.2.2.2.1.length≤6) (hn:big<n) :
  rounds B n (at',(k:Int),(l.length:Int),(0:Int),s,o,l,[],())=fin (at',(k:Int),(l.length:Int),(l.length:Int),(s.1,s.2.1.set k (fV b l),()),o,l,yN b l.length,()):=by
 have hn':1048576<n:=hn
 refine (aM (fun j=>(at',(k:Int),(l.length:Int),(j:Int),(s.1,s.2.1.set k (fV b (l.take j)),()),o,l,yN b j,())) (fun _=>none) (fin (at',(k:Int),(l.length:Int),(l.length:Int),(s.1,s.2.1.set k (fV b l),()),o,l,yN b l.length,())) (m:=l.length) ?_ (by omega) ?_ ?_).trans (bG (fun _ _ _=>rfl))
 ·rw [List.take_zero]
  show _=(_,_,_,_,(s.1,s.2.1.set k b,()),_,_,[],())
  rw [←hb,aaw hk]
  rfl
 ·intro L j hj _
  have hp:=I5 b (l.take j)
  have hlt:(l.take j).length=j:=by simp; omega
  rw [hlt] at hp
  have hput:=XH (n:=n) (b:=fV b (l.take j)) (m:=l[j]) (hl _ (apG hj)) (by rw [hp.1]; omega) (by rw [hp.1]; omega) (by rw [hp.2]; omega)
  simp only [hB,apE,hj,decide_true,if_true,aG hj,apn,getD_lt hj,CG hk,hput,ape,aN hj (by omega),uG,apy,Sk hk hj]
  rw [if_pos (by omega),hp.1]
  rfl
 ·intro L _
  simp only [hB,Int.lt_irrefl,decide_false,apg,if_false,List.take_length]
theorem Oe {n:Nat} {ms:List nD} {o:OpC} {a b:Int} {s:mq} {fin:Int×Int×List nD×Int×Int×mq×OpC×List nD×Unit→Option (List Int×Int×mq×Unit)}
  {B:(Int×Int×List nD×Int×Int×mq×OpC×List nD×Unit→Option (List Int×Int×mq×Unit))→Int×Int×List nD×Int×Int×mq×OpC×List nD×Unit→Option (List Int×Int×mq×Unit)}
  (hB:∀L v,B L v=(if decide (v.2.2.2.2.1<v.2.2.2.1)=true then (if aH v.2.2.2.2.1 v.2.2.1.length then ((aW n v.2.2.2.2.2.2.1.2.2.2.1 ((v.2.2.1.getD v.2.2.2.2.1.toNat dM).1)).bind fun r3=>(if r3.1=true then (if (v.2.2.2.2.2.2.2.1.length+[v.2.2.1.getD v.2.2.2.2.1.toNat dM].length) * 48≤140737488355328 then L (v.1,v.2.1,v.2.2.1,v.2.2.2.1,IntKind.i64.wrap (v.2.2.2.2.1+(1:Int)),v.2.2.2.2.2.1,v.2.2.2.2.2.2.1,v.2.2.2.2.2.2.2.1++[v.2.2.1.getD v.2.2.2.2.1.toNat dM],()) else none) else L (v.1,v.2.1,v.2.2.1,v.2.2.2.1,IntKind.i64.wrap (v.2.2.2.2.1+(1:Int)),v.2.2.2.2.2.1,v.2.2.2.2.2.2.1,v.2.2.2.2.2.2.2.1,()))) else none) else fin v))
  (hb:ms.length≤big) (ho:o.2.2.2.1.length≤big) (hn:big<n) :
  rounds B n (a,b,ms,(ms.length:Int),(0:Int),s,o,[],())=fin (a,b,ms,(ms.length:Int),(ms.length:Int),s,o,ms.filter (fun m=>o.2.2.2.1.contains m.1),()):=by
 have hb':ms.length≤1048576:=hb
 refine (aM (fun i=>(a,b,ms,(ms.length:Int),(i:Int),s,o,(ms.take i).filter (fun m=>o.2.2.2.1.contains m.1),())) (fun _=>none) (fin (a,b,ms,(ms.length:Int),(ms.length:Int),s,o,ms.filter (fun m=>o.2.2.2.1.contains m.1),())) (m:=ms.length) (by simp) (by omega) ?_ ?_).trans (bG (fun _ _ _=>rfl))
 ·intro L i hi _
  have ht:ms.take (i+1)=ms.take i++[ms[i]]:=by simp
  have hl:((ms.take i).filter fun m=>o.2.2.2.1.contains m.1).length≤i:=Nat.le_trans (List.length_filter_le _ _) (by simp; omega)
  simp only [hB,apE,hi,decide_true,if_true,aG hi,dR hi,contains ho hn,ape,aN hi (by omega),apy,ht,List.filter_append]
  cases hc:o.2.2.2.1.contains ms[i].1 with
  | false=>rw [if_neg Bool.false_ne_true,P9 (p:=fun m:nD=>o.2.2.2.1.contains m.1) hc,apH]
  | true=>rw [if_pos rfl,if_pos (by omega),one_pos (p:=fun m:nD=>o.2.2.2.1.contains m.1) hc]
 ·intro L _
  simp only [hB,Int.lt_irrefl,decide_false,apg,if_false,List.take_length]
def Qi (b:Bx):Prop:=(0≤b.2.2.1∧b.2.2.1≤1000)∧b.2.2.2.1.length≤6
def Ak (s:mq) (i k:Nat) (o:OpC):List Int×Int×mq×Unit:=
 if (s.2.1.getD k dB).2.2.2.1.length+(dF o (s.2.1.getD i dB)).length>6 then ([],10,s,()) else
 if (s.2.1.getD k dB).2.2.1+((dF o (s.2.1.getD i dB)).length:Int)>1000 then ([],10,s,()) else
 (yN (s.2.1.getD k dB) (dF o (s.2.1.getD i dB)).length,0,(s.1,if o.1=6 then (s.2.1.set k (fV (s.2.1.getD k dB) (dF o (s.2.1.getD i dB)))).set i (ac9 o (s.2.1.getD i dB)) else s.2.1.set k (fV (s.2.1.getD k dB) (dF o (s.2.1.getD i dB))),()),())
def carried (s:mq) (i:Nat) (o:OpC):List Int×Int×mq×Unit:=
 if AP s o.2.2.1<0 then ([],4,s,()) else if o.1=6∧AP s o.2.2.1=(i:Int) then ([],9,s,()) else Ak s i (AP s o.2.2.1).toNat o
theorem dZ {A:Type} {xs:List A} {k:Nat} (h:k<xs.length) (d:A):xs.getD k d∈xs:=by
 rw [getD_lt h]; exact apG h
theorem abR {n:Nat} {s:mq} {i:Nat} {o:OpC} (hs:AO s) (ho:okO o) (hsm:∀b∈s.2.1,Qi b) (hi:i<s.2.1.length) (hn:big<n):rU n s (i:Int) o=some (carried s i o):=by
 unfold rU carried
 rw [aeS hs.1 hn]
 simp only [ape]
 rcases pI s o.2.2.1 with h | ⟨k,h,hk⟩
 ·rw [h]; rfl
 ·rw [h]
  have h0:¬((k:Int)<0):=by omega
  rw [decide_eq_false h0,if_neg Bool.false_ne_true,if_neg h0]
  have hA:=hsm _ (dZ hi dB)
  have hK:=hsm _ (dZ hk dB)
  have hAo:=hs.2 _ (dZ hi dB)
  have hKo:=hs.2 _ (dZ hk dB)
  have hT:(dF o (s.2.1.getD i dB)).length≤6:=Nat.le_trans (List.length_filter_le _ _) hA.2
  have hTo:∀m∈dF o (s.2.1.getD i dB),Jy m:=fun m hm=>hAo.2.2 m (apv.1 hm).1
  have hK2:=hK.2
  have hK1:=hK.1
  by_cases h6:o.1=6
  ·rw [decide_eq_true h6,if_pos rfl]
   by_cases he:(k:Int)=(i:Int)
   ·rw [decide_eq_true he,if_pos rfl,if_pos ⟨h6,he⟩]
   ·rw [decide_eq_false he,if_neg Bool.false_ne_true,if_neg (show ¬(o.1=6∧(k:Int)=(i:Int)) from fun h=>he h.2),if_pos (aG hi)]
    simp only [apn,Ic hAo hn,ape,OH hAo.2.1 ho.2.2.1 hn,if_pos (aG hk)]
    unfold Ak
    have w1:IntKind.i64.wrap (((s.2.1.getD k dB).2.2.2.1.length:Int)+((dF o (s.2.1.getD i dB)).length:Int))=((s.2.1.getD k dB).2.2.2.1.length:Int)+((dF o (s.2.1.getD i dB)).length:Int):=wrap_i64 (by omega) (by omega)
    have w2:IntKind.i64.wrap ((s.2.1.getD k dB).2.2.1+((dF o (s.2.1.getD i dB)).length:Int))=(s.2.1.getD k dB).2.2.1+((dF o (s.2.1.getD i dB)).length:Int):=wrap_i64 (by omega) (by omega)
    simp only [w1,w2]
    by_cases c1:(s.2.1.getD k dB).2.2.2.1.length+(dF o (s.2.1.getD i dB)).length>6
    ·have c1':((s.2.1.getD k dB).2.2.2.1.length:Int)+((dF o (s.2.1.getD i dB)).length:Int)>6:=by omega
     simp only [c1,c1',decide_true,if_true]
    ·have c1':¬(((s.2.1.getD k dB).2.2.2.1.length:Int)+((dF o (s.2.1.getD i dB)).length:Int)>6):=by omega
     simp only [c1,c1',decide_false,apg,if_false]
     by_cases c2:(s.2.1.getD k dB).2.2.1+((dF o (s.2.1.getD i dB)).length:Int)>1000
     ·simp only [c2,decide_true,if_true]
     ·simp only [c2,decide_false,apg,if_false]
      refine (KW (s:=s) (k:=k) (l:=dF o (s.2.1.getD i dB)) (b:=s.2.1.getD k dB) (fun _ _=>rfl) hk rfl hTo hT hK1.1 hK1.2 hK2 hn).trans ?_
      have hi2:i<(s.2.1.set k (fV (s.2.1.getD k dB) (dF o (s.2.1.getD i dB)))).length:=by simpa using hi
      simp only [h6,decide_true,if_true,if_pos (aG hi2),apn]
  ·rw [decide_eq_false h6,if_neg Bool.false_ne_true,if_neg (show ¬(o.1=6∧(k:Int)=(i:Int)) from fun h=>h6 h.1),if_pos (aG hi)]
   simp only [apn,Ic hAo hn,ape,OH hAo.2.1 ho.2.2.1 hn,if_pos (aG hk)]
   unfold Ak
   have w1:IntKind.i64.wrap (((s.2.1.getD k dB).2.2.2.1.length:Int)+((dF o (s.2.1.getD i dB)).length:Int))=((s.2.1.getD k dB).2.2.2.1.length:Int)+((dF o (s.2.1.getD i dB)).length:Int):=wrap_i64 (by omega) (by omega)
   have w2:IntKind.i64.wrap ((s.2.1.getD k dB).2.2.1+((dF o (s.2.1.getD i dB)).length:Int))=(s.2.1.getD k dB).2.2.1+((dF o (s.2.1.getD i dB)).length:Int):=wrap_i64 (by omega) (by omega)
   simp only [w1,w2]
   by_cases c1:(s.2.1.getD k dB).2.2.2.1.length+(dF o (s.2.1.getD i dB)).length>6
   ·have c1':((s.2.1.getD k dB).2.2.2.1.length:Int)+((dF o (s.2.1.getD i dB)).length:Int)>6:=by omega
    simp only [c1,c1',decide_true,if_true]
   ·have c1':¬(((s.2.1.getD k dB).2.2.2.1.length:Int)+((dF o (s.2.1.getD i dB)).length:Int)>6):=by omega
    simp only [c1,c1',decide_false,apg,if_false]
    by_cases c2:(s.2.1.getD k dB).2.2.1+((dF o (s.2.1.getD i dB)).length:Int)>1000
    ·simp only [c2,decide_true,if_true]
    ·simp only [c2,decide_false,apg,if_false]
     refine (KW (s:=s) (k:=k) (l:=dF o (s.2.1.getD i dB)) (b:=s.2.1.getD k dB) (fun _ _=>rfl) hk rfl hTo hT hK1.1 hK1.2 hK2 hn).trans ?_
     simp only [h6,decide_false,apg,if_false]
theorem getD_set_ne {A:Type} {xs:List A} {i k:Nat} (h:k≠i) (y d:A):(xs.set k y).getD i d=xs.getD i d:=by
 rw [apr,apr,List.getElem?_set_ne h]
theorem abo {n:Nat} {ms:List nD} {o:OpC} (hb:ms.length≤big) (ho:o.2.2.2.1.length≤big) (hn:big<n) :
  aF n ms o=some (((ms.filter fun m=>!o.2.2.2.1.contains m.1).length:Int),(ms.filter fun m=>!o.2.2.2.1.contains m.1)++List.replicate (ms.length - (ms.filter fun m=>!o.2.2.2.1.contains m.1).length) dM,()):=by
 unfold big at hb ho hn
 show mU.Gt n ms o=_
 unfold mU.Gt
 rw [if_pos ⟨by omega,by omega,by omega,by omega⟩]
 rfl
theorem copied {n:Nat} {s:mq} {i:Nat} {o:OpC} (hs:AO s) (ho:okO o) (hsm:∀b∈s.2.1,Qi b) (hi:i<s.2.1.length) (hn:big<n):kT n s (i:Int) o=some (carried s i o):=by
 unfold kT carried
 rw [box hs.1 hn]
 simp only [ape]
 rcases pI s o.2.2.1 with h | ⟨k,h,hk⟩
 ·rw [h]; rfl
 ·rw [h]
  have h0:¬((k:Int)<0):=by omega
  rw [decide_eq_false h0,if_neg Bool.false_ne_true,if_neg h0]
  have hA:=hsm _ (dZ hi dB)
  have hK:=hsm _ (dZ hk dB)
  have hAo:=hs.2 _ (dZ hi dB)
  have hKo:=hs.2 _ (dZ hk dB)
  have hT:(dF o (s.2.1.getD i dB)).length≤6:=Nat.le_trans (List.length_filter_le _ _) hA.2
  have hTo:∀m∈dF o (s.2.1.getD i dB),Jy m:=fun m hm=>hAo.2.2 m (apv.1 hm).1
  have hK2:=hK.2
  have hK1:=hK.1
  have w1:IntKind.i64.wrap (((s.2.1.getD k dB).2.2.2.1.length:Int)+((dF o (s.2.1.getD i dB)).length:Int))=((s.2.1.getD k dB).2.2.2.1.length:Int)+((dF o (s.2.1.getD i dB)).length:Int):=wrap_i64 (by omega) (by omega)
  have w2:IntKind.i64.wrap ((s.2.1.getD k dB).2.2.1+((dF o (s.2.1.getD i dB)).length:Int))=(s.2.1.getD k dB).2.2.1+((dF o (s.2.1.getD i dB)).length:Int):=wrap_i64 (by omega) (by omega)
  have hlist:(s.2.1.getD i dB).2.2.2.1.filter (fun m=>o.2.2.2.1.contains m.1)=dF o (s.2.1.getD i dB):=rfl
  by_cases h6:o.1=6
  ·rw [decide_eq_true h6,if_pos rfl]
   by_cases he:(k:Int)=(i:Int)
   ·rw [decide_eq_true he,if_pos rfl,if_pos ⟨h6,he⟩]
   ·rw [decide_eq_false he,if_neg Bool.false_ne_true,if_neg (show ¬(o.1=6∧(k:Int)=(i:Int)) from fun h=>he h.2),if_pos (aG hi)]
    simp only [apn]
    refine (Oe (s:=s) (o:=o) (a:=(i:Int)) (b:=(k:Int)) (ms:=(s.2.1.getD i dB).2.2.2.1) (fun _ _=>rfl) hAo.2.1 ho.2.2.1 hn).trans ?_
    simp only [if_pos (aG hk),apn,hlist,w1]
    unfold Ak
    by_cases c1:(s.2.1.getD k dB).2.2.2.1.length+(dF o (s.2.1.getD i dB)).length>6
    ·have c1':((s.2.1.getD k dB).2.2.2.1.length:Int)+((dF o (s.2.1.getD i dB)).length:Int)>6:=by omega
     simp only [c1,c1',decide_true,if_true]
    ·have c1':¬(((s.2.1.getD k dB).2.2.2.1.length:Int)+((dF o (s.2.1.getD i dB)).length:Int)>6):=by omega
     have hlen:eG n (dF o (s.2.1.getD i dB))=some (((dF o (s.2.1.getD i dB)).length:Int),()):=rfl
     simp only [c1,c1',decide_false,apg,if_false,hlen,ape,w2]
     by_cases c2:(s.2.1.getD k dB).2.2.1+((dF o (s.2.1.getD i dB)).length:Int)>1000
     ·simp only [c2,decide_true,if_true]
     ·simp only [c2,decide_false,apg,if_false]
      refine (KV (s:=s) (k:=k) (l:=dF o (s.2.1.getD i dB)) (b:=s.2.1.getD k dB) (fun _ _=>rfl) hk rfl hTo hT hK1.1 hK1.2 hK2 hn).trans ?_
      have hki:k≠i:=fun h=>he (by omega)
      have hi2:i<(s.2.1.set k (fV (s.2.1.getD k dB) (dF o (s.2.1.getD i dB)))).length:=by simpa using hi
      simp only [h6,decide_true,if_true,if_pos (aG hi2),apn,fH,getD_set_ne hki,abo hAo.2.1 ho.2.2.1 hn,ape,List.set_set,CG hi2,List.take_left']
      rfl
  ·rw [decide_eq_false h6,if_neg Bool.false_ne_true,if_neg (show ¬(o.1=6∧(k:Int)=(i:Int)) from fun h=>h6 h.1),if_pos (aG hi)]
   simp only [apn]
   refine (Oe (s:=s) (o:=o) (a:=(i:Int)) (b:=(k:Int)) (ms:=(s.2.1.getD i dB).2.2.2.1) (fun _ _=>rfl) hAo.2.1 ho.2.2.1 hn).trans ?_
   simp only [if_pos (aG hk),apn,hlist,w1]
   unfold Ak
   by_cases c1:(s.2.1.getD k dB).2.2.2.1.length+(dF o (s.2.1.getD i dB)).length>6
   ·have c1':((s.2.1.getD k dB).2.2.2.1.length:Int)+((dF o (s.2.1.getD i dB)).length:Int)>6:=by omega
    simp only [c1,c1',decide_true,if_true]
   ·have c1':¬(((s.2.1.getD k dB).2.2.2.1.length:Int)+((dF o (s.2.1.getD i dB)).length:Int)>6):=by omega
    have hlen:eG n (dF o (s.2.1.getD i dB))=some (((dF o (s.2.1.getD i dB)).length:Int),()):=rfl
    simp only [c1,c1',decide_false,apg,if_false,hlen,ape,w2]
    by_cases c2:(s.2.1.getD k dB).2.2.1+((dF o (s.2.1.getD i dB)).length:Int)>1000
    ·simp only [c2,decide_true,if_true]
    ·simp only [c2,decide_false,apg,if_false]
     refine (KV (s:=s) (k:=k) (l:=dF o (s.2.1.getD i dB)) (b:=s.2.1.getD k dB) (fun _ _=>rfl) hk rfl hTo hT hK1.1 hK1.2 hK2 hn).trans ?_
     simp only [h6,decide_false,apg,if_false]
abbrev Ac:=Int×List Int×mq×Unit
def bad (c:Int):Ac:=(c,[],(0,[],()),())
def FP (s:mq) (o:OpC):List Int×Int×mq×Unit:=
 if AP s o.2.1≥0 then ([],6,s,()) else if s.2.1.length=3 then ([],10,s,()) else if s.1=1000 then ([],10,s,()) else ([],0,(s.1+1,s.2.1++[(o.2.1,s.1,1,[],())],()),())
def Yr (s:mq) (i:Nat) (o:OpC):List Int×Int×mq×Unit:=
 if (s.2.1.getD i dB).2.2.2.1.length=6 then ([],10,s,()) else if (s.2.1.getD i dB).2.2.1=1000 then ([],10,s,()) else
  ([(s.2.1.getD i dB).2.2.1],0,(s.1,s.2.1.set i (zN (s.2.1.getD i dB) (0,o.2.2.2.2.2.1,o.2.2.2.2.2.2.1,o.2.2.2.2.2.2.2.1,())),()),())
def Sm (s:mq) (i:Nat) (o:OpC):List Int×Int×mq×Unit:=
 if o.1=2 then ([],0,(s.1,s.2.1.take i++s.2.1.drop (i+1),()),()) else
 if o.1=3 then Yr s i o else
 if o.1=4 then (NU o (s.2.1.getD i dB),0,(s.1,s.2.1.set i (Lr o (s.2.1.getD i dB)),()),()) else
 if o.1=7 then (YV (s.2.1.getD i dB),0,(s.1,s.2.1.set i (ZO (s.2.1.getD i dB)),()),()) else carried s i o
def qm (s:mq) (o:OpC):List Int×Int×mq×Unit:=
 if o.1=1 then FP s o else if AP s o.2.1<0 then ([],4,s,()) else Sm s (AP s o.2.1).toNat o
def zP (r:List Int×Int×mq×Unit):Ac:=if r.2.1=0 then (0,r.1,r.2.2.1,()) else bad r.2.1
structure Fit (s:mq) (o:OpC):Prop where
 AO:AO s
 okO:okO o
 val:1≤s.1∧s.1≤1000
 few:s.2.1.length≤3
 small:∀b∈s.2.1,Qi b
 mode:o.1=4→1≤o.2.2.2.2.1∧o.2.2.2.2.1≤3
theorem made {n:Nat} {s:mq} {o:OpC} (h:Fit s o) (hn:big<n):oh n s o.2.1=some ((FP s o).2.1,(FP s o).2.2.1,())∧(FP s o).1=[]:=by
 have hf:=h.few
 have hv:=h.val
 unfold oh FP
 rw [box h.AO.1 hn]
 simp only [ape]
 by_cases c0:AP s o.2.1≥0
 ·simp only [c0,decide_true,if_true,and_self]
 ·simp only [c0,decide_false,apg,if_false]
  by_cases c1:s.2.1.length=3
  ·simp only [c1,if_true]
   exact ⟨rfl,trivial⟩
  ·have:¬(s.2.1.length:Int)=3:=by omega
   simp only [c1,this,decide_false,apg,if_false]
   by_cases c2:s.1=1000
   ·simp only [c2,decide_true,if_true,and_self]
   ·simp only [c2,decide_false,apg,if_false,apy,and_true]
    rw [if_pos (by omega),wrap_i64 (by omega) (by omega)]
theorem aeT {n:Nat} {s:mq} {o:OpC} (h:Fit s o) (hn:big<n):uB n s o=some (zP (FP s o),()):=by
 have hf:=h.few
 have hv:=h.val
 unfold uB FP
 rw [aeS h.AO.1 hn]
 simp only [ape]
 by_cases c0:AP s o.2.1≥0
 ·simp only [c0,decide_true,if_true]; rfl
 ·simp only [c0,decide_false,apg,if_false]
  by_cases c1:s.2.1.length=3
  ·have:(s.2.1.length:Int)≥3:=by omega
   simp only [c1,this,decide_true,if_true]; rfl
  ·have:¬(s.2.1.length:Int)≥3:=by omega
   simp only [c1,this,decide_false,apg,if_false]
   by_cases c2:s.1=1000
   ·have:s.1≥1000:=by omega
    simp only [c2,decide_true,if_true]; rfl
   ·have:¬s.1≥1000:=by omega
    simp only [c2,this,decide_false,apg,if_false,Us h.AO hn,ape,apy]
    rw [if_pos (by omega),wrap_i64 (by omega) (by omega)]
    rfl
theorem UB {o:OpC} (ho:okO o):Jy (0,o.2.2.2.2.2.1,o.2.2.2.2.2.2.1,o.2.2.2.2.2.2.2.1,()):=ho.2.2.2
theorem Tu {n:Nat} {s:mq} {o:OpC} (h:Fit s o) (hn:big<n):ng n s o=some (qm s o):=by
 unfold ng qm
 by_cases k1:o.1=1
 ·obtain ⟨h1,h2⟩:=made h hn
  simp only [k1,decide_true,if_true,h1,ape]
  rw [←h2]
 ·simp only [k1,decide_false,apg,if_false,box h.AO.1 hn,ape]
  rcases pI s o.2.1 with hp | ⟨i,hp,hi⟩
  ·rw [hp]; rfl
  ·rw [hp]
   have h0:¬((i:Int)<0):=by omega
   simp only [h0,decide_false,apg,if_false,if_pos (aG hi),apn]
   have hB:=h.small _ (dZ hi dB)
   have Uj:=h.AO.2 _ (dZ hi dB)
   have hB1:=hB.1
   have hB2:=hB.2
   have hf:=h.few
   unfold Sm
   by_cases k2:o.1=2
   ·have hw:IntKind.i64.wrap ((i:Int)+1)=((i+1:Nat):Int):=aN hi (by omega)
    have hdel:bQ n s.2.1 (i:Int) ((i+1:Nat):Int)=some (((s.2.1.length - 1:Nat):Int),s.2.1.take i++s.2.1.drop (i+1)++[dB],()):=by
     show mU.K7 dB s.2.1 (i:Int) ((i+1:Nat):Int)=_
     unfold mU.K7
     rw [if_pos ⟨by omega,by omega,by omega⟩]
     simp only [apn,Nat.add_sub_cancel_left]
     rfl
    have hl:(s.2.1.take i++s.2.1.drop (i+1)).length=s.2.1.length - 1:=by simp; omega
    simp only [k2,decide_true,if_true,hw,hdel,ape,apn]
    rw [←hl,List.take_left']
    rfl
   ·simp only [k2,decide_false,apg,if_false]
    by_cases k3:o.1=3
    ·simp only [k3,decide_true,if_true]
     unfold Yr
     by_cases c1:(s.2.1.getD i dB).2.2.2.1.length=6
     ·simp only [c1,if_true]
      rfl
     ·have:¬((s.2.1.getD i dB).2.2.2.1.length:Int)=6:=by omega
      simp only [c1,this,decide_false,apg,if_false]
      by_cases c2:(s.2.1.getD i dB).2.2.1=1000
      ·simp only [c2,decide_true,if_true]
      ·have hput:=Si (n:=n) (b:=s.2.1.getD i dB) (UB h.okO) (by omega) (by omega) (by omega)
       simp only [c2,decide_false,apg,if_false,hput,ape]
    ·simp only [k3,decide_false,apg,if_false]
     by_cases k4:o.1=4
     ·simp only [k4,decide_true,if_true,WN Uj.2.1 h.okO.2.2.1 hn (h.mode k4),ape]
     ·simp only [k4,decide_false,apg,if_false]
      by_cases k7:o.1=7
      ·simp only [k7,decide_true,if_true,ae2 Uj.2.1 hn,ape]
      ·simp only [k7,decide_false,apg,if_false,copied h.AO h.okO h.small hi hn,ape]
theorem WT {n:Nat} {ms:List nD} {r0:Ac} {st:mq} {c:Int} {B:(Int×Ac×Ac×List nD×Unit→Option (Ac×Unit))→Int×Ac×Ac×List nD×Unit→Option (Ac×Unit)}
  (hB:∀L v,B L v=(if decide (v.1<(v.2.2.2.1.length:Int))=true then (if aH v.1 v.2.2.2.1.length then (if (v.2.2.1.2.1.length+[(v.2.2.2.1.getD v.1.toNat dM).1].length) * 8≤140737488355328 then L (IntKind.i64.wrap (v.1+(1:Int)),v.2.1,(v.2.2.1.1,v.2.2.1.2.1++[(v.2.2.2.1.getD v.1.toNat dM).1],v.2.2.1.2.2),v.2.2.2.1,()) else none) else none) else some (v.2.2.1,())))
  (hb:ms.length≤big) (hn:big<n):rounds B n ((0:Int),r0,(c,[],st,()),ms,())=some ((c,ms.map (·.1),st,()),()):=by
 have hb':ms.length≤1048576:=hb
 refine (aM (fun i=>((i:Int),r0,(c,(ms.take i).map (·.1),st,()),ms,())) (fun _=>none) (some ((c,ms.map (·.1),st,()),())) (m:=ms.length) (by simp) (by omega) ?_ ?_).trans (bG (fun _ _ _=>rfl))
 ·intro L i hi _
  have ht:ms.take (i+1)=ms.take i++[ms[i]]:=by simp
  have hl:((ms.take i).map (·.1)).length≤i:=by simp; omega
  simp only [hB,apE,hi,decide_true,if_true,aG hi,dR hi,aN hi (by omega),apy,ht,List.map_append,List.map_cons,List.map_nil]
  rw [if_pos (by omega)]
 ·intro L _
  simp only [hB,Int.lt_irrefl,decide_false,apg,if_false,List.take_length]
theorem Tv {n:Nat} {s:mq} {o:OpC} (h:Fit s o) (hn:big<n):rT n s o=some (zP (qm s o),()):=by
 unfold rT qm
 by_cases k1:o.1=1
 ·simp only [k1,decide_true,if_true,aeT h hn,ape]
 ·simp only [k1,decide_false,apg,if_false,aeS h.AO.1 hn,ape]
  rcases pI s o.2.1 with hp | ⟨i,hp,hi⟩
  ·rw [hp]; rfl
  ·rw [hp]
   have h0:¬((i:Int)<0):=by omega
   simp only [h0,decide_false,apg,if_false,Us h.AO hn,ape,if_pos (aG hi),apn]
   have hB:=h.small _ (dZ hi dB)
   have Uj:=h.AO.2 _ (dZ hi dB)
   have hB1:=hB.1
   have hB2:=hB.2
   have hf:=h.few
   unfold Sm
   by_cases k2:o.1=2
   ·have hw:IntKind.i64.wrap ((i:Int)+1)=((i+1:Nat):Int):=aN hi (by omega)
    simp only [k2,decide_true,if_true,hw,apn]
    rw [if_pos ⟨by omega,by omega⟩,if_pos (by simp; omega),if_pos ⟨by omega,by omega⟩,if_pos (by simp; omega)]
    rfl
   ·simp only [k2,decide_false,apg,if_false]
    by_cases k3:o.1=3
    ·simp only [k3,decide_true,if_true]
     unfold Yr
     by_cases c1:(s.2.1.getD i dB).2.2.2.1.length=6
     ·have:((s.2.1.getD i dB).2.2.2.1.length:Int)≥6:=by omega
      simp only [c1,this,decide_true,if_true]; rfl
     ·have:¬((s.2.1.getD i dB).2.2.2.1.length:Int)≥6:=by omega
      simp only [c1,this,decide_false,apg,if_false]
      by_cases c2:(s.2.1.getD i dB).2.2.1=1000
      ·have:(s.2.1.getD i dB).2.2.1≥1000:=by omega
       simp only [c2,this,decide_true,if_true]; rfl
      ·have:¬(s.2.1.getD i dB).2.2.1≥1000:=by omega
       have hput:=Sj (n:=n) (b:=s.2.1.getD i dB) (UB h.okO) (by omega) (by omega) (by omega)
       simp only [c2,this,decide_false,apg,if_false,hput,ape]
       rfl
    ·simp only [k3,decide_false,apg,if_false]
     by_cases k4:o.1=4
     ·simp only [k4,decide_true,if_true,WO Uj.2.1 h.okO.2.2.1 hn,ape]
      rfl
     ·simp only [k4,decide_false,apg,if_false]
      by_cases k7:o.1=7
      ·simp only [k7,decide_true,if_true,XT Uj.2.1 hn,ape]
       exact WT (fun _ _=>rfl) (Nat.le_trans (List.length_filter_le _ _) Uj.2.1) hn
      ·simp only [k7,decide_false,apg,if_false,abR h.AO h.okO h.small hi hn,ape]
       unfold zP
       by_cases c:(carried s i o).2.1=0
       ·simp only [c,decide_true,apF,apg,if_false,if_true]
       ·simp only [c,decide_false,apQ,if_true,if_false]; rfl
theorem copies {n:Nat} (k:Int):iK n k=some (decide (k=5) || decide (k=6),()):=by
 unfold iK
 cases decide (k=5) <;> rfl
theorem Y3 {n:Nat} (o:OpC):nM n o=some (decide (o.1=5) || decide (o.1=6),()):=copies (n:=n) o.1
theorem abD {n:Nat} (o:OpC):kC n o=some ((decide (o.1=5) || decide (o.1=6)) || decide (o.1=4),()):=by
 unfold kC
 rw [Y3]
 simp only [ape]
 cases (decide (o.1=5) || decide (o.1=6)) <;> rfl
theorem aec (k:Nat):decide ((k:Int)>0)=!decide ((k:Int)=0):=by
 by_cases h:k=0
 ·subst h; rfl
 ·rw [decide_eq_true (by omega),decide_eq_false (by omega)]; rfl
def Cb (o:OpC):Bool:=(((decide (o.1=5) || decide (o.1=6)) || decide (o.2.2.1=[])) && ((((decide (o.1=5) || decide (o.1=6)) || decide (o.1=4)) || decide ((o.2.2.2.1.length:Int)=0)) && ((decide (o.1=4) || decide (o.2.2.2.2.1=0)) &&
 ((decide (o.1=4) || (decide (o.1=3) || decide (o.2.2.2.2.2.1=0))) && (decide (o.1=3) || (decide (o.2.2.2.2.2.2.1=0) && decide ((o.2.2.2.2.2.2.2.1.length:Int)=0)))))))
set_option maxRecDepth 20000 in
theorem only {n:Nat} (o:OpC):pO n o=some (Cb o,()):=by
 unfold pO Cb
 simp only [Y3,abD,ape]
 generalize (decide (o.1=5) || decide (o.1=6))=c
 generalize decide (o.2.2.1=[])=b1
 generalize decide (o.1=4)=b2
 generalize decide ((o.2.2.2.1.length:Int)=0)=b3
 generalize decide (o.2.2.2.2.1=0)=b4
 generalize decide (o.1=3)=b5
 generalize decide (o.2.2.2.2.2.1=0)=b6
 generalize decide (o.2.2.2.2.2.2.1=0)=b7
 generalize decide ((o.2.2.2.2.2.2.2.1.length:Int)=0)=b8
 revert c b1 b2 b3 b4 b5 b6 b7 b8
 decide +kernel
set_option maxRecDepth 20000 in
theorem form {n:Nat} (o:OpC):uA n o=some (decide (1≤o.1∧o.1≤7) && Cb o,()):=by
 unfold uA Cb
 simp only [Cj,copies,ape,aec]
 generalize (decide (o.1=5) || decide (o.1=6))=c
 generalize decide (o.2.2.1=[])=b1
 generalize decide (o.1=4)=b2
 generalize decide ((o.2.2.2.1.length:Int)=0)=b3
 generalize decide (o.2.2.2.2.1=0)=b4
 generalize decide (o.1=3)=b5
 generalize decide (o.2.2.2.2.2.1=0)=b6
 generalize decide (o.2.2.2.2.2.2.1=0)=b7
 generalize decide ((o.2.2.2.2.2.2.2.1.length:Int)=0)=b8
 generalize decide (1≤o.1∧o.1≤7)=b9
 revert c b1 b2 b3 b4 b5 b6 b7 b8 b9
 decide +kernel
def KP (us:List Int) (j:Nat):Bool:=!decide (1≤us.getD j 0∧us.getD j 0≤999) || (decide ((j:Int)>0) && decide (us.getD j 0≤us.getD (j - 1) 0))
theorem OL {n:Nat} {us:List Int} (hb:us.length≤big) (hn:big<n):nV n us=bX (fun j=>if KP us j=true then some (some (false,())) else none) (some (true,())) us.length 0:=by
 have hb':us.length≤1048576:=hb
 unfold nV
 refine aM (fun i=>(us,(i:Int),())) (fun j=>if KP us j=true then some (some (false,())) else none) (some (true,())) (m:=us.length) rfl (by omega) ?_ ?_
 ·intro L i hi _
  simp only [apE,hi,decide_true,if_true,aG hi,apn,Cj,ape,aN hi (by omega)]
  unfold KP
  cases h1:decide (1≤us.getD i 0∧us.getD i 0≤999) with
  | false=>rfl
  | true=>
   cases i with
   | zero=>rfl
   | succ j=>
    have hj:j<us.length:=by omega
    rw [decide_eq_true (show ((j+1:Nat):Int)>0 by omega),IG hj (by omega)]
    simp only [aG hj,if_true,apn,Nat.add_sub_cancel,apF,apg,if_false,Bool.false_or,Bool.true_and]
    by_cases hle:us.getD (j+1) 0≤us.getD j 0
    ·simp only [hle,decide_true,if_true]
    ·simp only [hle,decide_false,apg,if_false]
 ·intro L _
  simp
theorem OJ {n:Nat} {us:List Int} (hb:us.length≤big) (hn:big<n):lH n us=bX (fun j=>if KP us j=true then some (some (false,())) else none) (some (true,())) us.length 0:=by
 have hb':us.length≤1048576:=hb
 unfold lH
 refine aM (fun i=>(us,us,(us.length:Int),(i:Int),())) (fun j=>if KP us j=true then some (some (false,())) else none) (some (true,())) (m:=us.length) rfl (by omega) ?_ ?_
 ·intro L i hi _
  have hu:pQ n (us.getD i 0)=some (decide (1≤us.getD i 0∧us.getD i 0≤999),()):=by
   unfold pQ
   rw [mK,Cj]; rfl
  simp only [apE,hi,decide_true,if_true,aG hi,apn,hu,ape,aN hi (by omega)]
  unfold KP
  cases h1:decide (1≤us.getD i 0∧us.getD i 0≤999) with
  | false=>rfl
  | true=>
   cases i with
   | zero=>rfl
   | succ j=>
    have hj:j<us.length:=by omega
    rw [decide_eq_true (show ((j+1:Nat):Int)>0 by omega),IG hj (by omega)]
    simp only [aG hj,if_true,apn,Nat.add_sub_cancel,apF,apg,if_false,Bool.false_or,Bool.true_and,ge_iff_le]
    cases decide (us.getD (j+1) 0≤us.getD j 0) <;> rfl
 ·intro L _
  simp
def CS (us:List Int):Bool:=((bX (fun j=>if KP us j=true then some (some (false,())) else none) (some (true,())) us.length 0).getD (false,())).1
theorem CU (us:List Int):bX (fun j=>if KP us j=true then some (some (false,())) else none) (some (true,())) us.length 0=some (CS us,()):=by
 unfold CS
 rcases FB (step:=fun j=>if KP us j=true then some (some (false,())) else none) (fin:=some (true,())) (r:=some (false,())) (fun j=>by by_cases h:KP us j=true <;> simp [h]) (m:=us.length) (i:=0) with h | h <;> rw [h] <;> rfl
def iZ (o:OpC):Int:=
 if (!(decide (1≤o.1∧o.1≤7) && Cb o))=true then 1 else
 if (!decide (qi o.2.1) || ((decide (o.1=5) || decide (o.1=6)) && !decide (qi o.2.2.1)))=true then 5 else
 if decide ((o.2.2.2.1.length:Int)>6)=true then 2 else
 if (!CS o.2.2.2.1 || (decide (o.1=4) && !decide (1≤o.2.2.2.2.1∧o.2.2.2.2.1≤3)) || !decide (0≤o.2.2.2.2.2.1∧o.2.2.2.2.2.1≤15) || !decide (0≤o.2.2.2.2.2.2.1∧o.2.2.2.2.2.2.1≤9999))=true then 3 else
 if decide ((o.2.2.2.2.2.2.2.1.length:Int)>400)=true then 2 else 0
set_option maxRecDepth 20000 in
theorem Ea {n:Nat} {o:OpC} (ho:okO o) (hn:big<n):oV n o=some (iZ o,()):=by
 unfold oV iZ
 simp only [form,(name_eq ho.1 hn).2,(name_eq ho.2.1 hn).2,copies,Cj,OL ho.2.2.1 hn,CU,ape]
 generalize (decide (1≤o.1∧o.1≤7) && Cb o)=b0
 generalize decide (qi o.2.1)=b1
 generalize (decide (o.1=5) || decide (o.1=6))=b2
 generalize decide (qi o.2.2.1)=b3
 generalize decide ((o.2.2.2.1.length:Int)>6)=b4
 generalize CS o.2.2.2.1=b5
 generalize decide (o.1=4)=b6
 generalize decide (1≤o.2.2.2.2.1∧o.2.2.2.2.1≤3)=b7
 generalize decide (0≤o.2.2.2.2.2.1∧o.2.2.2.2.2.1≤15)=b8
 generalize decide (0≤o.2.2.2.2.2.2.1∧o.2.2.2.2.2.2.1≤9999)=b9
 generalize decide ((o.2.2.2.2.2.2.2.1.length:Int)>400)=c
 revert b0 b1 b2 b3 b4 b5 b6 b7 b8 b9 c
 decide +kernel
set_option maxRecDepth 20000 in
theorem Ll {n:Nat} {o:OpC} (ho:okO o) (hn:big<n):oO n o=some (iZ o,()):=by
 have hfl:∀x,fE n x=some (decide (0≤x∧x≤15),()):=fun x=>by unfold fE; rw [mK,Cj]; rfl
 have hda:∀x,iq n x=some (decide (0≤x∧x≤9999),()):=fun x=>by unfold iq; rw [mK,Cj]; rfl
 unfold oO iZ
 simp only [only,(name_eq ho.1 hn).1,(name_eq ho.2.1 hn).1,Y3,mK,Cj,OJ ho.2.2.1 hn,CU,hfl,hda,ape]
 generalize Cb o=b0
 generalize decide (1≤o.1∧o.1≤7)=a0
 generalize decide (qi o.2.1)=b1
 generalize (decide (o.1=5) || decide (o.1=6))=b2
 generalize decide (qi o.2.2.1)=b3
 generalize decide ((o.2.2.2.1.length:Int)>6)=b4
 generalize CS o.2.2.2.1=b5
 generalize decide (o.1=4)=b6
 generalize decide (1≤o.2.2.2.2.1∧o.2.2.2.2.1≤3)=b7
 generalize decide (0≤o.2.2.2.2.2.1∧o.2.2.2.2.2.1≤15)=b8
 generalize decide (0≤o.2.2.2.2.2.2.1∧o.2.2.2.2.2.2.1≤9999)=b9
 generalize decide ((o.2.2.2.2.2.2.2.1.length:Int)>400)=c
 revert a0 b0 b1 b2 b3 b4 b5 b6 b7 b8 b9 c
 decide +kernel
def okR (r:Ac):Prop:=r.2.1.length≤big∧AO r.2.2.1
theorem JZ (c:Int):okR (bad c):=by
 refine ⟨by simp [bad,big],by simp [bad,big],fun b hb=>?_⟩
 simp [bad] at hb
theorem FT {s:mq} {i:Nat} {b:Bx} {v:Int} (hs:AO s) (hb:okB b):AO (v,s.2.1.set i b,()):=by
 refine ⟨by simpa using hs.1,fun x hx=>?_⟩
 rcases List.mem_or_eq_of_mem_set hx with h | rfl
 ·exact hs.2 x h
 ·exact hb
theorem Mk {b:Bx} {p:nD→Bool} (h:okB b):okB (b.1,b.2.1,b.2.2.1,b.2.2.2.1.filter p,()):=
 ⟨h.1,Nat.le_trans (List.length_filter_le _ _) h.2.1,fun m hm=>h.2.2 m (apv.1 hm).1⟩
theorem Wt {s:mq} {i k:Nat} {o:OpC} (hs:AO s) (hsm:∀b∈s.2.1,Qi b) (hi:i<s.2.1.length) (hk:k<s.2.1.length):(Ak s i k o).1.length≤big∧AO (Ak s i k o).2.2.1:=by
 have hT:(dF o (s.2.1.getD i dB)).length≤6:=Nat.le_trans (List.length_filter_le _ _) (hsm _ (dZ hi dB)).2
 have hK:=(hsm _ (dZ hk dB)).2
 unfold Ak
 split
 ·exact ⟨by simp [big],hs⟩
 ·split
  ·exact ⟨by simp [big],hs⟩
  ·have hP:okB (fV (s.2.1.getD k dB) (dF o (s.2.1.getD i dB))):=Ou (hs.2 _ (dZ hk dB)) (fun m hm=>(hs.2 _ (dZ hi dB)).2.2 m (apv.1 hm).1) (by unfold big; omega)
   refine ⟨by rw [uG]; unfold big; omega, ?_⟩
   have h1:AO (s.1,s.2.1.set k (fV (s.2.1.getD k dB) (dF o (s.2.1.getD i dB))),()):=FT hs hP
   by_cases h6:o.1=6
   ·simp only [h6,if_true]
    exact FT (s:=(s.1,s.2.1.set k (fV (s.2.1.getD k dB) (dF o (s.2.1.getD i dB))),())) h1 (Mk (hs.2 _ (dZ hi dB)))
   ·simp only [h6,if_false]
    exact h1
theorem Wm {s:mq} {o:OpC} (h:Fit s o):(qm s o).1.length≤big∧AO (qm s o).2.2.1:=by
 have hs:=h.AO
 have hf:=h.few
 unfold qm
 by_cases k1:o.1=1
 ·rw [if_pos k1]
  unfold FP
  split
  ·exact ⟨by simp [big],hs⟩
  ·split
   ·exact ⟨by simp [big],hs⟩
   ·split
    ·exact ⟨by simp [big],hs⟩
    ·refine ⟨by simp [big], ?_,fun b hb=>?_⟩
     ·simp [big]; omega
     ·rcases apm.1 hb with hb | hb
      ·exact hs.2 b hb
      ·simp only [apx] at hb
       subst hb
       exact ⟨h.okO.1,by simp [big],by simp⟩
 ·rw [if_neg k1]
  rcases pI s o.2.1 with hp | ⟨i,hp,hi⟩
  ·rw [hp,if_pos (by decide)]
   exact ⟨by simp [big],hs⟩
  ·rw [hp,if_neg (by omega),apn]
   have hB:=h.small _ (dZ hi dB)
   have Uj:=hs.2 _ (dZ hi dB)
   have hB2:=hB.2
   unfold Sm
   split
   ·refine ⟨by simp [big], ?_,fun b hb=>?_⟩
    ·simp [big]; omega
    ·rcases apm.1 hb with hb | hb
     ·exact hs.2 b (List.mem_of_mem_take hb)
     ·exact hs.2 b (List.mem_of_mem_drop hb)
   ·split
    ·unfold Yr
     split
     ·exact ⟨by simp [big],hs⟩
     ·split
      ·exact ⟨by simp [big],hs⟩
      ·refine ⟨by simp [big],FT hs (Ou (l:=[_]) Uj (fun m hm=>?_) (by simp only [apy]; unfold big; omega))⟩
       simp only [apx] at hm
       subst hm
       exact UB h.okO
    ·split
     ·refine ⟨?_,FT hs ⟨Uj.1,by simpa [Lr] using Uj.2.1,fun m hm=>?_⟩⟩
      ·unfold NU
       rw [List.length_map]
       exact Nat.le_trans (List.length_filter_le _ _) Uj.2.1
      ·obtain ⟨x,hx,rfl⟩:=apO.1 hm
       unfold mP
       split
       ·exact Uj.2.2 x hx
       ·exact Uj.2.2 x hx
     ·split
      ·refine ⟨?_,FT hs (Mk Uj)⟩
       unfold YV
       rw [List.length_map]
       exact Nat.le_trans (List.length_filter_le _ _) Uj.2.1
      ·unfold carried
       split
       ·exact ⟨by simp [big],hs⟩
       ·split
        ·exact ⟨by simp [big],hs⟩
        ·rename_i hneg _
         rcases pI s o.2.2.1 with hp2 | ⟨k,hp2,hk⟩
         ·rw [hp2] at hneg; exact absurd (by decide) hneg
         ·rw [hp2,apn]
          exact Wt hs h.small hi hk
theorem abZ {s:mq} {o:OpC} (h:Fit s o):okR (zP (qm s o)):=by
 unfold zP
 split
 ·exact Wm h
 ·exact JZ _
theorem fit {s:mq} {o:OpC} (hs:AO s) (ho:okO o) (hg:xS s) (hf:iZ o=0):Fit s o:=by
 refine ⟨hs,ho,hg.1,hg.2.1,fun b hb=>?_,fun h4=>?_⟩
 ·obtain ⟨i,hi,rfl⟩:=List.mem_iff_getElem.1 hb
  have:=(hg.2.2 i hi).1
  rw [getD_lt hi] at this
  obtain ⟨_,_,h3,h4,_⟩:=this
  exact ⟨⟨by omega,h3.2⟩,h4⟩
 ·unfold iZ at hf
  split at hf
  ·omega
  ·split at hf
   ·omega
   ·split at hf
    ·omega
    ·split at hf
     ·omega
     ·rename_i hc
      rw [decide_eq_true h4] at hc
      simp only [Bool.not_eq_true,Bool.or_eq_false_iff,Bool.true_and] at hc
      have:=hc.1.1.2
      simpa using this
theorem Pe {n:Nat} {s:mq} {o:OpC} (hs:AO s) (ho:okO o) (hg:xS s) (hn:big<n):∃r:Ac,rR n s o=some (r,())∧rA n s o=some (r,())∧okR r∧
  ((iZ o=0∧r=zP (qm s o))∨(iZ o≠0∧r=bad (iZ o))):=by
 obtain ⟨he,c,hc,hgc⟩:=Lj hs hn
 have h0:=hgc.2 hg
 unfold rR rA
 rw [hc]
 simp only [ape,h0,decide_true,apF,apg,if_false,Ea ho hn,Ll ho hn]
 by_cases h1:iZ o=0
 ·have hF:=fit hs ho hg h1
  simp only [h1,decide_true,apF,apg,if_false,Tv hF hn,own hs hn,Tu hF hn,ape]
  refine ⟨zP (qm s o),rfl, ?_,abZ hF, .inl ⟨trivial,rfl⟩⟩
  unfold zP
  by_cases h2:(qm s o).2.1=0
  ·simp only [h2,decide_true,apF,apg,if_false,if_true]
  ·simp only [h2,decide_false,apQ,if_true,if_false]
   rfl
 ·refine ⟨bad (iZ o), ?_, ?_,JZ _, .inr ⟨h1,rfl⟩⟩
  ·simp only [h1,decide_false,apQ,if_true]; rfl
  ·simp only [h1,decide_false,apQ,if_true]; rfl
end Go.Proofs.YtdknpknohipffaaGreat.jO
