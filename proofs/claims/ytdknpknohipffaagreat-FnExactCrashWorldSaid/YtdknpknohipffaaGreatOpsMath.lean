/- Ops on stores: what the printed functions of both sides come to. -/
import Derived.Test.YtdknpknohipffaaGreatOwF
import Derived.Test.YtdknpknohipffaaGreatLoopLib
import Derived.Test.YtdknpknohipffaaGreatCutLib
import Derived.Test.YtdknpknohipffaaGreatTakeLib
import Derived.Test.YtdknpknohipffaaGreatStoreMath
import Derived.Test.YtdknpknohipffaaGreatCwF
set_option linter.unusedSectionVars false
set_option linter.unusedVariables false
set_option linter.unusedSimpArgs false
namespace Go.Proofs.YtdknpknohipffaaGreat.jV
open Go Go.Proofs.YtdknpknohipffaaGreat.Ow Go.Proofs.YtdknpknohipffaaGreat.RG Go.Proofs.YtdknpknohipffaaGreat.kN Go.Proofs.YtdknpknohipffaaGreat.gL
abbrev OpC:=Int×List Int×List Int×List Int×Int×Int×Int×List Int×Unit
def okO (o:OpC):Prop:=o.2.1.length≤big∧o.2.2.1.length≤big∧o.2.2.2.1.length≤big∧o.2.2.2.2.2.2.2.1.length≤big
theorem Vu {n:Nat} {bs:List Int} (h:bs.length≤big):oN n bs=some (bs,()):=by
 unfold big at h
 unfold oN
 rw [if_pos (by simp; omega)]
 rfl
theorem clone {n:Nat} {bs:List Int} (h:bs.length≤big):dV n bs=some (bs,()):=by
 unfold big at h
 unfold dV
 have hc:(([]:List Int).length+bs.length) * 1≤140737488355328:=by simp; omega
 simp only [if_pos hc]
 cases bs with
 | nil=>exact (if_pos (show ([]:List Int).isEmpty=true from rfl)).trans (ZO (ks:=[.sl 5 (.int .u8)]) (some (([]:List Int),())))
 | cons b bs=>rfl
theorem Vx {n:Nat} {ms:List nU} (hb:ms.length≤big) (h:∀m∈ms,KZ m) (hn:big<n):pI n ms=some (ms,()):=by
 have hb':=hb
 unfold big at hb
 unfold pI
 refine (aM (fun i=>(ms,(i:Int),ms.take i,())) (fun _=>none) (some (ms,())) (m:=ms.length) (by simp) (by omega) ?_ ?_).trans (bG (fun _ _ _=>rfl))
 ·intro L i hi _
  have ht:ms.take (i+1)=ms.take i++[ms[i]]:=by simp
  have hl:(ms.take i).length≤i:=by simp; omega
  simp only [Int.ofNat_lt,hi,decide_true,if_true,aG hi,dR hi,aN hi (by omega),Vu (h ms[i] (List.getElem_mem hi)),Option.bind_some,List.length_singleton,ht]
  rw [if_pos (by omega)]
 ·intro L _
  simp
theorem JQ {n:Nat} {b:Bx} (h:okB b) (hn:big<n):jE n b=some (b,()):=by
 unfold jE
 rw [Vx h.2.1 h.2.2 hn]
 rfl
theorem Vv {n:Nat} {s:ni} (h:Dp s) (hn:big<n):oO n s=some (s,()):=by
 have hb:=h.1
 unfold big at hb
 unfold oO
 refine (aM (fun i=>((i:Int),s,(0,[],()),(s.1,s.2.1.take i,()),())) (fun _=>none) (some (s,())) (m:=s.2.1.length) (by simp) (by have:=h.1; omega) ?_ ?_).trans (bG (fun _ _ _=>rfl))
 ·intro L i hi _
  have ht:s.2.1.take (i+1)=s.2.1.take i++[s.2.1[i]]:=by simp
  have hl:(s.2.1.take i).length≤i:=by simp; omega
  simp only [Int.ofNat_lt,hi,decide_true,if_true,aG hi,dR hi,aN hi (by omega),JQ (h.2 _ (List.getElem_mem hi)) hn,Option.bind_some,List.length_singleton,ht]
  rw [if_pos (by omega)]
 ·intro L _
  simp
theorem own {n:Nat} {s:ni} (h:Dp s) (hn:big<n):mo n s=some (s,()):=by
 have hb:=h.1
 unfold big at hb
 unfold mo
 refine (aM (fun i=>(s.2.1,(s.2.1.length:Int),(i:Int),(0,[],()),(s.1,s.2.1.take i,()),())) (fun _=>none) (some (s,())) (m:=s.2.1.length) (by simp) (by have:=h.1; omega) ?_ ?_).trans (bG (fun _ _ _=>rfl))
 ·intro L i hi _
  have ht:s.2.1.take (i+1)=s.2.1.take i++[s.2.1[i]]:=by simp
  have hl:(s.2.1.take i).length≤i:=by simp; omega
  simp only [Int.ofNat_lt,hi,decide_true,if_true,aG hi,dR hi]
  have hB:=h.2 _ (List.getElem_mem hi)
  generalize s.2.1[i]=b at hB ht ⊢
  have hb2:=hB.2.1
  unfold big at hb2
  refine (aM (fun j=>(s.2.1,(s.2.1.length:Int),(i:Int),b.2.2.2.1,(b.2.2.2.1.length:Int),(j:Int),(0,[],()),(s.1,s.2.1.take i,()),(b.1,b.2.1,b.2.2.1,b.2.2.2.1.take j,()),())) (fun _=>none) (L (s.2.1,(s.2.1.length:Int),((i+1:Nat):Int),(0,[],()),(s.1,s.2.1.take (i+1),()),())) (m:=b.2.2.2.1.length) (by simp) (by have:=hB.2.1; omega) ?_ ?_).trans (bG (fun _ _ _=>rfl))
  ·intro L2 j hj _
   have htj:b.2.2.2.1.take (j+1)=b.2.2.2.1.take j++[b.2.2.2.1[j]]:=by simp
   have hlj:(b.2.2.2.1.take j).length≤j:=by simp; omega
   simp only [Int.ofNat_lt,hj,decide_true,if_true,aG hj,dR hj,aN hj (by omega),clone (hB.2.2 _ (List.getElem_mem hj)),Option.bind_some,List.length_singleton,htj]
   rw [if_pos (by omega)]
  ·intro L2 _
   simp only [Int.lt_irrefl,decide_false,Bool.false_eq_true,if_false,List.take_length,List.length_singleton,aN hi (by omega),ht]
   rw [if_pos (by omega)]
 ·intro L _
  simp
def Dq (s:ni) (nm:List Int):Int:=if s.2.1.findIdx (fun b=>decide (b.1=nm))<s.2.1.length then ((s.2.1.findIdx (fun b=>decide (b.1=nm)):Nat):Int) else -1
theorem qN (s:ni) (nm:List Int):Dq s nm=-1∨∃i:Nat,Dq s nm=(i:Int)∧i<s.2.1.length:=by
 unfold Dq
 split
 ·exact .inr ⟨_,rfl,by assumption⟩
 ·exact .inl rfl
theorem agR {n:Nat} {s:ni} {nm:List Int} (hb:s.2.1.length≤big) (hn:big<n):tT n s nm=some (Dq s nm,()):=by
 have hb':=hb
 unfold big at hb
 unfold tT
 refine (aM (fun i=>(s,nm,(i:Int),())) (fun j=>if decide ((s.2.1.getD j dB).1=nm)=true then some (some ((j:Int),())) else none) (some (-1,())) (m:=s.2.1.length) rfl (by omega) ?_ ?_).trans ?_
 ·intro L i hi _
  simp only [Int.ofNat_lt,hi,decide_true,if_true,aG hi,Int.toNat_natCast,aN hi (by omega)]
  split <;> rfl
 ·intro L _
  simp
 ·rw [nK.De (p:=fun b:Bx=>decide (b.1=nm)) (r:=fun j=>some ((j:Int),())) s.2.1.length 0 (by omega)]
  simp only [List.drop_zero,Nat.zero_add]
  unfold Dq
  split <;> rfl
theorem box {n:Nat} {s:ni} {nm:List Int} (hb:s.2.1.length≤big) (hn:big<n):jB n s nm=some (Dq s nm,()):=by
 unfold jB
 have h:bX n s.2.1 nm=some (_,()):=nK.Nk (p:=fun b:Bx=>decide (b.1=nm)) (q:=fun c x=>tJ n x c) (d:=dB) (fun _ _=>rfl) (fun _=>rfl) (by unfold big at hb; omega) (by omega)
 rw [h]
 rfl
theorem has {n:Nat} {us:List Int} {x:Int} (hb:us.length≤big) (hn:big<n):nR n us x=some (us.contains x,()):=
 jW.SX (fun _ _=>rfl) (by unfold big at hb; omega) (by omega)
theorem contains {n:Nat} {us:List Int} {x:Int} (hb:us.length≤big) (hn:big<n):aW n us x=some (us.contains x,()):=
 nK.QL (fun _ _=>rfl) (by unfold big at hb; omega) (by omega)
def Cj (b:Bx) (m:nU):Bx:=(b.1,b.2.1,b.2.2.1+1,b.2.2.2.1++[(b.2.2.1,m.2.1,m.2.2.1,m.2.2.2.1,())],())
theorem TR {n:Nat} {b:Bx} {m:nU} (hm:KZ m) (h1:0≤b.2.2.1) (h2:b.2.2.1≤2000) (h3:b.2.2.2.1.length≤2000):nS n b m=some (b.2.2.1,Cj b m,()):=by
 unfold nS
 rw [Vu hm]
 simp only [Option.bind_some,List.length_singleton]
 rw [if_pos (by omega),wrap_i64 (by omega) (by omega)]
 rfl
theorem TQ {n:Nat} {b:Bx} {m:nU} (hm:KZ m) (h1:0≤b.2.2.1) (h2:b.2.2.1≤2000) (h3:b.2.2.2.1.length≤2000):uD n b m=some (b.2.2.1,Cj b m,()):=by
 unfold uD
 rw [clone hm]
 simp only [Option.bind_some,List.length_singleton]
 rw [if_pos ⟨trivial,by omega⟩,wrap_i64 (x:=b.2.2.1+1) (by omega) (by omega),show b.2.2.1+1 - 1=b.2.2.1 by omega,wrap_i64 (by omega) (by omega)]
 rfl
theorem YL {n:Nat} {b:Bx} {m:nU} (hm:KZ m) (h1:0≤b.2.2.1) (h2:b.2.2.1≤2000) (h3:b.2.2.2.1.length≤2000):kG n b m=some (b.2.2.1,Cj b m,()):=TQ hm h1 h2 h3
def turn (was mode fl:Int):Int:=
 if mode=2 then IntKind.i64.wrap ((BitVec.ofInt (IntKind.bits .i64) was ||| BitVec.ofInt (IntKind.bits .i64) fl).toNat) else if mode=3 then IntKind.i64.wrap ((BitVec.ofInt (IntKind.bits .i64) was &&& ~~~ BitVec.ofInt (IntKind.bits .i64) fl).toNat) else fl
def nH (o:OpC) (m:nU):nU:=if o.2.2.2.1.contains m.1=true then (m.1,turn m.2.1 o.2.2.2.2.1 o.2.2.2.2.2.1,m.2.2) else m
def M0 (o:OpC) (b:Bx):Bx:=(b.1,b.2.1,b.2.2.1,b.2.2.2.1.map (nH o),())
def Pe (o:OpC) (b:Bx):List Int:=(b.2.2.2.1.filter fun m=>o.2.2.2.1.contains m.1).map (·.1)
theorem flags {n:Nat} (a m f:Int):uT n a m f=some (turn a m f,()):=by
 unfold uT turn
 by_cases h2:m=2
 ·simp [h2]
 ·by_cases h3:m=3 <;> simp [h2,h3]
theorem Ri {A:Type} {p:A→Bool} {x:A} (h:p x=false):[x].filter p=[]:=by simp [List.filter_cons,h]
theorem one_pos {A:Type} {p:A→Bool} {x:A} (h:p x=true):[x].filter p=[x]:=by simp [List.filter_cons,h]
theorem Ua {A:Type} {f:A→A} {xs:List A} {i:Nat} (hi:i<xs.length) (h:f xs[i]=xs[i]):(xs.map f).take i++xs.drop i=(xs.map f).take (i+1)++xs.drop (i+1):=by
 have h1:=Ap (xs:=xs) (ys:=xs.map f) (by simp) hi xs[i] (by simp [h])
 rw [←h1]
 symm
 have hl:i<((xs.map f).take i++xs.drop i).length:=by simp; omega
 have hg:=FJ (xs:=xs) (ys:=xs.map f) (by simp) hi xs[i]
 rw [List.getD_eq_getElem?_getD,List.getElem?_eq_getElem hl] at hg
 simp only [Option.getD_some] at hg
 conv=>lhs; rw [←hg]
 exact List.set_getElem_self hl
theorem X3 {n:Nat} {b:Bx} {o:OpC} (hb:b.2.2.2.1.length≤big) (ho:o.2.2.2.1.length≤big) (hn:big<n):wY n b o=some (Pe o b,M0 o b,()):=by
 have hb':=hb
 unfold big at hb
 unfold wY
 obtain ⟨nm,va,ne,ms,u⟩:=b
 have hb:ms.length≤1048576:=hb
 refine (aM (fun i=>(o,(i:Int),(nm,va,ne,(ms.map (nH o)).take i++ms.drop i,()),((ms.take i).filter fun m=>o.2.2.2.1.contains m.1).map (·.1),())) (fun _=>none) (some (Pe o (nm,va,ne,ms,()),M0 o (nm,va,ne,ms,()),())) (m:=ms.length) (by simp) (by unfold big at hn; omega) ?_ ?_).trans (bG (fun _ _ _=>rfl))
 ·intro L i hi _
  have hy:(ms.map (nH o)).length=ms.length:=by simp
  have hlen:=Dn (xs:=ms) (ys:=ms.map (nH o)) hy (Nat.le_of_lt hi)
  have hget:=FJ (xs:=ms) (ys:=ms.map (nH o)) hy hi dM
  have ht:ms.take (i+1)=ms.take i++[ms[i]]:=by simp
  have hl1:(((ms.take i).filter fun m=>o.2.2.2.1.contains m.1).map (·.1)).length≤i:=by
   rw [List.length_map]; exact Nat.le_trans (List.length_filter_le _ _) (by simp; omega)
  simp only [hlen,Int.ofNat_lt,hi,decide_true,if_true,aG hi,Int.toNat_natCast,fH,hget,has ho hn,Option.bind_some,flags,aN hi (by omega)]
  cases hc:o.2.2.2.1.contains ms[i].1 with
  | false=>
   have hf:nH o ms[i]=ms[i]:=by unfold nH; rw [hc]; rfl
   rw [if_neg Bool.false_ne_true,Ua hi hf,ht,List.filter_append,Ri (p:=fun m:nU=>o.2.2.2.1.contains m.1) hc,List.append_nil]
  | true=>
   have hset:=Ap (xs:=ms) (ys:=ms.map (nH o)) hy hi (ms[i].1,turn ms[i].2.1 o.2.2.2.2.1 o.2.2.2.2.2.1,ms[i].2.2) (by rw [List.getElem_map]; unfold nH; rw [if_pos hc])
   have hgs:((ms.map (nH o)).take (i+1)++ms.drop (i+1)).getD i dM=(ms[i].1,turn ms[i].2.1 o.2.2.2.2.1 o.2.2.2.2.2.1,ms[i].2.2):=by
    rw [←hset,List.getD_eq_getElem?_getD,List.getElem?_set_self (by omega)]; rfl
   simp only [if_true,hset,hgs,List.length_singleton]
   rw [if_pos (by omega),ht,List.filter_append,one_pos (p:=fun m:nU=>o.2.2.2.1.contains m.1) hc,List.map_append]
   rfl
 ·intro L _
  have ht:(ms.map (nH o)).take ms.length=ms.map (nH o):=List.take_of_length_le (by simp)
  simp only [ht,List.length_map,Int.lt_irrefl,decide_false,Bool.false_eq_true,if_false,List.take_length,List.drop_length,List.append_nil]
  rfl
theorem X0 {n:Nat} {b:Bx} {o:OpC} (hb:b.2.2.2.1.length≤big) (ho:o.2.2.2.1.length≤big) (hn:big<n) (hm:1≤o.2.2.2.2.1∧o.2.2.2.2.1≤3):nM n b o=some (Pe o b,M0 o b,()):=by
 have hb':=hb
 unfold big at hb
 unfold nM
 obtain ⟨nm,va,ne,ms,u⟩:=b
 have hb:ms.length≤1048576:=hb
 refine (aM (fun i=>((ms.length:Int),(i:Int),(nm,va,ne,(ms.map (nH o)).take i++ms.drop i,()),o,((ms.take i).filter fun m=>o.2.2.2.1.contains m.1).map (·.1),())) (fun _=>none) (some (Pe o (nm,va,ne,ms,()),M0 o (nm,va,ne,ms,()),())) (m:=ms.length) (by simp) (by unfold big at hn; omega) ?_ ?_).trans (bG (fun _ _ _=>rfl))
 ·intro L i hi _
  have hy:(ms.map (nH o)).length=ms.length:=by simp
  have hlen:=Dn (xs:=ms) (ys:=ms.map (nH o)) hy (Nat.le_of_lt hi)
  have hget:=FJ (xs:=ms) (ys:=ms.map (nH o)) hy hi dM
  have ht:ms.take (i+1)=ms.take i++[ms[i]]:=by simp
  have hl1:(((ms.take i).filter fun m=>o.2.2.2.1.contains m.1).map (·.1)).length≤i:=by
   rw [List.length_map]; exact Nat.le_trans (List.length_filter_le _ _) (by simp; omega)
  simp only [hlen,Int.ofNat_lt,hi,decide_true,if_true,aG hi,Int.toNat_natCast,fH,hget,contains ho hn,Option.bind_some,aN hi (by omega)]
  cases hc:o.2.2.2.1.contains ms[i].1 with
  | false=>
   have hf:nH o ms[i]=ms[i]:=by unfold nH; rw [hc]; rfl
   rw [Bool.not_false,if_pos rfl,Ua hi hf,ht,List.filter_append,Ri (p:=fun m:nU=>o.2.2.2.1.contains m.1) hc,List.append_nil]
  | true=>
   have hset:=Ap (xs:=ms) (ys:=ms.map (nH o)) hy hi (ms[i].1,turn ms[i].2.1 o.2.2.2.2.1 o.2.2.2.2.2.1,ms[i].2.2) (by rw [List.getElem_map]; unfold nH; rw [if_pos hc])
   rw [Bool.not_true,if_neg Bool.false_ne_true]
   simp only [List.length_singleton]
   rw [if_pos (by omega),ht,List.filter_append,one_pos (p:=fun m:nU=>o.2.2.2.1.contains m.1) hc,List.map_append, ←hset]
   unfold turn
   by_cases h1:o.2.2.2.2.1=1
   ·simp [h1]
   ·by_cases h2:o.2.2.2.2.1=2
    ·simp [h2]
    ·have h3:o.2.2.2.2.1=3:=by omega
     simp [h3]
 ·intro L _
  have ht:(ms.map (nH o)).take ms.length=ms.map (nH o):=List.take_of_length_le (by simp)
  simp only [ht,Int.lt_irrefl,decide_false,Bool.false_eq_true,if_false,List.take_length,List.drop_length,List.append_nil]
  rfl
theorem YJ (us:List Int) (u f:Int):jW.pick us 0 u f=us.contains u:=by
 unfold jW.pick
 rw [show BitVec.ofInt (IntKind.bits .i64) f &&& BitVec.ofInt (IntKind.bits .i64) 0=BitVec.ofInt (IntKind.bits .i64) 0 from BitVec.and_zero]
 have:(IntKind.i64.wrap ((BitVec.ofInt (IntKind.bits .i64) 0).toNat:Int))=0:=by decide
 rw [this]
 simp
def aak (b:Bx):List Int:=(b.2.2.2.1.filter fun m=>kP.del m.2.1).map (·.1)
def abb (b:Bx):Bx:=(b.1,b.2.1,b.2.2.1,b.2.2.2.1.filter (fun m=>!kP.del m.2.1),())
theorem ag1 {n:Nat} {b:Bx} (hb:b.2.2.2.1.length≤big) (hn:big<n):gy n b=some (aak b,abb b,()):=by
 unfold big at hb hn
 show kP.Bt n b=_
 unfold kP.Bt
 rw [if_pos ⟨by omega,by omega⟩]
 rfl
theorem YW {n:Nat} {b:Bx} (hb:b.2.2.2.1.length≤big) (hn:big<n):gp n b [] 8=some (b.2.2.2.1.filter (fun m=>kP.del m.2.1),abb b,()):=by
 unfold big at hb hn
 show jW.Ef jW.pick n b [] 8=_
 unfold jW.Ef
 rw [if_pos ⟨by omega,by omega,by simp,by simp; omega⟩]
 rfl
def dG (o:OpC) (b:Bx):List nU:=b.2.2.2.1.filter fun m=>o.2.2.2.1.contains m.1
def aeE (o:OpC) (b:Bx):Bx:=(b.1,b.2.1,b.2.2.1,b.2.2.2.1.filter (fun m=>!o.2.2.2.1.contains m.1),())
theorem PY {n:Nat} {b:Bx} {o:OpC} (hb:b.2.2.2.1.length≤big) (ho:o.2.2.2.1.length≤big) (hn:big<n):gp n b o.2.2.2.1 0=some (dG o b,aeE o b,()):=by
 have hb':=hb
 have ho':=ho
 unfold big at hb ho hn
 show jW.Ef jW.pick n b o.2.2.2.1 0=_
 unfold jW.Ef
 rw [if_pos ⟨by omega,by omega,by omega,by omega⟩]
 simp only [YJ]
 rfl
def fZ (b:Bx) (l:List nU):Bx:=l.foldl Cj b
def Bo (b:Bx):Nat→List Int
 | 0=>[]
 | k+1=>Bo b k++[b.2.2.1+(k:Int)]
theorem xw (b:Bx):∀k,(Bo b k).length=k
 | 0=>rfl
 | k+1=>by simp [Bo,xw b k]
theorem TP (b:Bx) (l:List nU) (m:nU):fZ b (l++[m])=Cj (fZ b l) m:=by simp [fZ]
theorem Kr (b:Bx):∀l:List nU,(fZ b l).2.2.1=b.2.2.1+(l.length:Int)∧(fZ b l).2.2.2.1.length=b.2.2.2.1.length+l.length:=by
 intro l
 induction l generalizing b with
 | nil=>simp [fZ]
 | cons m l ih=>
  have:=ih (Cj b m)
  simp only [fZ,List.foldl_cons,List.length_cons] at this ⊢
  rw [this.1,this.2]
  simp [Cj]
  omega
theorem PL {l:List nU}:∀{b:Bx},okB b→(∀m∈l,KZ m)→b.2.2.2.1.length+l.length≤big→okB (fZ b l):=by
 induction l with
 | nil=>intro b h _ _; exact h
 | cons m l ih=>
  intro b h hl hb
  simp only [List.length_cons] at hb
  refine ih (b:=Cj b m) ⟨h.1, ?_, ?_⟩ (fun x hx=>hl x (by simp [hx])) ?_
  ·simp only [Cj,List.length_append,List.length_singleton]; omega
  ·intro x hx
   simp only [Cj,List.mem_append,List.mem_singleton] at hx
   rcases hx with hx | rfl
   ·exact h.2.2 x hx
   ·exact hl m (by simp)
  ·simp only [Cj,List.length_append,List.length_singleton]; omega
theorem Fb {A:Type} {xs:List A} {k:Nat} (h:k<xs.length) (y d:A):(xs.set k y).getD k d=y:=by
 rw [List.getD_eq_getElem?_getD,List.getElem?_set_self h]; rfl
theorem getD_lt {A:Type} {xs:List A} {k:Nat} (h:k<xs.length) (d:A):xs.getD k d=xs[k]:=by
 rw [List.getD_eq_getElem?_getD,List.getElem?_eq_getElem h]; rfl
theorem abS {A:Type} {xs:List A} {k:Nat} (h:k<xs.length) (d:A):xs.set k (xs.getD k d)=xs:=by
 rw [List.getD_eq_getElem?_getD,List.getElem?_eq_getElem h]
 exact List.set_getElem_self h
theorem TS {s:ni} {k j:Nat} {l:List nU} {b:Bx} (hk:k<s.2.1.length) (hj:j<l.length) :
  ((s.2.1.set k (fZ b (l.take j))).set k (Cj (fZ b (l.take j)) l[j]))=s.2.1.set k (fZ b (l.take (j+1))):=by
 rw [List.set_set, ←TP]
 congr 2
 simp
theorem Mw {n:Nat} {s:ni} {at':Int} {k:Nat} {o:OpC} {part:Bx} {l:List nU} {b:Bx} {fin:Int×OpC×Int×Int×ni×Bx×List nU×List Int×Unit→Option (List Int×Int×ni×Unit)}
  {B:(Int×OpC×Int×Int×ni×Bx×List nU×List Int×Unit→Option (List Int×Int×ni×Unit))→Int×OpC×Int×Int×ni×Bx×List nU×List Int×Unit→Option (List Int×Int×ni×Unit)}
  (hB:∀L v,B L v=(if decide (v.2.2.2.1<(v.2.2.2.2.2.2.1.length:Int))=true then (if aH v.2.2.2.1 v.2.2.2.2.2.2.1.length then ((nS n (v.2.2.2.2.1.2.1.getD v.2.2.1.toNat dB) (v.2.2.2.2.2.2.1.getD v.2.2.2.1.toNat dM)).bind fun r5=>(if (v.2.2.2.2.2.2.2.1.length+[r5.1].length) * 8≤140737488355328 then L (v.1,v.2.1,v.2.2.1,IntKind.i64.wrap (v.2.2.2.1+(1:Int)),(v.2.2.2.2.1.1,v.2.2.2.2.1.2.1.set v.2.2.1.toNat r5.2.1,v.2.2.2.2.1.2.2),v.2.2.2.2.2.1,v.2.2.2.2.2.2.1,v.2.2.2.2.2.2.2.1++[r5.1],()) else none)) else none) else fin v))
  (hk:k<s.2.1.length) (hb:s.2.1.getD k dB=b) (hl:∀m∈l,KZ m) (hl6:l.length≤6) (h1:0≤b.2.2.1) (h2:b.2.2.1≤1000) (h3:b.2.2.2.1.length≤6) (hn:big<n) :
  rounds B n (at',o,(k:Int),(0:Int),s,part,l,[],())=fin (at',o,(k:Int),(l.length:Int),(s.1,s.2.1.set k (fZ b l),()),part,l,Bo b l.length,()):=by
 have hn':1048576<n:=hn
 refine (aM (fun j=>(at',o,(k:Int),(j:Int),(s.1,s.2.1.set k (fZ b (l.take j)),()),part,l,Bo b j,())) (fun _=>none) (fin (at',o,(k:Int),(l.length:Int),(s.1,s.2.1.set k (fZ b l),()),part,l,Bo b l.length,())) (m:=l.length) ?_ (by omega) ?_ ?_).trans (bG (fun _ _ _=>rfl))
 ·rw [List.take_zero]
  show _=(_,_,_,_,(s.1,s.2.1.set k b,()),_,_,[],())
  rw [←hb,abS hk]
  rfl
 ·intro L j hj _
  have hp:=Kr b (l.take j)
  have hlt:(l.take j).length=j:=by simp; omega
  rw [hlt] at hp
  have hput:=TR (n:=n) (b:=fZ b (l.take j)) (m:=l[j]) (hl _ (List.getElem_mem hj)) (by rw [hp.1]; omega) (by rw [hp.1]; omega) (by rw [hp.2]; omega)
  simp only [hB,Int.ofNat_lt,hj,decide_true,if_true,aG hj,Int.toNat_natCast,getD_lt hj,Fb hk,hput,Option.bind_some,aN hj (by omega),xw,List.length_singleton,TS hk hj]
  rw [if_pos (by omega),hp.1]
  rfl
 ·intro L _
  simp only [hB,Int.lt_irrefl,decide_false,Bool.false_eq_true,if_false,List.take_length]
theorem Mv {n:Nat} {s:ni} {at':Int} {k:Nat} {o:OpC} {l:List nU} {b:Bx} {fin:Int×Int×Int×Int×ni×OpC×List nU×List Int×Unit→Option (List Int×Int×ni×Unit)}
  {B:(Int×Int×Int×Int×ni×OpC×List nU×List Int×Unit→Option (List Int×Int×ni×Unit))→Int×Int×Int×Int×ni×OpC×List nU×List Int×Unit→Option (List Int×Int×ni×Unit)}
  (hB:∀L v,B L v=(if decide (v.2.2.2.1<v.2.2.1)=true then (if aH v.2.2.2.1 v.2.2.2.2.2.2.1.length then ((kG n (v.2.2.2.2.1.2.1.getD v.2.1.toNat dB) (v.2.2.2.2.2.2.1.getD v.2.2.2.1.toNat dM)).bind fun r6=>(if (v.2.2.2.2.2.2.2.1.length+[r6.1].length) * 8≤140737488355328 then L (v.1,v.2.1,v.2.2.1,IntKind.i64.wrap (v.2.2.2.1+(1:Int)),(v.2.2.2.2.1.1,v.2.2.2.2.1.2.1.set v.2.1.toNat r6.2.1,v.2.2.2.2.1.2.2),v.2.2.2.2.2.1,v.2.2.2.2.2.2.1,v.2.2.2.2.2.2.2.1++[r6.1],()) else none)) else none) else fin v))
  (hk:k<s.2.1.length) (hb:s.2.1.getD k dB=b) (hl:∀m∈l,KZ m) (hl6:l.length≤6) (h1:0≤b.2.2.1) (h2:b.2.2.1≤1000) (h3:b.2.2.2.1.length≤6) (hn:big<n) :
  rounds B n (at',(k:Int),(l.length:Int),(0:Int),s,o,l,[],())=fin (at',(k:Int),(l.length:Int),(l.length:Int),(s.1,s.2.1.set k (fZ b l),()),o,l,Bo b l.length,()):=by
 have hn':1048576<n:=hn
 refine (aM (fun j=>(at',(k:Int),(l.length:Int),(j:Int),(s.1,s.2.1.set k (fZ b (l.take j)),()),o,l,Bo b j,())) (fun _=>none) (fin (at',(k:Int),(l.length:Int),(l.length:Int),(s.1,s.2.1.set k (fZ b l),()),o,l,Bo b l.length,())) (m:=l.length) ?_ (by omega) ?_ ?_).trans (bG (fun _ _ _=>rfl))
 ·rw [List.take_zero]
  show _=(_,_,_,_,(s.1,s.2.1.set k b,()),_,_,[],())
  rw [←hb,abS hk]
  rfl
 ·intro L j hj _
  have hp:=Kr b (l.take j)
  have hlt:(l.take j).length=j:=by simp; omega
  rw [hlt] at hp
  have hput:=YL (n:=n) (b:=fZ b (l.take j)) (m:=l[j]) (hl _ (List.getElem_mem hj)) (by rw [hp.1]; omega) (by rw [hp.1]; omega) (by rw [hp.2]; omega)
  simp only [hB,Int.ofNat_lt,hj,decide_true,if_true,aG hj,Int.toNat_natCast,getD_lt hj,Fb hk,hput,Option.bind_some,aN hj (by omega),xw,List.length_singleton,TS hk hj]
  rw [if_pos (by omega),hp.1]
  rfl
 ·intro L _
  simp only [hB,Int.lt_irrefl,decide_false,Bool.false_eq_true,if_false,List.take_length]
theorem Pv {n:Nat} {ms:List nU} {o:OpC} {a b:Int} {s:ni} {fin:Int×Int×List nU×Int×Int×ni×OpC×List nU×Unit→Option (List Int×Int×ni×Unit)}
  {B:(Int×Int×List nU×Int×Int×ni×OpC×List nU×Unit→Option (List Int×Int×ni×Unit))→Int×Int×List nU×Int×Int×ni×OpC×List nU×Unit→Option (List Int×Int×ni×Unit)}
  (hB:∀L v,B L v=(if decide (v.2.2.2.2.1<v.2.2.2.1)=true then (if aH v.2.2.2.2.1 v.2.2.1.length then ((aW n v.2.2.2.2.2.2.1.2.2.2.1 ((v.2.2.1.getD v.2.2.2.2.1.toNat dM).1)).bind fun r3=>(if r3.1=true then (if (v.2.2.2.2.2.2.2.1.length+[v.2.2.1.getD v.2.2.2.2.1.toNat dM].length) * 48≤140737488355328 then L (v.1,v.2.1,v.2.2.1,v.2.2.2.1,IntKind.i64.wrap (v.2.2.2.2.1+(1:Int)),v.2.2.2.2.2.1,v.2.2.2.2.2.2.1,v.2.2.2.2.2.2.2.1++[v.2.2.1.getD v.2.2.2.2.1.toNat dM],()) else none) else L (v.1,v.2.1,v.2.2.1,v.2.2.2.1,IntKind.i64.wrap (v.2.2.2.2.1+(1:Int)),v.2.2.2.2.2.1,v.2.2.2.2.2.2.1,v.2.2.2.2.2.2.2.1,()))) else none) else fin v))
  (hb:ms.length≤big) (ho:o.2.2.2.1.length≤big) (hn:big<n) :
  rounds B n (a,b,ms,(ms.length:Int),(0:Int),s,o,[],())=fin (a,b,ms,(ms.length:Int),(ms.length:Int),s,o,ms.filter (fun m=>o.2.2.2.1.contains m.1),()):=by
 have hb':ms.length≤1048576:=hb
 refine (aM (fun i=>(a,b,ms,(ms.length:Int),(i:Int),s,o,(ms.take i).filter (fun m=>o.2.2.2.1.contains m.1),())) (fun _=>none) (fin (a,b,ms,(ms.length:Int),(ms.length:Int),s,o,ms.filter (fun m=>o.2.2.2.1.contains m.1),())) (m:=ms.length) (by simp) (by omega) ?_ ?_).trans (bG (fun _ _ _=>rfl))
 ·intro L i hi _
  have ht:ms.take (i+1)=ms.take i++[ms[i]]:=by simp
  have hl:((ms.take i).filter fun m=>o.2.2.2.1.contains m.1).length≤i:=Nat.le_trans (List.length_filter_le _ _) (by simp; omega)
  simp only [hB,Int.ofNat_lt,hi,decide_true,if_true,aG hi,dR hi,contains ho hn,Option.bind_some,aN hi (by omega),List.length_singleton,ht,List.filter_append]
  cases hc:o.2.2.2.1.contains ms[i].1 with
  | false=>rw [if_neg Bool.false_ne_true,Ri (p:=fun m:nU=>o.2.2.2.1.contains m.1) hc,List.append_nil]
  | true=>rw [if_pos rfl,if_pos (by omega),one_pos (p:=fun m:nU=>o.2.2.2.1.contains m.1) hc]
 ·intro L _
  simp only [hB,Int.lt_irrefl,decide_false,Bool.false_eq_true,if_false,List.take_length]
def Rt (b:Bx):Prop:=(0≤b.2.2.1∧b.2.2.1≤1000)∧b.2.2.2.1.length≤6
def CY (s:ni) (i k:Nat) (o:OpC):List Int×Int×ni×Unit:=
 if (s.2.1.getD k dB).2.2.2.1.length+(dG o (s.2.1.getD i dB)).length>6 then ([],10,s,()) else
 if (s.2.1.getD k dB).2.2.1+((dG o (s.2.1.getD i dB)).length:Int)>1000 then ([],10,s,()) else
 (Bo (s.2.1.getD k dB) (dG o (s.2.1.getD i dB)).length,0,(s.1,if o.1=6 then (s.2.1.set k (fZ (s.2.1.getD k dB) (dG o (s.2.1.getD i dB)))).set i (aeE o (s.2.1.getD i dB)) else s.2.1.set k (fZ (s.2.1.getD k dB) (dG o (s.2.1.getD i dB))),()),())
def carried (s:ni) (i:Nat) (o:OpC):List Int×Int×ni×Unit:=
 if Dq s o.2.2.1<0 then ([],4,s,()) else if o.1=6∧Dq s o.2.2.1=(i:Int) then ([],9,s,()) else CY s i (Dq s o.2.2.1).toNat o
theorem dZ {A:Type} {xs:List A} {k:Nat} (h:k<xs.length) (d:A):xs.getD k d∈xs:=by
 rw [getD_lt h]; exact List.getElem_mem h
theorem adp {n:Nat} {s:ni} {i:Nat} {o:OpC} (hs:Dp s) (ho:okO o) (hsm:∀b∈s.2.1,Rt b) (hi:i<s.2.1.length) (hn:big<n):uS n s (i:Int) o=some (carried s i o):=by
 unfold uS carried
 rw [agR hs.1 hn]
 simp only [Option.bind_some]
 rcases qN s o.2.2.1 with h | ⟨k,h,hk⟩
 ·rw [h]; rfl
 ·rw [h]
  have h0:¬((k:Int)<0):=by omega
  rw [decide_eq_false h0,if_neg Bool.false_ne_true,if_neg h0]
  have hA:=hsm _ (dZ hi dB)
  have hK:=hsm _ (dZ hk dB)
  have hAo:=hs.2 _ (dZ hi dB)
  have hKo:=hs.2 _ (dZ hk dB)
  have hT:(dG o (s.2.1.getD i dB)).length≤6:=Nat.le_trans (List.length_filter_le _ _) hA.2
  have hTo:∀m∈dG o (s.2.1.getD i dB),KZ m:=fun m hm=>hAo.2.2 m (List.mem_filter.1 hm).1
  have hK2:=hK.2
  have hK1:=hK.1
  by_cases h6:o.1=6
  ·rw [decide_eq_true h6,if_pos rfl]
   by_cases he:(k:Int)=(i:Int)
   ·rw [decide_eq_true he,if_pos rfl,if_pos ⟨h6,he⟩]
   ·rw [decide_eq_false he,if_neg Bool.false_ne_true,if_neg (show ¬(o.1=6∧(k:Int)=(i:Int)) from fun h=>he h.2),if_pos (aG hi)]
    simp only [Int.toNat_natCast,JQ hAo hn,Option.bind_some,PY hAo.2.1 ho.2.2.1 hn,if_pos (aG hk)]
    unfold CY
    have w1:IntKind.i64.wrap (((s.2.1.getD k dB).2.2.2.1.length:Int)+((dG o (s.2.1.getD i dB)).length:Int))=((s.2.1.getD k dB).2.2.2.1.length:Int)+((dG o (s.2.1.getD i dB)).length:Int):=wrap_i64 (by omega) (by omega)
    have w2:IntKind.i64.wrap ((s.2.1.getD k dB).2.2.1+((dG o (s.2.1.getD i dB)).length:Int))=(s.2.1.getD k dB).2.2.1+((dG o (s.2.1.getD i dB)).length:Int):=wrap_i64 (by omega) (by omega)
    simp only [w1,w2]
    by_cases c1:(s.2.1.getD k dB).2.2.2.1.length+(dG o (s.2.1.getD i dB)).length>6
    ·have c1':((s.2.1.getD k dB).2.2.2.1.length:Int)+((dG o (s.2.1.getD i dB)).length:Int)>6:=by omega
     simp only [c1,c1',decide_true,if_true]
    ·have c1':¬(((s.2.1.getD k dB).2.2.2.1.length:Int)+((dG o (s.2.1.getD i dB)).length:Int)>6):=by omega
     simp only [c1,c1',decide_false,Bool.false_eq_true,if_false]
     by_cases c2:(s.2.1.getD k dB).2.2.1+((dG o (s.2.1.getD i dB)).length:Int)>1000
     ·simp only [c2,decide_true,if_true]
     ·simp only [c2,decide_false,Bool.false_eq_true,if_false]
      refine (Mw (s:=s) (k:=k) (l:=dG o (s.2.1.getD i dB)) (b:=s.2.1.getD k dB) (fun _ _=>rfl) hk rfl hTo hT hK1.1 hK1.2 hK2 hn).trans ?_
      have hi2:i<(s.2.1.set k (fZ (s.2.1.getD k dB) (dG o (s.2.1.getD i dB)))).length:=by simpa using hi
      simp only [h6,decide_true,if_true,if_pos (aG hi2),Int.toNat_natCast]
  ·rw [decide_eq_false h6,if_neg Bool.false_ne_true,if_neg (show ¬(o.1=6∧(k:Int)=(i:Int)) from fun h=>h6 h.1),if_pos (aG hi)]
   simp only [Int.toNat_natCast,JQ hAo hn,Option.bind_some,PY hAo.2.1 ho.2.2.1 hn,if_pos (aG hk)]
   unfold CY
   have w1:IntKind.i64.wrap (((s.2.1.getD k dB).2.2.2.1.length:Int)+((dG o (s.2.1.getD i dB)).length:Int))=((s.2.1.getD k dB).2.2.2.1.length:Int)+((dG o (s.2.1.getD i dB)).length:Int):=wrap_i64 (by omega) (by omega)
   have w2:IntKind.i64.wrap ((s.2.1.getD k dB).2.2.1+((dG o (s.2.1.getD i dB)).length:Int))=(s.2.1.getD k dB).2.2.1+((dG o (s.2.1.getD i dB)).length:Int):=wrap_i64 (by omega) (by omega)
   simp only [w1,w2]
   by_cases c1:(s.2.1.getD k dB).2.2.2.1.length+(dG o (s.2.1.getD i dB)).length>6
   ·have c1':((s.2.1.getD k dB).2.2.2.1.length:Int)+((dG o (s.2.1.getD i dB)).length:Int)>6:=by omega
    simp only [c1,c1',decide_true,if_true]
   ·have c1':¬(((s.2.1.getD k dB).2.2.2.1.length:Int)+((dG o (s.2.1.getD i dB)).length:Int)>6):=by omega
    simp only [c1,c1',decide_false,Bool.false_eq_true,if_false]
    by_cases c2:(s.2.1.getD k dB).2.2.1+((dG o (s.2.1.getD i dB)).length:Int)>1000
    ·simp only [c2,decide_true,if_true]
    ·simp only [c2,decide_false,Bool.false_eq_true,if_false]
     refine (Mw (s:=s) (k:=k) (l:=dG o (s.2.1.getD i dB)) (b:=s.2.1.getD k dB) (fun _ _=>rfl) hk rfl hTo hT hK1.1 hK1.2 hK2 hn).trans ?_
     simp only [h6,decide_false,Bool.false_eq_true,if_false]
theorem getD_set_ne {A:Type} {xs:List A} {i k:Nat} (h:k≠i) (y d:A):(xs.set k y).getD i d=xs.getD i d:=by
 rw [List.getD_eq_getElem?_getD,List.getD_eq_getElem?_getD,List.getElem?_set_ne h]
theorem acW {n:Nat} {ms:List nU} {o:OpC} (hb:ms.length≤big) (ho:o.2.2.2.1.length≤big) (hn:big<n) :
  aF n ms o=some (((ms.filter fun m=>!o.2.2.2.1.contains m.1).length:Int),(ms.filter fun m=>!o.2.2.2.1.contains m.1)++List.replicate (ms.length - (ms.filter fun m=>!o.2.2.2.1.contains m.1).length) dM,()):=by
 unfold big at hb ho hn
 show nK.Jj n ms o=_
 unfold nK.Jj
 rw [if_pos ⟨by omega,by omega,by omega,by omega⟩]
 rfl
theorem copied {n:Nat} {s:ni} {i:Nat} {o:OpC} (hs:Dp s) (ho:okO o) (hsm:∀b∈s.2.1,Rt b) (hi:i<s.2.1.length) (hn:big<n):lI n s (i:Int) o=some (carried s i o):=by
 unfold lI carried
 rw [box hs.1 hn]
 simp only [Option.bind_some]
 rcases qN s o.2.2.1 with h | ⟨k,h,hk⟩
 ·rw [h]; rfl
 ·rw [h]
  have h0:¬((k:Int)<0):=by omega
  rw [decide_eq_false h0,if_neg Bool.false_ne_true,if_neg h0]
  have hA:=hsm _ (dZ hi dB)
  have hK:=hsm _ (dZ hk dB)
  have hAo:=hs.2 _ (dZ hi dB)
  have hKo:=hs.2 _ (dZ hk dB)
  have hT:(dG o (s.2.1.getD i dB)).length≤6:=Nat.le_trans (List.length_filter_le _ _) hA.2
  have hTo:∀m∈dG o (s.2.1.getD i dB),KZ m:=fun m hm=>hAo.2.2 m (List.mem_filter.1 hm).1
  have hK2:=hK.2
  have hK1:=hK.1
  have w1:IntKind.i64.wrap (((s.2.1.getD k dB).2.2.2.1.length:Int)+((dG o (s.2.1.getD i dB)).length:Int))=((s.2.1.getD k dB).2.2.2.1.length:Int)+((dG o (s.2.1.getD i dB)).length:Int):=wrap_i64 (by omega) (by omega)
  have w2:IntKind.i64.wrap ((s.2.1.getD k dB).2.2.1+((dG o (s.2.1.getD i dB)).length:Int))=(s.2.1.getD k dB).2.2.1+((dG o (s.2.1.getD i dB)).length:Int):=wrap_i64 (by omega) (by omega)
  have hlist:(s.2.1.getD i dB).2.2.2.1.filter (fun m=>o.2.2.2.1.contains m.1)=dG o (s.2.1.getD i dB):=rfl
  by_cases h6:o.1=6
  ·rw [decide_eq_true h6,if_pos rfl]
   by_cases he:(k:Int)=(i:Int)
   ·rw [decide_eq_true he,if_pos rfl,if_pos ⟨h6,he⟩]
   ·rw [decide_eq_false he,if_neg Bool.false_ne_true,if_neg (show ¬(o.1=6∧(k:Int)=(i:Int)) from fun h=>he h.2),if_pos (aG hi)]
    simp only [Int.toNat_natCast]
    refine (Pv (s:=s) (o:=o) (a:=(i:Int)) (b:=(k:Int)) (ms:=(s.2.1.getD i dB).2.2.2.1) (fun _ _=>rfl) hAo.2.1 ho.2.2.1 hn).trans ?_
    simp only [if_pos (aG hk),Int.toNat_natCast,hlist,w1]
    unfold CY
    by_cases c1:(s.2.1.getD k dB).2.2.2.1.length+(dG o (s.2.1.getD i dB)).length>6
    ·have c1':((s.2.1.getD k dB).2.2.2.1.length:Int)+((dG o (s.2.1.getD i dB)).length:Int)>6:=by omega
     simp only [c1,c1',decide_true,if_true]
    ·have c1':¬(((s.2.1.getD k dB).2.2.2.1.length:Int)+((dG o (s.2.1.getD i dB)).length:Int)>6):=by omega
     have hlen:eG n (dG o (s.2.1.getD i dB))=some (((dG o (s.2.1.getD i dB)).length:Int),()):=rfl
     simp only [c1,c1',decide_false,Bool.false_eq_true,if_false,hlen,Option.bind_some,w2]
     by_cases c2:(s.2.1.getD k dB).2.2.1+((dG o (s.2.1.getD i dB)).length:Int)>1000
     ·simp only [c2,decide_true,if_true]
     ·simp only [c2,decide_false,Bool.false_eq_true,if_false]
      refine (Mv (s:=s) (k:=k) (l:=dG o (s.2.1.getD i dB)) (b:=s.2.1.getD k dB) (fun _ _=>rfl) hk rfl hTo hT hK1.1 hK1.2 hK2 hn).trans ?_
      have hki:k≠i:=fun h=>he (by omega)
      have hi2:i<(s.2.1.set k (fZ (s.2.1.getD k dB) (dG o (s.2.1.getD i dB)))).length:=by simpa using hi
      simp only [h6,decide_true,if_true,if_pos (aG hi2),Int.toNat_natCast,fH,getD_set_ne hki,acW hAo.2.1 ho.2.2.1 hn,Option.bind_some,List.set_set,Fb hi2,List.take_left']
      rfl
  ·rw [decide_eq_false h6,if_neg Bool.false_ne_true,if_neg (show ¬(o.1=6∧(k:Int)=(i:Int)) from fun h=>h6 h.1),if_pos (aG hi)]
   simp only [Int.toNat_natCast]
   refine (Pv (s:=s) (o:=o) (a:=(i:Int)) (b:=(k:Int)) (ms:=(s.2.1.getD i dB).2.2.2.1) (fun _ _=>rfl) hAo.2.1 ho.2.2.1 hn).trans ?_
   simp only [if_pos (aG hk),Int.toNat_natCast,hlist,w1]
   unfold CY
   by_cases c1:(s.2.1.getD k dB).2.2.2.1.length+(dG o (s.2.1.getD i dB)).length>6
   ·have c1':((s.2.1.getD k dB).2.2.2.1.length:Int)+((dG o (s.2.1.getD i dB)).length:Int)>6:=by omega
    simp only [c1,c1',decide_true,if_true]
   ·have c1':¬(((s.2.1.getD k dB).2.2.2.1.length:Int)+((dG o (s.2.1.getD i dB)).length:Int)>6):=by omega
    have hlen:eG n (dG o (s.2.1.getD i dB))=some (((dG o (s.2.1.getD i dB)).length:Int),()):=rfl
    simp only [c1,c1',decide_false,Bool.false_eq_true,if_false,hlen,Option.bind_some,w2]
    by_cases c2:(s.2.1.getD k dB).2.2.1+((dG o (s.2.1.getD i dB)).length:Int)>1000
    ·simp only [c2,decide_true,if_true]
    ·simp only [c2,decide_false,Bool.false_eq_true,if_false]
     refine (Mv (s:=s) (k:=k) (l:=dG o (s.2.1.getD i dB)) (b:=s.2.1.getD k dB) (fun _ _=>rfl) hk rfl hTo hT hK1.1 hK1.2 hK2 hn).trans ?_
     simp only [h6,decide_false,Bool.false_eq_true,if_false]
abbrev CP:=Int×List Int×ni×Unit
def bad (c:Int):CP:=(c,[],(0,[],()),())
def IC (s:ni) (o:OpC):List Int×Int×ni×Unit:=
 if Dq s o.2.1≥0 then ([],6,s,()) else if s.2.1.length=3 then ([],10,s,()) else if s.1=1000 then ([],10,s,()) else ([],0,(s.1+1,s.2.1++[(o.2.1,s.1,1,[],())],()),())
def ZN (s:ni) (i:Nat) (o:OpC):List Int×Int×ni×Unit:=
 if (s.2.1.getD i dB).2.2.2.1.length=6 then ([],10,s,()) else if (s.2.1.getD i dB).2.2.1=1000 then ([],10,s,()) else
  ([(s.2.1.getD i dB).2.2.1],0,(s.1,s.2.1.set i (Cj (s.2.1.getD i dB) (0,o.2.2.2.2.2.1,o.2.2.2.2.2.2.1,o.2.2.2.2.2.2.2.1,())),()),())
def TU (s:ni) (i:Nat) (o:OpC):List Int×Int×ni×Unit:=
 if o.1=2 then ([],0,(s.1,s.2.1.take i++s.2.1.drop (i+1),()),()) else
 if o.1=3 then ZN s i o else
 if o.1=4 then (Pe o (s.2.1.getD i dB),0,(s.1,s.2.1.set i (M0 o (s.2.1.getD i dB)),()),()) else
 if o.1=7 then (aak (s.2.1.getD i dB),0,(s.1,s.2.1.set i (abb (s.2.1.getD i dB)),()),()) else carried s i o
def rV (s:ni) (o:OpC):List Int×Int×ni×Unit:=
 if o.1=1 then IC s o else if Dq s o.2.1<0 then ([],4,s,()) else TU s (Dq s o.2.1).toNat o
def Ck (r:List Int×Int×ni×Unit):CP:=if r.2.1=0 then (0,r.1,r.2.2.1,()) else bad r.2.1
structure Fit (s:ni) (o:OpC):Prop where
 Dp:Dp s
 okO:okO o
 val:1≤s.1∧s.1≤1000
 few:s.2.1.length≤3
 small:∀b∈s.2.1,Rt b
 mode:o.1=4→1≤o.2.2.2.2.1∧o.2.2.2.2.1≤3
theorem made {n:Nat} {s:ni} {o:OpC} (h:Fit s o) (hn:big<n):o7 n s o.2.1=some ((IC s o).2.1,(IC s o).2.2.1,())∧(IC s o).1=[]:=by
 have hf:=h.few
 have hv:=h.val
 unfold o7 IC
 rw [box h.Dp.1 hn]
 simp only [Option.bind_some]
 by_cases c0:Dq s o.2.1≥0
 ·simp only [c0,decide_true,if_true,and_self]
 ·simp only [c0,decide_false,Bool.false_eq_true,if_false]
  by_cases c1:s.2.1.length=3
  ·simp only [c1,if_true]
   exact ⟨rfl,trivial⟩
  ·have:¬(s.2.1.length:Int)=3:=by omega
   simp only [c1,this,decide_false,Bool.false_eq_true,if_false]
   by_cases c2:s.1=1000
   ·simp only [c2,decide_true,if_true,and_self]
   ·simp only [c2,decide_false,Bool.false_eq_true,if_false,List.length_singleton,and_true]
    rw [if_pos (by omega),wrap_i64 (by omega) (by omega)]
theorem agS {n:Nat} {s:ni} {o:OpC} (h:Fit s o) (hn:big<n):w9 n s o=some (Ck (IC s o),()):=by
 have hf:=h.few
 have hv:=h.val
 unfold w9 IC
 rw [agR h.Dp.1 hn]
 simp only [Option.bind_some]
 by_cases c0:Dq s o.2.1≥0
 ·simp only [c0,decide_true,if_true]; rfl
 ·simp only [c0,decide_false,Bool.false_eq_true,if_false]
  by_cases c1:s.2.1.length=3
  ·have:(s.2.1.length:Int)≥3:=by omega
   simp only [c1,this,decide_true,if_true]; rfl
  ·have:¬(s.2.1.length:Int)≥3:=by omega
   simp only [c1,this,decide_false,Bool.false_eq_true,if_false]
   by_cases c2:s.1=1000
   ·have:s.1≥1000:=by omega
    simp only [c2,decide_true,if_true]; rfl
   ·have:¬s.1≥1000:=by omega
    simp only [c2,this,decide_false,Bool.false_eq_true,if_false,Vv h.Dp hn,Option.bind_some,List.length_singleton]
    rw [if_pos (by omega),wrap_i64 (by omega) (by omega)]
    rfl
theorem VG {o:OpC} (ho:okO o):KZ (0,o.2.2.2.2.2.1,o.2.2.2.2.2.2.1,o.2.2.2.2.2.2.2.1,()):=ho.2.2.2
theorem UH {n:Nat} {s:ni} {o:OpC} (h:Fit s o) (hn:big<n):nN n s o=some (rV s o):=by
 unfold nN rV
 by_cases k1:o.1=1
 ·obtain ⟨h1,h2⟩:=made h hn
  simp only [k1,decide_true,if_true,h1,Option.bind_some]
  rw [←h2]
 ·simp only [k1,decide_false,Bool.false_eq_true,if_false,box h.Dp.1 hn,Option.bind_some]
  rcases qN s o.2.1 with hp | ⟨i,hp,hi⟩
  ·rw [hp]; rfl
  ·rw [hp]
   have h0:¬((i:Int)<0):=by omega
   simp only [h0,decide_false,Bool.false_eq_true,if_false,if_pos (aG hi),Int.toNat_natCast]
   have hB:=h.small _ (dZ hi dB)
   have Vn:=h.Dp.2 _ (dZ hi dB)
   have hB1:=hB.1
   have hB2:=hB.2
   have hf:=h.few
   unfold TU
   by_cases k2:o.1=2
   ·have hw:IntKind.i64.wrap ((i:Int)+1)=((i+1:Nat):Int):=aN hi (by omega)
    have hdel:bQ n s.2.1 (i:Int) ((i+1:Nat):Int)=some (((s.2.1.length - 1:Nat):Int),s.2.1.take i++s.2.1.drop (i+1)++[dB],()):=by
     show nK.MI dB s.2.1 (i:Int) ((i+1:Nat):Int)=_
     unfold nK.MI
     rw [if_pos ⟨by omega,by omega,by omega⟩]
     simp only [Int.toNat_natCast,Nat.add_sub_cancel_left]
     rfl
    have hl:(s.2.1.take i++s.2.1.drop (i+1)).length=s.2.1.length - 1:=by simp; omega
    simp only [k2,decide_true,if_true,hw,hdel,Option.bind_some,Int.toNat_natCast]
    rw [←hl,List.take_left']
    rfl
   ·simp only [k2,decide_false,Bool.false_eq_true,if_false]
    by_cases k3:o.1=3
    ·simp only [k3,decide_true,if_true]
     unfold ZN
     by_cases c1:(s.2.1.getD i dB).2.2.2.1.length=6
     ·simp only [c1,if_true]
      rfl
     ·have:¬((s.2.1.getD i dB).2.2.2.1.length:Int)=6:=by omega
      simp only [c1,this,decide_false,Bool.false_eq_true,if_false]
      by_cases c2:(s.2.1.getD i dB).2.2.1=1000
      ·simp only [c2,decide_true,if_true]
      ·have hput:=TQ (n:=n) (b:=s.2.1.getD i dB) (VG h.okO) (by omega) (by omega) (by omega)
       simp only [c2,decide_false,Bool.false_eq_true,if_false,hput,Option.bind_some]
    ·simp only [k3,decide_false,Bool.false_eq_true,if_false]
     by_cases k4:o.1=4
     ·simp only [k4,decide_true,if_true,X0 Vn.2.1 h.okO.2.2.1 hn (h.mode k4),Option.bind_some]
     ·simp only [k4,decide_false,Bool.false_eq_true,if_false]
      by_cases k7:o.1=7
      ·simp only [k7,decide_true,if_true,ag1 Vn.2.1 hn,Option.bind_some]
      ·simp only [k7,decide_false,Bool.false_eq_true,if_false,copied h.Dp h.okO h.small hi hn,Option.bind_some]
theorem X6 {n:Nat} {ms:List nU} {r0:CP} {st:ni} {c:Int} {B:(Int×CP×CP×List nU×Unit→Option (CP×Unit))→Int×CP×CP×List nU×Unit→Option (CP×Unit)}
  (hB:∀L v,B L v=(if decide (v.1<(v.2.2.2.1.length:Int))=true then (if aH v.1 v.2.2.2.1.length then (if (v.2.2.1.2.1.length+[(v.2.2.2.1.getD v.1.toNat dM).1].length) * 8≤140737488355328 then L (IntKind.i64.wrap (v.1+(1:Int)),v.2.1,(v.2.2.1.1,v.2.2.1.2.1++[(v.2.2.2.1.getD v.1.toNat dM).1],v.2.2.1.2.2),v.2.2.2.1,()) else none) else none) else some (v.2.2.1,())))
  (hb:ms.length≤big) (hn:big<n):rounds B n ((0:Int),r0,(c,[],st,()),ms,())=some ((c,ms.map (·.1),st,()),()):=by
 have hb':ms.length≤1048576:=hb
 refine (aM (fun i=>((i:Int),r0,(c,(ms.take i).map (·.1),st,()),ms,())) (fun _=>none) (some ((c,ms.map (·.1),st,()),())) (m:=ms.length) (by simp) (by omega) ?_ ?_).trans (bG (fun _ _ _=>rfl))
 ·intro L i hi _
  have ht:ms.take (i+1)=ms.take i++[ms[i]]:=by simp
  have hl:((ms.take i).map (·.1)).length≤i:=by simp; omega
  simp only [hB,Int.ofNat_lt,hi,decide_true,if_true,aG hi,dR hi,aN hi (by omega),List.length_singleton,ht,List.map_append,List.map_cons,List.map_nil]
  rw [if_pos (by omega)]
 ·intro L _
  simp only [hB,Int.lt_irrefl,decide_false,Bool.false_eq_true,if_false,List.take_length]
theorem UI {n:Nat} {s:ni} {o:OpC} (h:Fit s o) (hn:big<n):uR n s o=some (Ck (rV s o),()):=by
 unfold uR rV
 by_cases k1:o.1=1
 ·simp only [k1,decide_true,if_true,agS h hn,Option.bind_some]
 ·simp only [k1,decide_false,Bool.false_eq_true,if_false,agR h.Dp.1 hn,Option.bind_some]
  rcases qN s o.2.1 with hp | ⟨i,hp,hi⟩
  ·rw [hp]; rfl
  ·rw [hp]
   have h0:¬((i:Int)<0):=by omega
   simp only [h0,decide_false,Bool.false_eq_true,if_false,Vv h.Dp hn,Option.bind_some,if_pos (aG hi),Int.toNat_natCast]
   have hB:=h.small _ (dZ hi dB)
   have Vn:=h.Dp.2 _ (dZ hi dB)
   have hB1:=hB.1
   have hB2:=hB.2
   have hf:=h.few
   unfold TU
   by_cases k2:o.1=2
   ·have hw:IntKind.i64.wrap ((i:Int)+1)=((i+1:Nat):Int):=aN hi (by omega)
    simp only [k2,decide_true,if_true,hw,Int.toNat_natCast]
    rw [if_pos ⟨by omega,by omega⟩,if_pos (by simp; omega),if_pos ⟨by omega,by omega⟩,if_pos (by simp; omega)]
    rfl
   ·simp only [k2,decide_false,Bool.false_eq_true,if_false]
    by_cases k3:o.1=3
    ·simp only [k3,decide_true,if_true]
     unfold ZN
     by_cases c1:(s.2.1.getD i dB).2.2.2.1.length=6
     ·have:((s.2.1.getD i dB).2.2.2.1.length:Int)≥6:=by omega
      simp only [c1,this,decide_true,if_true]; rfl
     ·have:¬((s.2.1.getD i dB).2.2.2.1.length:Int)≥6:=by omega
      simp only [c1,this,decide_false,Bool.false_eq_true,if_false]
      by_cases c2:(s.2.1.getD i dB).2.2.1=1000
      ·have:(s.2.1.getD i dB).2.2.1≥1000:=by omega
       simp only [c2,this,decide_true,if_true]; rfl
      ·have:¬(s.2.1.getD i dB).2.2.1≥1000:=by omega
       have hput:=TR (n:=n) (b:=s.2.1.getD i dB) (VG h.okO) (by omega) (by omega) (by omega)
       simp only [c2,this,decide_false,Bool.false_eq_true,if_false,hput,Option.bind_some]
       rfl
    ·simp only [k3,decide_false,Bool.false_eq_true,if_false]
     by_cases k4:o.1=4
     ·simp only [k4,decide_true,if_true,X3 Vn.2.1 h.okO.2.2.1 hn,Option.bind_some]
      rfl
     ·simp only [k4,decide_false,Bool.false_eq_true,if_false]
      by_cases k7:o.1=7
      ·simp only [k7,decide_true,if_true,YW Vn.2.1 hn,Option.bind_some]
       exact X6 (fun _ _=>rfl) (Nat.le_trans (List.length_filter_le _ _) Vn.2.1) hn
      ·simp only [k7,decide_false,Bool.false_eq_true,if_false,adp h.Dp h.okO h.small hi hn,Option.bind_some]
       unfold Ck
       by_cases c:(carried s i o).2.1=0
       ·simp only [c,decide_true,Bool.not_true,Bool.false_eq_true,if_false,if_true]
       ·simp only [c,decide_false,Bool.not_false,if_true,if_false]; rfl
theorem copies {n:Nat} (k:Int):iP n k=some (decide (k=5) || decide (k=6),()):=by
 unfold iP
 cases decide (k=5) <;> rfl
theorem aas {n:Nat} (o:OpC):oG n o=some (decide (o.1=5) || decide (o.1=6),()):=copies (n:=n) o.1
theorem ac9 {n:Nat} (o:OpC):kI n o=some ((decide (o.1=5) || decide (o.1=6)) || decide (o.1=4),()):=by
 unfold kI
 rw [aas]
 simp only [Option.bind_some]
 cases (decide (o.1=5) || decide (o.1=6)) <;> rfl
theorem af9 (k:Nat):decide ((k:Int)>0)=!decide ((k:Int)=0):=by
 by_cases h:k=0
 ·subst h; rfl
 ·rw [decide_eq_true (by omega),decide_eq_false (by omega)]; rfl
def EI (o:OpC):Bool:=(((decide (o.1=5) || decide (o.1=6)) || decide (o.2.2.1=[])) && ((((decide (o.1=5) || decide (o.1=6)) || decide (o.1=4)) || decide ((o.2.2.2.1.length:Int)=0)) && ((decide (o.1=4) || decide (o.2.2.2.2.1=0)) &&
 ((decide (o.1=4) || (decide (o.1=3) || decide (o.2.2.2.2.2.1=0))) && (decide (o.1=3) || (decide (o.2.2.2.2.2.2.1=0) && decide ((o.2.2.2.2.2.2.2.1.length:Int)=0)))))))
set_option maxRecDepth 20000 in
theorem only {n:Nat} (o:OpC):qQ n o=some (EI o,()):=by
 unfold qQ EI
 simp only [aas,ac9,Option.bind_some]
 generalize (decide (o.1=5) || decide (o.1=6))=c
 generalize decide (o.2.2.1=[])=b1
 generalize decide (o.1=4)=b2
 generalize decide ((o.2.2.2.1.length:Int)=0)=b3
 generalize decide (o.2.2.2.2.1=0)=b4
 generalize decide (o.1=3)=b5
 generalize decide (o.2.2.2.2.2.1=0)=b6
 generalize decide (o.2.2.2.2.2.2.1=0)=b7
 generalize decide ((o.2.2.2.2.2.2.2.1.length:Int)=0)=b8
 revert c b1 b2 b3 b4 b5 b6 b7 b8
 decide +kernel
set_option maxRecDepth 20000 in
theorem form {n:Nat} (o:OpC):wZ n o=some (decide (1≤o.1∧o.1≤7) && EI o,()):=by
 unfold wZ EI
 simp only [EP,copies,Option.bind_some,af9]
 generalize (decide (o.1=5) || decide (o.1=6))=c
 generalize decide (o.2.2.1=[])=b1
 generalize decide (o.1=4)=b2
 generalize decide ((o.2.2.2.1.length:Int)=0)=b3
 generalize decide (o.2.2.2.2.1=0)=b4
 generalize decide (o.1=3)=b5
 generalize decide (o.2.2.2.2.2.1=0)=b6
 generalize decide (o.2.2.2.2.2.2.1=0)=b7
 generalize decide ((o.2.2.2.2.2.2.2.1.length:Int)=0)=b8
 generalize decide (1≤o.1∧o.1≤7)=b9
 revert c b1 b2 b3 b4 b5 b6 b7 b8 b9
 decide +kernel
def Mo (us:List Int) (j:Nat):Bool:=!decide (1≤us.getD j 0∧us.getD j 0≤999) || (decide ((j:Int)>0) && decide (us.getD j 0≤us.getD (j - 1) 0))
theorem P6 {n:Nat} {us:List Int} (hb:us.length≤big) (hn:big<n):oP n us=bY (fun j=>if Mo us j=true then some (some (false,())) else none) (some (true,())) us.length 0:=by
 have hb':us.length≤1048576:=hb
 unfold oP
 refine aM (fun i=>(us,(i:Int),())) (fun j=>if Mo us j=true then some (some (false,())) else none) (some (true,())) (m:=us.length) rfl (by omega) ?_ ?_
 ·intro L i hi _
  simp only [Int.ofNat_lt,hi,decide_true,if_true,aG hi,Int.toNat_natCast,EP,Option.bind_some,aN hi (by omega)]
  unfold Mo
  cases h1:decide (1≤us.getD i 0∧us.getD i 0≤999) with
  | false=>rfl
  | true=>
   cases i with
   | zero=>rfl
   | succ j=>
    have hj:j<us.length:=by omega
    rw [decide_eq_true (show ((j+1:Nat):Int)>0 by omega),J8 hj (by omega)]
    simp only [aG hj,if_true,Int.toNat_natCast,Nat.add_sub_cancel,Bool.not_true,Bool.false_eq_true,if_false,Bool.false_or,Bool.true_and]
    by_cases hle:us.getD (j+1) 0≤us.getD j 0
    ·simp only [hle,decide_true,if_true]
    ·simp only [hle,decide_false,Bool.false_eq_true,if_false]
 ·intro L _
  simp
theorem P5 {n:Nat} {us:List Int} (hb:us.length≤big) (hn:big<n):mD n us=bY (fun j=>if Mo us j=true then some (some (false,())) else none) (some (true,())) us.length 0:=by
 have hb':us.length≤1048576:=hb
 unfold mD
 refine aM (fun i=>(us,us,(us.length:Int),(i:Int),())) (fun j=>if Mo us j=true then some (some (false,())) else none) (some (true,())) (m:=us.length) rfl (by omega) ?_ ?_
 ·intro L i hi _
  have hu:qR n (us.getD i 0)=some (decide (1≤us.getD i 0∧us.getD i 0≤999),()):=by
   unfold qR
   rw [nE,EP]; rfl
  simp only [Int.ofNat_lt,hi,decide_true,if_true,aG hi,Int.toNat_natCast,hu,Option.bind_some,aN hi (by omega)]
  unfold Mo
  cases h1:decide (1≤us.getD i 0∧us.getD i 0≤999) with
  | false=>rfl
  | true=>
   cases i with
   | zero=>rfl
   | succ j=>
    have hj:j<us.length:=by omega
    rw [decide_eq_true (show ((j+1:Nat):Int)>0 by omega),J8 hj (by omega)]
    simp only [aG hj,if_true,Int.toNat_natCast,Nat.add_sub_cancel,Bool.not_true,Bool.false_eq_true,if_false,Bool.false_or,Bool.true_and,ge_iff_le]
    cases decide (us.getD (j+1) 0≤us.getD j 0) <;> rfl
 ·intro L _
  simp
def Fv (us:List Int):Bool:=((bY (fun j=>if Mo us j=true then some (some (false,())) else none) (some (true,())) us.length 0).getD (false,())).1
theorem Fw (us:List Int):bY (fun j=>if Mo us j=true then some (some (false,())) else none) (some (true,())) us.length 0=some (Fv us,()):=by
 unfold Fv
 rcases Im (step:=fun j=>if Mo us j=true then some (some (false,())) else none) (fin:=some (true,())) (r:=some (false,())) (fun j=>by by_cases h:Mo us j=true <;> simp [h]) (m:=us.length) (i:=0) with h | h <;> rw [h] <;> rfl
def jh (o:OpC):Int:=
 if (!(decide (1≤o.1∧o.1≤7) && EI o))=true then 1 else
 if (!decide (rJ o.2.1) || ((decide (o.1=5) || decide (o.1=6)) && !decide (rJ o.2.2.1)))=true then 5 else
 if decide ((o.2.2.2.1.length:Int)>6)=true then 2 else
 if (!Fv o.2.2.2.1 || (decide (o.1=4) && !decide (1≤o.2.2.2.2.1∧o.2.2.2.2.1≤3)) || !decide (0≤o.2.2.2.2.2.1∧o.2.2.2.2.2.1≤15) || !decide (0≤o.2.2.2.2.2.2.1∧o.2.2.2.2.2.2.1≤9999))=true then 3 else
 if decide ((o.2.2.2.2.2.2.2.1.length:Int)>400)=true then 2 else 0
set_option maxRecDepth 20000 in
theorem Gu {n:Nat} {o:OpC} (ho:okO o) (hn:big<n):qB n o=some (jh o,()):=by
 unfold qB jh
 simp only [form,(name_eq ho.1 hn).2,(name_eq ho.2.1 hn).2,copies,EP,P6 ho.2.2.1 hn,Fw,Option.bind_some]
 generalize (decide (1≤o.1∧o.1≤7) && EI o)=b0
 generalize decide (rJ o.2.1)=b1
 generalize (decide (o.1=5) || decide (o.1=6))=b2
 generalize decide (rJ o.2.2.1)=b3
 generalize decide ((o.2.2.2.1.length:Int)>6)=b4
 generalize Fv o.2.2.2.1=b5
 generalize decide (o.1=4)=b6
 generalize decide (1≤o.2.2.2.2.1∧o.2.2.2.2.1≤3)=b7
 generalize decide (0≤o.2.2.2.2.2.1∧o.2.2.2.2.2.1≤15)=b8
 generalize decide (0≤o.2.2.2.2.2.2.1∧o.2.2.2.2.2.2.1≤9999)=b9
 generalize decide ((o.2.2.2.2.2.2.2.1.length:Int)>400)=c
 revert b0 b1 b2 b3 b4 b5 b6 b7 b8 b9 c
 decide +kernel
set_option maxRecDepth 20000 in
theorem MW {n:Nat} {o:OpC} (ho:okO o) (hn:big<n):qw n o=some (jh o,()):=by
 have hfl:∀x,fE n x=some (decide (0≤x∧x≤15),()):=fun x=>by unfold fE; rw [nE,EP]; rfl
 have hda:∀x,iA n x=some (decide (0≤x∧x≤9999),()):=fun x=>by unfold iA; rw [nE,EP]; rfl
 unfold qw jh
 simp only [only,(name_eq ho.1 hn).1,(name_eq ho.2.1 hn).1,aas,nE,EP,P5 ho.2.2.1 hn,Fw,hfl,hda,Option.bind_some]
 generalize EI o=b0
 generalize decide (1≤o.1∧o.1≤7)=a0
 generalize decide (rJ o.2.1)=b1
 generalize (decide (o.1=5) || decide (o.1=6))=b2
 generalize decide (rJ o.2.2.1)=b3
 generalize decide ((o.2.2.2.1.length:Int)>6)=b4
 generalize Fv o.2.2.2.1=b5
 generalize decide (o.1=4)=b6
 generalize decide (1≤o.2.2.2.2.1∧o.2.2.2.2.1≤3)=b7
 generalize decide (0≤o.2.2.2.2.2.1∧o.2.2.2.2.2.1≤15)=b8
 generalize decide (0≤o.2.2.2.2.2.2.1∧o.2.2.2.2.2.2.1≤9999)=b9
 generalize decide ((o.2.2.2.2.2.2.2.1.length:Int)>400)=c
 revert a0 b0 b1 b2 b3 b4 b5 b6 b7 b8 b9 c
 decide +kernel
def okR (r:CP):Prop:=r.2.1.length≤big∧Dp r.2.2.1
theorem Lg (c:Int):okR (bad c):=by
 refine ⟨by simp [bad,big],by simp [bad,big],fun b hb=>?_⟩
 simp [bad] at hb
theorem II {s:ni} {i:Nat} {b:Bx} {v:Int} (hs:Dp s) (hb:okB b):Dp (v,s.2.1.set i b,()):=by
 refine ⟨by simpa using hs.1,fun x hx=>?_⟩
 rcases List.mem_or_eq_of_mem_set hx with h | rfl
 ·exact hs.2 x h
 ·exact hb
theorem ND {b:Bx} {p:nU→Bool} (h:okB b):okB (b.1,b.2.1,b.2.2.1,b.2.2.2.1.filter p,()):=
 ⟨h.1,Nat.le_trans (List.length_filter_le _ _) h.2.1,fun m hm=>h.2.2 m (List.mem_filter.1 hm).1⟩
theorem XI {s:ni} {i k:Nat} {o:OpC} (hs:Dp s) (hsm:∀b∈s.2.1,Rt b) (hi:i<s.2.1.length) (hk:k<s.2.1.length):(CY s i k o).1.length≤big∧Dp (CY s i k o).2.2.1:=by
 have hT:(dG o (s.2.1.getD i dB)).length≤6:=Nat.le_trans (List.length_filter_le _ _) (hsm _ (dZ hi dB)).2
 have hK:=(hsm _ (dZ hk dB)).2
 unfold CY
 split
 ·exact ⟨by simp [big],hs⟩
 ·split
  ·exact ⟨by simp [big],hs⟩
  ·have hP:okB (fZ (s.2.1.getD k dB) (dG o (s.2.1.getD i dB))):=PL (hs.2 _ (dZ hk dB)) (fun m hm=>(hs.2 _ (dZ hi dB)).2.2 m (List.mem_filter.1 hm).1) (by unfold big; omega)
   refine ⟨by rw [xw]; unfold big; omega, ?_⟩
   have h1:Dp (s.1,s.2.1.set k (fZ (s.2.1.getD k dB) (dG o (s.2.1.getD i dB))),()):=II hs hP
   by_cases h6:o.1=6
   ·simp only [h6,if_true]
    exact II (s:=(s.1,s.2.1.set k (fZ (s.2.1.getD k dB) (dG o (s.2.1.getD i dB))),())) h1 (ND (hs.2 _ (dZ hi dB)))
   ·simp only [h6,if_false]
    exact h1
theorem XC {s:ni} {o:OpC} (h:Fit s o):(rV s o).1.length≤big∧Dp (rV s o).2.2.1:=by
 have hs:=h.Dp
 have hf:=h.few
 unfold rV
 by_cases k1:o.1=1
 ·rw [if_pos k1]
  unfold IC
  split
  ·exact ⟨by simp [big],hs⟩
  ·split
   ·exact ⟨by simp [big],hs⟩
   ·split
    ·exact ⟨by simp [big],hs⟩
    ·refine ⟨by simp [big], ?_,fun b hb=>?_⟩
     ·simp [big]; omega
     ·rcases List.mem_append.1 hb with hb | hb
      ·exact hs.2 b hb
      ·simp only [List.mem_singleton] at hb
       subst hb
       exact ⟨h.okO.1,by simp [big],by simp⟩
 ·rw [if_neg k1]
  rcases qN s o.2.1 with hp | ⟨i,hp,hi⟩
  ·rw [hp,if_pos (by decide)]
   exact ⟨by simp [big],hs⟩
  ·rw [hp,if_neg (by omega),Int.toNat_natCast]
   have hB:=h.small _ (dZ hi dB)
   have Vn:=hs.2 _ (dZ hi dB)
   have hB2:=hB.2
   unfold TU
   split
   ·refine ⟨by simp [big], ?_,fun b hb=>?_⟩
    ·simp [big]; omega
    ·rcases List.mem_append.1 hb with hb | hb
     ·exact hs.2 b (List.mem_of_mem_take hb)
     ·exact hs.2 b (List.mem_of_mem_drop hb)
   ·split
    ·unfold ZN
     split
     ·exact ⟨by simp [big],hs⟩
     ·split
      ·exact ⟨by simp [big],hs⟩
      ·refine ⟨by simp [big],II hs (PL (l:=[_]) Vn (fun m hm=>?_) (by simp only [List.length_singleton]; unfold big; omega))⟩
       simp only [List.mem_singleton] at hm
       subst hm
       exact VG h.okO
    ·split
     ·refine ⟨?_,II hs ⟨Vn.1,by simpa [M0] using Vn.2.1,fun m hm=>?_⟩⟩
      ·unfold Pe
       rw [List.length_map]
       exact Nat.le_trans (List.length_filter_le _ _) Vn.2.1
      ·obtain ⟨x,hx,rfl⟩:=List.mem_map.1 hm
       unfold nH
       split
       ·exact Vn.2.2 x hx
       ·exact Vn.2.2 x hx
     ·split
      ·refine ⟨?_,II hs (ND Vn)⟩
       unfold aak
       rw [List.length_map]
       exact Nat.le_trans (List.length_filter_le _ _) Vn.2.1
      ·unfold carried
       split
       ·exact ⟨by simp [big],hs⟩
       ·split
        ·exact ⟨by simp [big],hs⟩
        ·rename_i hneg _
         rcases qN s o.2.2.1 with hp2 | ⟨k,hp2,hk⟩
         ·rw [hp2] at hneg; exact absurd (by decide) hneg
         ·rw [hp2,Int.toNat_natCast]
          exact XI hs h.small hi hk
theorem adx {s:ni} {o:OpC} (h:Fit s o):okR (Ck (rV s o)):=by
 unfold Ck
 split
 ·exact XC h
 ·exact Lg _
theorem fit {s:ni} {o:OpC} (hs:Dp s) (ho:okO o) (hg:Al s) (hf:jh o=0):Fit s o:=by
 refine ⟨hs,ho,hg.1,hg.2.1,fun b hb=>?_,fun h4=>?_⟩
 ·obtain ⟨i,hi,rfl⟩:=List.mem_iff_getElem.1 hb
  have:=(hg.2.2 i hi).1
  rw [getD_lt hi] at this
  obtain ⟨_,_,h3,h4,_⟩:=this
  exact ⟨⟨by omega,h3.2⟩,h4⟩
 ·unfold jh at hf
  split at hf
  ·omega
  ·split at hf
   ·omega
   ·split at hf
    ·omega
    ·split at hf
     ·omega
     ·rename_i hc
      rw [decide_eq_true h4] at hc
      simp only [Bool.not_eq_true,Bool.or_eq_false_iff,Bool.true_and] at hc
      have:=hc.1.1.2
      simpa using this
theorem Qu {n:Nat} {s:ni} {o:OpC} (hs:Dp s) (ho:okO o) (hg:Al s) (hn:big<n):∃r:CP,uQ n s o=some (r,())∧uE n s o=some (r,())∧okR r∧
  ((jh o=0∧r=Ck (rV s o))∨(jh o≠0∧r=bad (jh o))):=by
 obtain ⟨he,c,hc,hgc⟩:=MV hs hn
 have h0:=hgc.2 hg
 unfold uQ uE
 rw [hc]
 simp only [Option.bind_some,h0,decide_true,Bool.not_true,Bool.false_eq_true,if_false,Gu ho hn,MW ho hn]
 by_cases h1:jh o=0
 ·have hF:=fit hs ho hg h1
  simp only [h1,decide_true,Bool.not_true,Bool.false_eq_true,if_false,UI hF hn,own hs hn,UH hF hn,Option.bind_some]
  refine ⟨Ck (rV s o),rfl, ?_,adx hF, .inl ⟨trivial,rfl⟩⟩
  unfold Ck
  by_cases h2:(rV s o).2.1=0
  ·simp only [h2,decide_true,Bool.not_true,Bool.false_eq_true,if_false,if_true]
  ·simp only [h2,decide_false,Bool.not_false,if_true,if_false]
   rfl
 ·refine ⟨bad (jh o), ?_, ?_,Lg _, .inr ⟨h1,rfl⟩⟩
  ·simp only [h1,decide_false,Bool.not_false,if_true]; rfl
  ·simp only [h1,decide_false,Bool.not_false,if_true]; rfl
end Go.Proofs.YtdknpknohipffaaGreat.jV
