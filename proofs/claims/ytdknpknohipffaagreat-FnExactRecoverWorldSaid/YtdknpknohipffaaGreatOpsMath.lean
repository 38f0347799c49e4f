/- Ops on stores: what the printed functions of both sides come to. -/
import Derived.Test.YtdknpknohipffaaGreatOwF
import Derived.Test.YtdknpknohipffaaGreatLoopLib
import Derived.Test.YtdknpknohipffaaGreatCutLib
import Derived.Test.YtdknpknohipffaaGreatTakeLib
import Derived.Test.YtdknpknohipffaaGreatStoreMath
import Derived.Test.YtdknpknohipffaaGreatRwF
set_option linter.unusedSectionVars false
set_option linter.unusedVariables false
set_option linter.unusedSimpArgs false
namespace Go.Proofs.YtdknpknohipffaaGreat.kR
open Go Go.Proofs.YtdknpknohipffaaGreat.Ow Go.Proofs.YtdknpknohipffaaGreat.Uf Go.Proofs.YtdknpknohipffaaGreat.nW Go.Proofs.YtdknpknohipffaaGreat.iI
abbrev OpC:=Int×List Int×List Int×List Int×Int×Int×Int×List Int×Unit
def okO (o:OpC):Prop:=o.2.1.length≤big∧o.2.2.1.length≤big∧o.2.2.2.1.length≤big∧o.2.2.2.2.2.2.2.1.length≤big
theorem Nq {n:Nat} {bs:List Int} (h:bs.length≤big):jq n bs=some (bs,()):=by
 unfold big at h
 unfold jq
 rw [if_pos (by simp; omega)]
 rfl
theorem clone {n:Nat} {bs:List Int} (h:bs.length≤big):bO n bs=some (bs,()):=by
 unfold big at h
 unfold bO
 have hc:(([]:List Int).length+bs.length) * 1≤140737488355328:=by simp; omega
 simp only [if_pos hc]
 cases bs with
 | nil=>exact (if_pos (show ([]:List Int).isEmpty=true from rfl)).trans (R5 (ks:=[.sl 5 (.int .u8)]) (some (([]:List Int),())))
 | cons b bs=>rfl
theorem Vn {n:Nat} {ms:List nX} (hb:ms.length≤big) (h:∀m∈ms,KT m) (hn:big<n):pI n ms=some (ms,()):=by
 have hb':=hb
 unfold big at hb
 unfold pI
 refine (aO (fun i=>(ms,(i:Int),ms.take i,())) (fun _=>none) (some (ms,())) (m:=ms.length) (by simp) (by omega) ?_ ?_).trans (bJ (fun _ _ _=>rfl))
 ·intro L i hi _
  have ht:ms.take (i+1)=ms.take i++[ms[i]]:=by simp
  have hl:(ms.take i).length≤i:=by simp; omega
  simp only [Int.ofNat_lt,hi,decide_true,if_true,aG hi,dU hi,aN hi (by omega),Nq (h ms[i] (List.getElem_mem hi)),Option.bind_some,List.length_singleton,ht]
  rw [if_pos (by omega)]
 ·intro L _
  simp
theorem JN {n:Nat} {b:Bx} (h:okB b) (hn:big<n):jD n b=some (b,()):=by
 unfold jD
 rw [Vn h.2.1 h.2.2 hn]
 rfl
theorem QV {n:Nat} {s:nA} (h:Cy s) (hn:big<n):lC n s=some (s,()):=by
 have hb:=h.1
 unfold big at hb
 unfold lC
 refine (aO (fun i=>((i:Int),s,(0,[],()),(s.1,s.2.1.take i,()),())) (fun _=>none) (some (s,())) (m:=s.2.1.length) (by simp) (by have:=h.1; omega) ?_ ?_).trans (bJ (fun _ _ _=>rfl))
 ·intro L i hi _
  have ht:s.2.1.take (i+1)=s.2.1.take i++[s.2.1[i]]:=by simp
  have hl:(s.2.1.take i).length≤i:=by simp; omega
  simp only [Int.ofNat_lt,hi,decide_true,if_true,aG hi,dU hi,aN hi (by omega),JN (h.2 _ (List.getElem_mem hi)) hn,Option.bind_some,List.length_singleton,ht]
  rw [if_pos (by omega)]
 ·intro L _
  simp
theorem own {n:Nat} {s:nA} (h:Cy s) (hn:big<n):jA n s=some (s,()):=by
 have hb:=h.1
 unfold big at hb
 unfold jA
 refine (aO (fun i=>(s.2.1,(s.2.1.length:Int),(i:Int),(0,[],()),(s.1,s.2.1.take i,()),())) (fun _=>none) (some (s,())) (m:=s.2.1.length) (by simp) (by have:=h.1; omega) ?_ ?_).trans (bJ (fun _ _ _=>rfl))
 ·intro L i hi _
  have ht:s.2.1.take (i+1)=s.2.1.take i++[s.2.1[i]]:=by simp
  have hl:(s.2.1.take i).length≤i:=by simp; omega
  simp only [Int.ofNat_lt,hi,decide_true,if_true,aG hi,dU hi]
  have hB:=h.2 _ (List.getElem_mem hi)
  generalize s.2.1[i]=b at hB ht ⊢
  have hb2:=hB.2.1
  unfold big at hb2
  refine (aO (fun j=>(s.2.1,(s.2.1.length:Int),(i:Int),b.2.2.2.1,(b.2.2.2.1.length:Int),(j:Int),(0,[],()),(s.1,s.2.1.take i,()),(b.1,b.2.1,b.2.2.1,b.2.2.2.1.take j,()),())) (fun _=>none) (L (s.2.1,(s.2.1.length:Int),((i+1:Nat):Int),(0,[],()),(s.1,s.2.1.take (i+1),()),())) (m:=b.2.2.2.1.length) (by simp) (by have:=hB.2.1; omega) ?_ ?_).trans (bJ (fun _ _ _=>rfl))
  ·intro L2 j hj _
   have htj:b.2.2.2.1.take (j+1)=b.2.2.2.1.take j++[b.2.2.2.1[j]]:=by simp
   have hlj:(b.2.2.2.1.take j).length≤j:=by simp; omega
   simp only [Int.ofNat_lt,hj,decide_true,if_true,aG hj,dU hj,aN hj (by omega),clone (hB.2.2 _ (List.getElem_mem hj)),Option.bind_some,List.length_singleton,htj]
   rw [if_pos (by omega)]
  ·intro L2 _
   simp only [Int.lt_irrefl,decide_false,Bool.false_eq_true,if_false,List.take_length,List.length_singleton,aN hi (by omega),ht]
   rw [if_pos (by omega)]
 ·intro L _
  simp
def Dn (s:nA) (nm:List Int):Int:=if s.2.1.findIdx (fun b=>decide (b.1=nm))<s.2.1.length then ((s.2.1.findIdx (fun b=>decide (b.1=nm)):Nat):Int) else -1
theorem qN (s:nA) (nm:List Int):Dn s nm=-1∨∃i:Nat,Dn s nm=(i:Int)∧i<s.2.1.length:=by
 unfold Dn
 split
 ·exact .inr ⟨_,rfl,by assumption⟩
 ·exact .inl rfl
theorem agH {n:Nat} {s:nA} {nm:List Int} (hb:s.2.1.length≤big) (hn:big<n):tV n s nm=some (Dn s nm,()):=by
 have hb':=hb
 unfold big at hb
 unfold tV
 refine (aO (fun i=>(s,nm,(i:Int),())) (fun j=>if decide ((s.2.1.getD j dB).1=nm)=true then some (some ((j:Int),())) else none) (some (-1,())) (m:=s.2.1.length) rfl (by omega) ?_ ?_).trans ?_
 ·intro L i hi _
  simp only [Int.ofNat_lt,hi,decide_true,if_true,aG hi,Int.toNat_natCast,aN hi (by omega)]
  split <;> rfl
 ·intro L _
  simp
 ·rw [nM.De (p:=fun b:Bx=>decide (b.1=nm)) (r:=fun j=>some ((j:Int),())) s.2.1.length 0 (by omega)]
  simp only [List.drop_zero,Nat.zero_add]
  unfold Dn
  split <;> rfl
theorem box {n:Nat} {s:nA} {nm:List Int} (hb:s.2.1.length≤big) (hn:big<n):jy n s nm=some (Dn s nm,()):=by
 unfold jy
 have h:bX n s.2.1 nm=some (_,()):=nM.Nj (p:=fun b:Bx=>decide (b.1=nm)) (q:=fun c x=>tJ n x c) (d:=dB) (fun _ _=>rfl) (fun _=>rfl) (by unfold big at hb; omega) (by omega)
 rw [h]
 rfl
theorem has {n:Nat} {us:List Int} {x:Int} (hb:us.length≤big) (hn:big<n):nT n us x=some (us.contains x,()):=
 jZ.SL (fun _ _=>rfl) (by unfold big at hb; omega) (by omega)
theorem contains {n:Nat} {us:List Int} {x:Int} (hb:us.length≤big) (hn:big<n):aW n us x=some (us.contains x,()):=
 nM.QE (fun _ _=>rfl) (by unfold big at hb; omega) (by omega)
def Ci (b:Bx) (m:nX):Bx:=(b.1,b.2.1,b.2.2.1+1,b.2.2.2.1++[(b.2.2.1,m.2.1,m.2.2.1,m.2.2.2.1,())],())
theorem TL {n:Nat} {b:Bx} {m:nX} (hm:KT m) (h1:0≤b.2.2.1) (h2:b.2.2.1≤2000) (h3:b.2.2.2.1.length≤2000):nU n b m=some (b.2.2.1,Ci b m,()):=by
 unfold nU
 rw [Nq hm]
 simp only [Option.bind_some,List.length_singleton]
 rw [if_pos (by omega),wrap_i64 (by omega) (by omega)]
 rfl
theorem TK {n:Nat} {b:Bx} {m:nX} (hm:KT m) (h1:0≤b.2.2.1) (h2:b.2.2.1≤2000) (h3:b.2.2.2.1.length≤2000):uE n b m=some (b.2.2.1,Ci b m,()):=by
 unfold uE
 rw [clone hm]
 simp only [Option.bind_some,List.length_singleton]
 rw [if_pos ⟨trivial,by omega⟩,wrap_i64 (x:=b.2.2.1+1) (by omega) (by omega),show b.2.2.1+1 - 1=b.2.2.1 by omega,wrap_i64 (by omega) (by omega)]
 rfl
theorem YE {n:Nat} {b:Bx} {m:nX} (hm:KT m) (h1:0≤b.2.2.1) (h2:b.2.2.1≤2000) (h3:b.2.2.2.1.length≤2000):kK n b m=some (b.2.2.1,Ci b m,()):=TK hm h1 h2 h3
def turn (was mode fl:Int):Int:=
 if mode=2 then IntKind.i64.wrap ((BitVec.ofInt (IntKind.bits .i64) was ||| BitVec.ofInt (IntKind.bits .i64) fl).toNat) else if mode=3 then IntKind.i64.wrap ((BitVec.ofInt (IntKind.bits .i64) was &&& ~~~ BitVec.ofInt (IntKind.bits .i64) fl).toNat) else fl
def nK (o:OpC) (m:nX):nX:=if o.2.2.2.1.contains m.1=true then (m.1,turn m.2.1 o.2.2.2.2.1 o.2.2.2.2.2.1,m.2.2) else m
def MZ (o:OpC) (b:Bx):Bx:=(b.1,b.2.1,b.2.2.1,b.2.2.2.1.map (nK o),())
def Pd (o:OpC) (b:Bx):List Int:=(b.2.2.2.1.filter fun m=>o.2.2.2.1.contains m.1).map (·.1)
theorem flags {n:Nat} (a m f:Int):uU n a m f=some (turn a m f,()):=by
 unfold uU turn
 by_cases h2:m=2
 ·simp [h2]
 ·by_cases h3:m=3 <;> simp [h2,h3]
theorem Q9 {A:Type} {p:A→Bool} {x:A} (h:p x=false):[x].filter p=[]:=by simp [List.filter_cons,h]
theorem one_pos {A:Type} {p:A→Bool} {x:A} (h:p x=true):[x].filter p=[x]:=by simp [List.filter_cons,h]
theorem TV {A:Type} {f:A→A} {xs:List A} {i:Nat} (hi:i<xs.length) (h:f xs[i]=xs[i]):(xs.map f).take i++xs.drop i=(xs.map f).take (i+1)++xs.drop (i+1):=by
 have h1:=Aq (xs:=xs) (ys:=xs.map f) (by simp) hi xs[i] (by simp [h])
 rw [←h1]
 symm
 have hl:i<((xs.map f).take i++xs.drop i).length:=by simp; omega
 have hg:=FC (xs:=xs) (ys:=xs.map f) (by simp) hi xs[i]
 rw [List.getD_eq_getElem?_getD,List.getElem?_eq_getElem hl] at hg
 simp only [Option.getD_some] at hg
 conv=>lhs; rw [←hg]
 exact List.set_getElem_self hl
theorem XV {n:Nat} {b:Bx} {o:OpC} (hb:b.2.2.2.1.length≤big) (ho:o.2.2.2.1.length≤big) (hn:big<n):wY n b o=some (Pd o b,MZ o b,()):=by
 have hb':=hb
 unfold big at hb
 unfold wY
 obtain ⟨nm,va,ne,ms,u⟩:=b
 have hb:ms.length≤1048576:=hb
 refine (aO (fun i=>(o,(i:Int),(nm,va,ne,(ms.map (nK o)).take i++ms.drop i,()),((ms.take i).filter fun m=>o.2.2.2.1.contains m.1).map (·.1),())) (fun _=>none) (some (Pd o (nm,va,ne,ms,()),MZ o (nm,va,ne,ms,()),())) (m:=ms.length) (by simp) (by unfold big at hn; omega) ?_ ?_).trans (bJ (fun _ _ _=>rfl))
 ·intro L i hi _
  have hy:(ms.map (nK o)).length=ms.length:=by simp
  have hlen:=Dm (xs:=ms) (ys:=ms.map (nK o)) hy (Nat.le_of_lt hi)
  have hget:=FC (xs:=ms) (ys:=ms.map (nK o)) hy hi dM
  have ht:ms.take (i+1)=ms.take i++[ms[i]]:=by simp
  have hl1:(((ms.take i).filter fun m=>o.2.2.2.1.contains m.1).map (·.1)).length≤i:=by
   rw [List.length_map]; exact Nat.le_trans (List.length_filter_le _ _) (by simp; omega)
  simp only [hlen,Int.ofNat_lt,hi,decide_true,if_true,aG hi,Int.toNat_natCast,fF,hget,has ho hn,Option.bind_some,flags,aN hi (by omega)]
  cases hc:o.2.2.2.1.contains ms[i].1 with
  | false=>
   have hf:nK o ms[i]=ms[i]:=by unfold nK; rw [hc]; rfl
   rw [if_neg Bool.false_ne_true,TV hi hf,ht,List.filter_append,Q9 (p:=fun m:nX=>o.2.2.2.1.contains m.1) hc,List.append_nil]
  | true=>
   have hset:=Aq (xs:=ms) (ys:=ms.map (nK o)) hy hi (ms[i].1,turn ms[i].2.1 o.2.2.2.2.1 o.2.2.2.2.2.1,ms[i].2.2) (by rw [List.getElem_map]; unfold nK; rw [if_pos hc])
   have hgs:((ms.map (nK o)).take (i+1)++ms.drop (i+1)).getD i dM=(ms[i].1,turn ms[i].2.1 o.2.2.2.2.1 o.2.2.2.2.2.1,ms[i].2.2):=by
    rw [←hset,List.getD_eq_getElem?_getD,List.getElem?_set_self (by omega)]; rfl
   simp only [if_true,hset,hgs,List.length_singleton]
   rw [if_pos (by omega),ht,List.filter_append,one_pos (p:=fun m:nX=>o.2.2.2.1.contains m.1) hc,List.map_append]
   rfl
 ·intro L _
  have ht:(ms.map (nK o)).take ms.length=ms.map (nK o):=List.take_of_length_le (by simp)
  simp only [ht,List.length_map,Int.lt_irrefl,decide_false,Bool.false_eq_true,if_false,List.take_length,List.drop_length,List.append_nil]
  rfl
theorem XU {n:Nat} {b:Bx} {o:OpC} (hb:b.2.2.2.1.length≤big) (ho:o.2.2.2.1.length≤big) (hn:big<n) (hm:1≤o.2.2.2.2.1∧o.2.2.2.2.1≤3):nO n b o=some (Pd o b,MZ o b,()):=by
 have hb':=hb
 unfold big at hb
 unfold nO
 obtain ⟨nm,va,ne,ms,u⟩:=b
 have hb:ms.length≤1048576:=hb
 refine (aO (fun i=>((ms.length:Int),(i:Int),(nm,va,ne,(ms.map (nK o)).take i++ms.drop i,()),o,((ms.take i).filter fun m=>o.2.2.2.1.contains m.1).map (·.1),())) (fun _=>none) (some (Pd o (nm,va,ne,ms,()),MZ o (nm,va,ne,ms,()),())) (m:=ms.length) (by simp) (by unfold big at hn; omega) ?_ ?_).trans (bJ (fun _ _ _=>rfl))
 ·intro L i hi _
  have hy:(ms.map (nK o)).length=ms.length:=by simp
  have hlen:=Dm (xs:=ms) (ys:=ms.map (nK o)) hy (Nat.le_of_lt hi)
  have hget:=FC (xs:=ms) (ys:=ms.map (nK o)) hy hi dM
  have ht:ms.take (i+1)=ms.take i++[ms[i]]:=by simp
  have hl1:(((ms.take i).filter fun m=>o.2.2.2.1.contains m.1).map (·.1)).length≤i:=by
   rw [List.length_map]; exact Nat.le_trans (List.length_filter_le _ _) (by simp; omega)
  simp only [hlen,Int.ofNat_lt,hi,decide_true,if_true,aG hi,Int.toNat_natCast,fF,hget,contains ho hn,Option.bind_some,aN hi (by omega)]
  cases hc:o.2.2.2.1.contains ms[i].1 with
  | false=>
   have hf:nK o ms[i]=ms[i]:=by unfold nK; rw [hc]; rfl
   rw [Bool.not_false,if_pos rfl,TV hi hf,ht,List.filter_append,Q9 (p:=fun m:nX=>o.2.2.2.1.contains m.1) hc,List.append_nil]
  | true=>
   have hset:=Aq (xs:=ms) (ys:=ms.map (nK o)) hy hi (ms[i].1,turn ms[i].2.1 o.2.2.2.2.1 o.2.2.2.2.2.1,ms[i].2.2) (by rw [List.getElem_map]; unfold nK; rw [if_pos hc])
   rw [Bool.not_true,if_neg Bool.false_ne_true]
   simp only [List.length_singleton]
   rw [if_pos (by omega),ht,List.filter_append,one_pos (p:=fun m:nX=>o.2.2.2.1.contains m.1) hc,List.map_append, ←hset]
   unfold turn
   by_cases h1:o.2.2.2.2.1=1
   ·simp [h1]
   ·by_cases h2:o.2.2.2.2.1=2
    ·simp [h2]
    ·have h3:o.2.2.2.2.1=3:=by omega
     simp [h3]
 ·intro L _
  have ht:(ms.map (nK o)).take ms.length=ms.map (nK o):=List.take_of_length_le (by simp)
  simp only [ht,Int.lt_irrefl,decide_false,Bool.false_eq_true,if_false,List.take_length,List.drop_length,List.append_nil]
  rfl
theorem YC (us:List Int) (u f:Int):jZ.pick us 0 u f=us.contains u:=by
 unfold jZ.pick
 rw [show BitVec.ofInt (IntKind.bits .i64) f &&& BitVec.ofInt (IntKind.bits .i64) 0=BitVec.ofInt (IntKind.bits .i64) 0 from BitVec.and_zero]
 have:(IntKind.i64.wrap ((BitVec.ofInt (IntKind.bits .i64) 0).toNat:Int))=0:=by decide
 rw [this]
 simp
def aad (b:Bx):List Int:=(b.2.2.2.1.filter fun m=>kT.del m.2.1).map (·.1)
def aa5 (b:Bx):Bx:=(b.1,b.2.1,b.2.2.1,b.2.2.2.1.filter (fun m=>!kT.del m.2.1),())
theorem agR {n:Nat} {b:Bx} (hb:b.2.2.2.1.length≤big) (hn:big<n):gq n b=some (aad b,aa5 b,()):=by
 unfold big at hb hn
 show kT.Bt n b=_
 unfold kT.Bt
 rw [if_pos ⟨by omega,by omega⟩]
 rfl
theorem YP {n:Nat} {b:Bx} (hb:b.2.2.2.1.length≤big) (hn:big<n):fV n b [] 8=some (b.2.2.2.1.filter (fun m=>kT.del m.2.1),aa5 b,()):=by
 unfold big at hb hn
 show jZ.Eb jZ.pick n b [] 8=_
 unfold jZ.Eb
 rw [if_pos ⟨by omega,by omega,by simp,by simp; omega⟩]
 rfl
def dG (o:OpC) (b:Bx):List nX:=b.2.2.2.1.filter fun m=>o.2.2.2.1.contains m.1
def aey (o:OpC) (b:Bx):Bx:=(b.1,b.2.1,b.2.2.1,b.2.2.2.1.filter (fun m=>!o.2.2.2.1.contains m.1),())
theorem PU {n:Nat} {b:Bx} {o:OpC} (hb:b.2.2.2.1.length≤big) (ho:o.2.2.2.1.length≤big) (hn:big<n):fV n b o.2.2.2.1 0=some (dG o b,aey o b,()):=by
 have hb':=hb
 have ho':=ho
 unfold big at hb ho hn
 show jZ.Eb jZ.pick n b o.2.2.2.1 0=_
 unfold jZ.Eb
 rw [if_pos ⟨by omega,by omega,by omega,by omega⟩]
 simp only [YC]
 rfl
def fU (b:Bx) (l:List nX):Bx:=l.foldl Ci b
def Bo (b:Bx):Nat→List Int
 | 0=>[]
 | k+1=>Bo b k++[b.2.2.1+(k:Int)]
theorem xw (b:Bx):∀k,(Bo b k).length=k
 | 0=>rfl
 | k+1=>by simp [Bo,xw b k]
theorem TJ (b:Bx) (l:List nX) (m:nX):fU b (l++[m])=Ci (fU b l) m:=by simp [fU]
theorem Kn (b:Bx):∀l:List nX,(fU b l).2.2.1=b.2.2.1+(l.length:Int)∧(fU b l).2.2.2.1.length=b.2.2.2.1.length+l.length:=by
 intro l
 induction l generalizing b with
 | nil=>simp [fU]
 | cons m l ih=>
  have:=ih (Ci b m)
  simp only [fU,List.foldl_cons,List.length_cons] at this ⊢
  rw [this.1,this.2]
  simp [Ci]
  omega
theorem PE {l:List nX}:∀{b:Bx},okB b→(∀m∈l,KT m)→b.2.2.2.1.length+l.length≤big→okB (fU b l):=by
 induction l with
 | nil=>intro b h _ _; exact h
 | cons m l ih=>
  intro b h hl hb
  simp only [List.length_cons] at hb
  refine ih (b:=Ci b m) ⟨h.1, ?_, ?_⟩ (fun x hx=>hl x (by simp [hx])) ?_
  ·simp only [Ci,List.length_append,List.length_singleton]; omega
  ·intro x hx
   simp only [Ci,List.mem_append,List.mem_singleton] at hx
   rcases hx with hx | rfl
   ·exact h.2.2 x hx
   ·exact hl m (by simp)
  ·simp only [Ci,List.length_append,List.length_singleton]; omega
theorem E5 {A:Type} {xs:List A} {k:Nat} (h:k<xs.length) (y d:A):(xs.set k y).getD k d=y:=by
 rw [List.getD_eq_getElem?_getD,List.getElem?_set_self h]; rfl
theorem getD_lt {A:Type} {xs:List A} {k:Nat} (h:k<xs.length) (d:A):xs.getD k d=xs[k]:=by
 rw [List.getD_eq_getElem?_getD,List.getElem?_eq_getElem h]; rfl
theorem abL {A:Type} {xs:List A} {k:Nat} (h:k<xs.length) (d:A):xs.set k (xs.getD k d)=xs:=by
 rw [List.getD_eq_getElem?_getD,List.getElem?_eq_getElem h]
 exact List.set_getElem_self h
theorem TM {s:nA} {k j:Nat} {l:List nX} {b:Bx} (hk:k<s.2.1.length) (hj:j<l.length) :
  ((s.2.1.set k (fU b (l.take j))).set k (Ci (fU b (l.take j)) l[j]))=s.2.1.set k (fU b (l.take (j+1))):=by
 rw [List.set_set, ←TJ]
 congr 2
 simp
theorem Mv {n:Nat} {s:nA} {at':Int} {k:Nat} {o:OpC} {part:Bx} {l:List nX} {b:Bx} {fin:Int×OpC×Int×Int×nA×Bx×List nX×List Int×Unit→Option (List Int×Int×nA×Unit)}
  {B:(Int×OpC×Int×Int×nA×Bx×List nX×List Int×Unit→Option (List Int×Int×nA×Unit))→Int×OpC×Int×Int×nA×Bx×List nX×List Int×Unit→Option (List Int×Int×nA×Unit)}
  (hB:∀L v,B L v=(if decide (v.2.2.2.1<(v.2.2.2.2.2.2.1.length:Int))=true then (if aH v.2.2.2.1 v.2.2.2.2.2.2.1.length then ((nU n (v.2.2.2.2.1.2.1.getD v.2.2.1.toNat dB) (v.2.2.2.2.2.2.1.getD v.2.2.2.1.toNat dM)).bind fun r5=>(if (v.2.2.2.2.2.2.2.1.length+[r5.1].length) * 8≤140737488355328 then L (v.1,v.2.1,v.2.2.1,IntKind.i64.wrap (v.2.2.2.1+(1:Int)),(v.2.2.2.2.1.1,v.2.2.2.2.1.2.1.set v.2.2.1.toNat r5.2.1,v.2.2.2.2.1.2.2),v.2.2.2.2.2.1,v.2.2.2.2.2.2.1,v.2.2.2.2.2.2.2.1++[r5.1],()) else none)) else none) else fin v))
  (hk:k<s.2.1.length) (hb:s.2.1.getD k dB=b) (hl:∀m∈l,KT m) (hl6:l.length≤6) (h1:0≤b.2.2.1) (h2:b.2.2.1≤1000) (h3:b.2.2.2.1.length≤6) (hn:big<n) :
  rounds B n (at',o,(k:Int),(0:Int),s,part,l,[],())=fin (at',o,(k:Int),(l.length:Int),(s.1,s.2.1.set k (fU b l),()),part,l,Bo b l.length,()):=by
 have hn':1048576<n:=hn
 refine (aO (fun j=>(at',o,(k:Int),(j:Int),(s.1,s.2.1.set k (fU b (l.take j)),()),part,l,Bo b j,())) (fun _=>none) (fin (at',o,(k:Int),(l.length:Int),(s.1,s.2.1.set k (fU b l),()),part,l,Bo b l.length,())) (m:=l.length) ?_ (by omega) ?_ ?_).trans (bJ (fun _ _ _=>rfl))
 ·rw [List.take_zero]
  show _=(_,_,_,_,(s.1,s.2.1.set k b,()),_,_,[],())
  rw [←hb,abL hk]
  rfl
 ·intro L j hj _
  have hp:=Kn b (l.take j)
  have hlt:(l.take j).length=j:=by simp; omega
  rw [hlt] at hp
  have hput:=TL (n:=n) (b:=fU b (l.take j)) (m:=l[j]) (hl _ (List.getElem_mem hj)) (by rw [hp.1]; omega) (by rw [hp.1]; omega) (by rw [hp.2]; omega)
  simp only [hB,Int.ofNat_lt,hj,decide_true,if_true,aG hj,Int.toNat_natCast,getD_lt hj,E5 hk,hput,Option.bind_some,aN hj (by omega),xw,List.length_singleton,TM hk hj]
  rw [if_pos (by omega),hp.1]
  rfl
 ·intro L _
  simp only [hB,Int.lt_irrefl,decide_false,Bool.false_eq_true,if_false,List.take_length]
theorem Mt {n:Nat} {s:nA} {at':Int} {k:Nat} {o:OpC} {l:List nX} {b:Bx} {fin:Int×Int×Int×Int×nA×OpC×List nX×List Int×Unit→Option (List Int×Int×nA×Unit)}
  {B:(Int×Int×Int×Int×nA×OpC×List nX×List Int×Unit→Option (List Int×Int×nA×Unit))→Int×Int×Int×Int×nA×OpC×List nX×List Int×Unit→Option (List Int×Int×nA×Unit)}
  (hB:∀L v,B L v=(if decide (v.2.2.2.1<v.2.2.1)=true then (if aH v.2.2.2.1 v.2.2.2.2.2.2.1.length then ((kK n (v.2.2.2.2.1.2.1.getD v.2.1.toNat dB) (v.2.2.2.2.2.2.1.getD v.2.2.2.1.toNat dM)).bind fun r6=>(if (v.2.2.2.2.2.2.2.1.length+[r6.1].length) * 8≤140737488355328 then L (v.1,v.2.1,v.2.2.1,IntKind.i64.wrap (v.2.2.2.1+(1:Int)),(v.2.2.2.2.1.1,v.2.2.2.2.1.2.1.set v.2.1.toNat r6.2.1,v.2.2.2.2.1.2.2),v.2.2.2.2.2.1,v.2.2.2.2.2.2.1,v.2.2.2.2.2.2.2.1++[r6.1],()) else none)) else none) else fin v))
  (hk:k<s.2.1.length) (hb:s.2.1.getD k dB=b) (hl:∀m∈l,KT m) (hl6:l.length≤6) (h1:0≤b.2.2.1) (h2:b.2.2.1≤1000) (h3:b.2.2.2.1.length≤6) (hn:big<n) :
  rounds B n (at',(k:Int),(l.length:Int),(0:Int),s,o,l,[],())=fin (at',(k:Int),(l.length:Int),(l.length:Int),(s.1,s.2.1.set k (fU b l),()),o,l,Bo b l.length,()):=by
 have hn':1048576<n:=hn
 refine (aO (fun j=>(at',(k:Int),(l.length:Int),(j:Int),(s.1,s.2.1.set k (fU b (l.take j)),()),o,l,Bo b j,())) (fun _=>none) (fin (at',(k:Int),(l.length:Int),(l.length:Int),(s.1,s.2.1.set k (fU b l),()),o,l,Bo b l.length,())) (m:=l.length) ?_ (by omega) ?_ ?_).trans (bJ (fun _ _ _=>rfl))
 ·rw [List.take_zero]
  show _=(_,_,_,_,(s.1,s.2.1.set k b,()),_,_,[],())
  rw [←hb,abL hk]
  rfl
 ·intro L j hj _
  have hp:=Kn b (l.take j)
  have hlt:(l.take j).length=j:=by simp; omega
  rw [hlt] at hp
  have hput:=YE (n:=n) (b:=fU b (l.take j)) (m:=l[j]) (hl _ (List.getElem_mem hj)) (by rw [hp.1]; omega) (by rw [hp.1]; omega) (by rw [hp.2]; omega)
  simp only [hB,Int.ofNat_lt,hj,decide_true,if_true,aG hj,Int.toNat_natCast,getD_lt hj,E5 hk,hput,Option.bind_some,aN hj (by omega),xw,List.length_singleton,TM hk hj]
  rw [if_pos (by omega),hp.1]
  rfl
 ·intro L _
  simp only [hB,Int.lt_irrefl,decide_false,Bool.false_eq_true,if_false,List.take_length]
theorem Po {n:Nat} {ms:List nX} {o:OpC} {a b:Int} {s:nA} {fin:Int×Int×List nX×Int×Int×nA×OpC×List nX×Unit→Option (List Int×Int×nA×Unit)}
  {B:(Int×Int×List nX×Int×Int×nA×OpC×List nX×Unit→Option (List Int×Int×nA×Unit))→Int×Int×List nX×Int×Int×nA×OpC×List nX×Unit→Option (List Int×Int×nA×Unit)}
  (hB:∀L v,B L v=(if decide (v.2.2.2.2.1<v.2.2.2.1)=true then (if aH v.2.2.2.2.1 v.2.2.1.length then ((aW n v.2.2.2.2.2.2.1.2.2.2.1 ((v.2.2.1.getD v.2.2.2.2.1.toNat dM).1)).bind fun r3=>(if r3.1=true then (if (v.2.2.2.2.2.2.2.1.length+[v.2.2.1.getD v.2.2.2.2.1.toNat dM].length) * 48≤140737488355328 then L (v.1,v.2.1,v.2.2.1,v.2.2.2.1,IntKind.i64.wrap (v.2.2.2.2.1+(1:Int)),v.2.2.2.2.2.1,v.2.2.2.2.2.2.1,v.2.2.2.2.2.2.2.1++[v.2.2.1.getD v.2.2.2.2.1.toNat dM],()) else none) else L (v.1,v.2.1,v.2.2.1,v.2.2.2.1,IntKind.i64.wrap (v.2.2.2.2.1+(1:Int)),v.2.2.2.2.2.1,v.2.2.2.2.2.2.1,v.2.2.2.2.2.2.2.1,()))) else none) else fin v))
  (hb:ms.length≤big) (ho:o.2.2.2.1.length≤big) (hn:big<n) :
  rounds B n (a,b,ms,(ms.length:Int),(0:Int),s,o,[],())=fin (a,b,ms,(ms.length:Int),(ms.length:Int),s,o,ms.filter (fun m=>o.2.2.2.1.contains m.1),()):=by
 have hb':ms.length≤1048576:=hb
 refine (aO (fun i=>(a,b,ms,(ms.length:Int),(i:Int),s,o,(ms.take i).filter (fun m=>o.2.2.2.1.contains m.1),())) (fun _=>none) (fin (a,b,ms,(ms.length:Int),(ms.length:Int),s,o,ms.filter (fun m=>o.2.2.2.1.contains m.1),())) (m:=ms.length) (by simp) (by omega) ?_ ?_).trans (bJ (fun _ _ _=>rfl))
 ·intro L i hi _
  have ht:ms.take (i+1)=ms.take i++[ms[i]]:=by simp
  have hl:((ms.take i).filter fun m=>o.2.2.2.1.contains m.1).length≤i:=Nat.le_trans (List.length_filter_le _ _) (by simp; omega)
  simp only [hB,Int.ofNat_lt,hi,decide_true,if_true,aG hi,dU hi,contains ho hn,Option.bind_some,aN hi (by omega),List.length_singleton,ht,List.filter_append]
  cases hc:o.2.2.2.1.contains ms[i].1 with
  | false=>rw [if_neg Bool.false_ne_true,Q9 (p:=fun m:nX=>o.2.2.2.1.contains m.1) hc,List.append_nil]
  | true=>rw [if_pos rfl,if_pos (by omega),one_pos (p:=fun m:nX=>o.2.2.2.1.contains m.1) hc]
 ·intro L _
  simp only [hB,Int.lt_irrefl,decide_false,Bool.false_eq_true,if_false,List.take_length]
def Rn (b:Bx):Prop:=(0≤b.2.2.1∧b.2.2.1≤1000)∧b.2.2.2.1.length≤6
def CY (s:nA) (i k:Nat) (o:OpC):List Int×Int×nA×Unit:=
 if (s.2.1.getD k dB).2.2.2.1.length+(dG o (s.2.1.getD i dB)).length>6 then ([],10,s,()) else
 if (s.2.1.getD k dB).2.2.1+((dG o (s.2.1.getD i dB)).length:Int)>1000 then ([],10,s,()) else
 (Bo (s.2.1.getD k dB) (dG o (s.2.1.getD i dB)).length,0,(s.1,if o.1=6 then (s.2.1.set k (fU (s.2.1.getD k dB) (dG o (s.2.1.getD i dB)))).set i (aey o (s.2.1.getD i dB)) else s.2.1.set k (fU (s.2.1.getD k dB) (dG o (s.2.1.getD i dB))),()),())
def carried (s:nA) (i:Nat) (o:OpC):List Int×Int×nA×Unit:=
 if Dn s o.2.2.1<0 then ([],4,s,()) else if o.1=6∧Dn s o.2.2.1=(i:Int) then ([],9,s,()) else CY s i (Dn s o.2.2.1).toNat o
theorem dZ {A:Type} {xs:List A} {k:Nat} (h:k<xs.length) (d:A):xs.getD k d∈xs:=by
 rw [getD_lt h]; exact List.getElem_mem h
theorem adl {n:Nat} {s:nA} {i:Nat} {o:OpC} (hs:Cy s) (ho:okO o) (hsm:∀b∈s.2.1,Rn b) (hi:i<s.2.1.length) (hn:big<n):uT n s (i:Int) o=some (carried s i o):=by
 unfold uT carried
 rw [agH hs.1 hn]
 simp only [Option.bind_some]
 rcases qN s o.2.2.1 with h | ⟨k,h,hk⟩
 ·rw [h]; rfl
 ·rw [h]
  have h0:¬((k:Int)<0):=by omega
  rw [decide_eq_false h0,if_neg Bool.false_ne_true,if_neg h0]
  have hA:=hsm _ (dZ hi dB)
  have hK:=hsm _ (dZ hk dB)
  have hAo:=hs.2 _ (dZ hi dB)
  have hKo:=hs.2 _ (dZ hk dB)
  have hT:(dG o (s.2.1.getD i dB)).length≤6:=Nat.le_trans (List.length_filter_le _ _) hA.2
  have hTo:∀m∈dG o (s.2.1.getD i dB),KT m:=fun m hm=>hAo.2.2 m (List.mem_filter.1 hm).1
  have hK2:=hK.2
  have hK1:=hK.1
  by_cases h6:o.1=6
  ·rw [decide_eq_true h6,if_pos rfl]
   by_cases he:(k:Int)=(i:Int)
   ·rw [decide_eq_true he,if_pos rfl,if_pos ⟨h6,he⟩]
   ·rw [decide_eq_false he,if_neg Bool.false_ne_true,if_neg (show ¬(o.1=6∧(k:Int)=(i:Int)) from fun h=>he h.2),if_pos (aG hi)]
    simp only [Int.toNat_natCast,JN hAo hn,Option.bind_some,PU hAo.2.1 ho.2.2.1 hn,if_pos (aG hk)]
    unfold CY
    have w1:IntKind.i64.wrap (((s.2.1.getD k dB).2.2.2.1.length:Int)+((dG o (s.2.1.getD i dB)).length:Int))=((s.2.1.getD k dB).2.2.2.1.length:Int)+((dG o (s.2.1.getD i dB)).length:Int):=wrap_i64 (by omega) (by omega)
    have w2:IntKind.i64.wrap ((s.2.1.getD k dB).2.2.1+((dG o (s.2.1.getD i dB)).length:Int))=(s.2.1.getD k dB).2.2.1+((dG o (s.2.1.getD i dB)).length:Int):=wrap_i64 (by omega) (by omega)
    simp only [w1,w2]
    by_cases c1:(s.2.1.getD k dB).2.2.2.1.length+(dG o (s.2.1.getD i dB)).length>6
    ·have c1':((s.2.1.getD k dB).2.2.2.1.length:Int)+((dG o (s.2.1.getD i dB)).length:Int)>6:=by omega
     simp only [c1,c1',decide_true,if_true]
    ·have c1':¬(((s.2.1.getD k dB).2.2.2.1.length:Int)+((dG o (s.2.1.getD i dB)).length:Int)>6):=by omega
     simp only [c1,c1',decide_false,Bool.false_eq_true,if_false]
     by_cases c2:(s.2.1.getD k dB).2.2.1+((dG o (s.2.1.getD i dB)).length:Int)>1000
     ·simp only [c2,decide_true,if_true]
     ·simp only [c2,decide_false,Bool.false_eq_true,if_false]
      refine (Mv (s:=s) (k:=k) (l:=dG o (s.2.1.getD i dB)) (b:=s.2.1.getD k dB) (fun _ _=>rfl) hk rfl hTo hT hK1.1 hK1.2 hK2 hn).trans ?_
      have hi2:i<(s.2.1.set k (fU (s.2.1.getD k dB) (dG o (s.2.1.getD i dB)))).length:=by simpa using hi
      simp only [h6,decide_true,if_true,if_pos (aG hi2),Int.toNat_natCast]
  ·rw [decide_eq_false h6,if_neg Bool.false_ne_true,if_neg (show ¬(o.1=6∧(k:Int)=(i:Int)) from fun h=>h6 h.1),if_pos (aG hi)]
   simp only [Int.toNat_natCast,JN hAo hn,Option.bind_some,PU hAo.2.1 ho.2.2.1 hn,if_pos (aG hk)]
   unfold CY
   have w1:IntKind.i64.wrap (((s.2.1.getD k dB).2.2.2.1.length:Int)+((dG o (s.2.1.getD i dB)).length:Int))=((s.2.1.getD k dB).2.2.2.1.length:Int)+((dG o (s.2.1.getD i dB)).length:Int):=wrap_i64 (by omega) (by omega)
   have w2:IntKind.i64.wrap ((s.2.1.getD k dB).2.2.1+((dG o (s.2.1.getD i dB)).length:Int))=(s.2.1.getD k dB).2.2.1+((dG o (s.2.1.getD i dB)).length:Int):=wrap_i64 (by omega) (by omega)
   simp only [w1,w2]
   by_cases c1:(s.2.1.getD k dB).2.2.2.1.length+(dG o (s.2.1.getD i dB)).length>6
   ·have c1':((s.2.1.getD k dB).2.2.2.1.length:Int)+((dG o (s.2.1.getD i dB)).length:Int)>6:=by omega
    simp only [c1,c1',decide_true,if_true]
   ·have c1':¬(((s.2.1.getD k dB).2.2.2.1.length:Int)+((dG o (s.2.1.getD i dB)).length:Int)>6):=by omega
    simp only [c1,c1',decide_false,Bool.false_eq_true,if_false]
    by_cases c2:(s.2.1.getD k dB).2.2.1+((dG o (s.2.1.getD i dB)).length:Int)>1000
    ·simp only [c2,decide_true,if_true]
    ·simp only [c2,decide_false,Bool.false_eq_true,if_false]
     refine (Mv (s:=s) (k:=k) (l:=dG o (s.2.1.getD i dB)) (b:=s.2.1.getD k dB) (fun _ _=>rfl) hk rfl hTo hT hK1.1 hK1.2 hK2 hn).trans ?_
     simp only [h6,decide_false,Bool.false_eq_true,if_false]
theorem getD_set_ne {A:Type} {xs:List A} {i k:Nat} (h:k≠i) (y d:A):(xs.set k y).getD i d=xs.getD i d:=by
 rw [List.getD_eq_getElem?_getD,List.getD_eq_getElem?_getD,List.getElem?_set_ne h]
theorem acS {n:Nat} {ms:List nX} {o:OpC} (hb:ms.length≤big) (ho:o.2.2.2.1.length≤big) (hn:big<n) :
  aF n ms o=some (((ms.filter fun m=>!o.2.2.2.1.contains m.1).length:Int),(ms.filter fun m=>!o.2.2.2.1.contains m.1)++List.replicate (ms.length - (ms.filter fun m=>!o.2.2.2.1.contains m.1).length) dM,()):=by
 unfold big at hb ho hn
 show nM.Jd n ms o=_
 unfold nM.Jd
 rw [if_pos ⟨by omega,by omega,by omega,by omega⟩]
 rfl
theorem copied {n:Nat} {s:nA} {i:Nat} {o:OpC} (hs:Cy s) (ho:okO o) (hsm:∀b∈s.2.1,Rn b) (hi:i<s.2.1.length) (hn:big<n):lQ n s (i:Int) o=some (carried s i o):=by
 unfold lQ carried
 rw [box hs.1 hn]
 simp only [Option.bind_some]
 rcases qN s o.2.2.1 with h | ⟨k,h,hk⟩
 ·rw [h]; rfl
 ·rw [h]
  have h0:¬((k:Int)<0):=by omega
  rw [decide_eq_false h0,if_neg Bool.false_ne_true,if_neg h0]
  have hA:=hsm _ (dZ hi dB)
  have hK:=hsm _ (dZ hk dB)
  have hAo:=hs.2 _ (dZ hi dB)
  have hKo:=hs.2 _ (dZ hk dB)
  have hT:(dG o (s.2.1.getD i dB)).length≤6:=Nat.le_trans (List.length_filter_le _ _) hA.2
  have hTo:∀m∈dG o (s.2.1.getD i dB),KT m:=fun m hm=>hAo.2.2 m (List.mem_filter.1 hm).1
  have hK2:=hK.2
  have hK1:=hK.1
  have w1:IntKind.i64.wrap (((s.2.1.getD k dB).2.2.2.1.length:Int)+((dG o (s.2.1.getD i dB)).length:Int))=((s.2.1.getD k dB).2.2.2.1.length:Int)+((dG o (s.2.1.getD i dB)).length:Int):=wrap_i64 (by omega) (by omega)
  have w2:IntKind.i64.wrap ((s.2.1.getD k dB).2.2.1+((dG o (s.2.1.getD i dB)).length:Int))=(s.2.1.getD k dB).2.2.1+((dG o (s.2.1.getD i dB)).length:Int):=wrap_i64 (by omega) (by omega)
  have hlist:(s.2.1.getD i dB).2.2.2.1.filter (fun m=>o.2.2.2.1.contains m.1)=dG o (s.2.1.getD i dB):=rfl
  by_cases h6:o.1=6
  ·rw [decide_eq_true h6,if_pos rfl]
   by_cases he:(k:Int)=(i:Int)
   ·rw [decide_eq_true he,if_pos rfl,if_pos ⟨h6,he⟩]
   ·rw [decide_eq_false he,if_neg Bool.false_ne_true,if_neg (show ¬(o.1=6∧(k:Int)=(i:Int)) from fun h=>he h.2),if_pos (aG hi)]
    simp only [Int.toNat_natCast]
    refine (Po (s:=s) (o:=o) (a:=(i:Int)) (b:=(k:Int)) (ms:=(s.2.1.getD i dB).2.2.2.1) (fun _ _=>rfl) hAo.2.1 ho.2.2.1 hn).trans ?_
    simp only [if_pos (aG hk),Int.toNat_natCast,hlist,w1]
    unfold CY
    by_cases c1:(s.2.1.getD k dB).2.2.2.1.length+(dG o (s.2.1.getD i dB)).length>6
    ·have c1':((s.2.1.getD k dB).2.2.2.1.length:Int)+((dG o (s.2.1.getD i dB)).length:Int)>6:=by omega
     simp only [c1,c1',decide_true,if_true]
    ·have c1':¬(((s.2.1.getD k dB).2.2.2.1.length:Int)+((dG o (s.2.1.getD i dB)).length:Int)>6):=by omega
     have hlen:eG n (dG o (s.2.1.getD i dB))=some (((dG o (s.2.1.getD i dB)).length:Int),()):=rfl
     simp only [c1,c1',decide_false,Bool.false_eq_true,if_false,hlen,Option.bind_some,w2]
     by_cases c2:(s.2.1.getD k dB).2.2.1+((dG o (s.2.1.getD i dB)).length:Int)>1000
     ·simp only [c2,decide_true,if_true]
     ·simp only [c2,decide_false,Bool.false_eq_true,if_false]
      refine (Mt (s:=s) (k:=k) (l:=dG o (s.2.1.getD i dB)) (b:=s.2.1.getD k dB) (fun _ _=>rfl) hk rfl hTo hT hK1.1 hK1.2 hK2 hn).trans ?_
      have hki:k≠i:=fun h=>he (by omega)
      have hi2:i<(s.2.1.set k (fU (s.2.1.getD k dB) (dG o (s.2.1.getD i dB)))).length:=by simpa using hi
      simp only [h6,decide_true,if_true,if_pos (aG hi2),Int.toNat_natCast,fF,getD_set_ne hki,acS hAo.2.1 ho.2.2.1 hn,Option.bind_some,List.set_set,E5 hi2,List.take_left']
      rfl
  ·rw [decide_eq_false h6,if_neg Bool.false_ne_true,if_neg (show ¬(o.1=6∧(k:Int)=(i:Int)) from fun h=>h6 h.1),if_pos (aG hi)]
   simp only [Int.toNat_natCast]
   refine (Po (s:=s) (o:=o) (a:=(i:Int)) (b:=(k:Int)) (ms:=(s.2.1.getD i dB).2.2.2.1) (fun _ _=>rfl) hAo.2.1 ho.2.2.1 hn).trans ?_
   simp only [if_pos (aG hk),Int.toNat_natCast,hlist,w1]
   unfold CY
   by_cases c1:(s.2.1.getD k dB).2.2.2.1.length+(dG o (s.2.1.getD i dB)).length>6
   ·have c1':((s.2.1.getD k dB).2.2.2.1.length:Int)+((dG o (s.2.1.getD i dB)).length:Int)>6:=by omega
    simp only [c1,c1',decide_true,if_true]
   ·have c1':¬(((s.2.1.getD k dB).2.2.2.1.length:Int)+((dG o (s.2.1.getD i dB)).length:Int)>6):=by omega
    have hlen:eG n (dG o (s.2.1.getD i dB))=some (((dG o (s.2.1.getD i dB)).length:Int),()):=rfl
    simp only [c1,c1',decide_false,Bool.false_eq_true,if_false,hlen,Option.bind_some,w2]
    by_cases c2:(s.2.1.getD k dB).2.2.1+((dG o (s.2.1.getD i dB)).length:Int)>1000
    ·simp only [c2,decide_true,if_true]
    ·simp only [c2,decide_false,Bool.false_eq_true,if_false]
     refine (Mt (s:=s) (k:=k) (l:=dG o (s.2.1.getD i dB)) (b:=s.2.1.getD k dB) (fun _ _=>rfl) hk rfl hTo hT hK1.1 hK1.2 hK2 hn).trans ?_
     simp only [h6,decide_false,Bool.false_eq_true,if_false]
abbrev CP:=Int×List Int×nA×Unit
def bad (c:Int):CP:=(c,[],(0,[],()),())
def Ir (s:nA) (o:OpC):List Int×Int×nA×Unit:=
 if Dn s o.2.1≥0 then ([],6,s,()) else if s.2.1.length=3 then ([],10,s,()) else if s.1=1000 then ([],10,s,()) else ([],0,(s.1+1,s.2.1++[(o.2.1,s.1,1,[],())],()),())
def ZI (s:nA) (i:Nat) (o:OpC):List Int×Int×nA×Unit:=
 if (s.2.1.getD i dB).2.2.2.1.length=6 then ([],10,s,()) else if (s.2.1.getD i dB).2.2.1=1000 then ([],10,s,()) else
  ([(s.2.1.getD i dB).2.2.1],0,(s.1,s.2.1.set i (Ci (s.2.1.getD i dB) (0,o.2.2.2.2.2.1,o.2.2.2.2.2.2.1,o.2.2.2.2.2.2.2.1,())),()),())
def TP (s:nA) (i:Nat) (o:OpC):List Int×Int×nA×Unit:=
 if o.1=2 then ([],0,(s.1,s.2.1.take i++s.2.1.drop (i+1),()),()) else
 if o.1=3 then ZI s i o else
 if o.1=4 then (Pd o (s.2.1.getD i dB),0,(s.1,s.2.1.set i (MZ o (s.2.1.getD i dB)),()),()) else
 if o.1=7 then (aad (s.2.1.getD i dB),0,(s.1,s.2.1.set i (aa5 (s.2.1.getD i dB)),()),()) else carried s i o
def rW (s:nA) (o:OpC):List Int×Int×nA×Unit:=
 if o.1=1 then Ir s o else if Dn s o.2.1<0 then ([],4,s,()) else TP s (Dn s o.2.1).toNat o
def Cj (r:List Int×Int×nA×Unit):CP:=if r.2.1=0 then (0,r.1,r.2.2.1,()) else bad r.2.1
structure Fit (s:nA) (o:OpC):Prop where
 Cy:Cy s
 okO:okO o
 val:1≤s.1∧s.1≤1000
 few:s.2.1.length≤3
 small:∀b∈s.2.1,Rn b
 mode:o.1=4→1≤o.2.2.2.2.1∧o.2.2.2.2.1≤3
theorem made {n:Nat} {s:nA} {o:OpC} (h:Fit s o) (hn:big<n):o9 n s o.2.1=some ((Ir s o).2.1,(Ir s o).2.2.1,())∧(Ir s o).1=[]:=by
 have hf:=h.few
 have hv:=h.val
 unfold o9 Ir
 rw [box h.Cy.1 hn]
 simp only [Option.bind_some]
 by_cases c0:Dn s o.2.1≥0
 ·simp only [c0,decide_true,if_true,and_self]
 ·simp only [c0,decide_false,Bool.false_eq_true,if_false]
  by_cases c1:s.2.1.length=3
  ·simp only [c1,if_true]
   exact ⟨rfl,trivial⟩
  ·have:¬(s.2.1.length:Int)=3:=by omega
   simp only [c1,this,decide_false,Bool.false_eq_true,if_false]
   by_cases c2:s.1=1000
   ·simp only [c2,decide_true,if_true,and_self]
   ·simp only [c2,decide_false,Bool.false_eq_true,if_false,List.length_singleton,and_true]
    rw [if_pos (by omega),wrap_i64 (by omega) (by omega)]
theorem agI {n:Nat} {s:nA} {o:OpC} (h:Fit s o) (hn:big<n):w9 n s o=some (Cj (Ir s o),()):=by
 have hf:=h.few
 have hv:=h.val
 unfold w9 Ir
 rw [agH h.Cy.1 hn]
 simp only [Option.bind_some]
 by_cases c0:Dn s o.2.1≥0
 ·simp only [c0,decide_true,if_true]; rfl
 ·simp only [c0,decide_false,Bool.false_eq_true,if_false]
  by_cases c1:s.2.1.length=3
  ·have:(s.2.1.length:Int)≥3:=by omega
   simp only [c1,this,decide_true,if_true]; rfl
  ·have:¬(s.2.1.length:Int)≥3:=by omega
   simp only [c1,this,decide_false,Bool.false_eq_true,if_false]
   by_cases c2:s.1=1000
   ·have:s.1≥1000:=by omega
    simp only [c2,decide_true,if_true]; rfl
   ·have:¬s.1≥1000:=by omega
    simp only [c2,this,decide_false,Bool.false_eq_true,if_false,QV h.Cy hn,Option.bind_some,List.length_singleton]
    rw [if_pos (by omega),wrap_i64 (by omega) (by omega)]
    rfl
theorem Vv {o:OpC} (ho:okO o):KT (0,o.2.2.2.2.2.1,o.2.2.2.2.2.2.1,o.2.2.2.2.2.2.2.1,()):=ho.2.2.2
theorem UC {n:Nat} {s:nA} {o:OpC} (h:Fit s o) (hn:big<n):nP n s o=some (rW s o):=by
 unfold nP rW
 by_cases k1:o.1=1
 ·obtain ⟨h1,h2⟩:=made h hn
  simp only [k1,decide_true,if_true,h1,Option.bind_some]
  rw [←h2]
 ·simp only [k1,decide_false,Bool.false_eq_true,if_false,box h.Cy.1 hn,Option.bind_some]
  rcases qN s o.2.1 with hp | ⟨i,hp,hi⟩
  ·rw [hp]; rfl
  ·rw [hp]
   have h0:¬((i:Int)<0):=by omega
   simp only [h0,decide_false,Bool.false_eq_true,if_false,if_pos (aG hi),Int.toNat_natCast]
   have hB:=h.small _ (dZ hi dB)
   have Vg:=h.Cy.2 _ (dZ hi dB)
   have hB1:=hB.1
   have hB2:=hB.2
   have hf:=h.few
   unfold TP
   by_cases k2:o.1=2
   ·have hw:IntKind.i64.wrap ((i:Int)+1)=((i+1:Nat):Int):=aN hi (by omega)
    have hdel:bR n s.2.1 (i:Int) ((i+1:Nat):Int)=some (((s.2.1.length - 1:Nat):Int),s.2.1.take i++s.2.1.drop (i+1)++[dB],()):=by
     show nM.MH dB s.2.1 (i:Int) ((i+1:Nat):Int)=_
     unfold nM.MH
     rw [if_pos ⟨by omega,by omega,by omega⟩]
     simp only [Int.toNat_natCast,Nat.add_sub_cancel_left]
     rfl
    have hl:(s.2.1.take i++s.2.1.drop (i+1)).length=s.2.1.length - 1:=by simp; omega
    simp only [k2,decide_true,if_true,hw,hdel,Option.bind_some,Int.toNat_natCast]
    rw [←hl,List.take_left']
    rfl
   ·simp only [k2,decide_false,Bool.false_eq_true,if_false]
    by_cases k3:o.1=3
    ·simp only [k3,decide_true,if_true]
     unfold ZI
     by_cases c1:(s.2.1.getD i dB).2.2.2.1.length=6
     ·simp only [c1,if_true]
      rfl
     ·have:¬((s.2.1.getD i dB).2.2.2.1.length:Int)=6:=by omega
      simp only [c1,this,decide_false,Bool.false_eq_true,if_false]
      by_cases c2:(s.2.1.getD i dB).2.2.1=1000
      ·simp only [c2,decide_true,if_true]
      ·have hput:=TK (n:=n) (b:=s.2.1.getD i dB) (Vv h.okO) (by omega) (by omega) (by omega)
       simp only [c2,decide_false,Bool.false_eq_true,if_false,hput,Option.bind_some]
    ·simp only [k3,decide_false,Bool.false_eq_true,if_false]
     by_cases k4:o.1=4
     ·simp only [k4,decide_true,if_true,XU Vg.2.1 h.okO.2.2.1 hn (h.mode k4),Option.bind_some]
     ·simp only [k4,decide_false,Bool.false_eq_true,if_false]
      by_cases k7:o.1=7
      ·simp only [k7,decide_true,if_true,agR Vg.2.1 hn,Option.bind_some]
      ·simp only [k7,decide_false,Bool.false_eq_true,if_false,copied h.Cy h.okO h.small hi hn,Option.bind_some]
theorem XY {n:Nat} {ms:List nX} {r0:CP} {st:nA} {c:Int} {B:(Int×CP×CP×List nX×Unit→Option (CP×Unit))→Int×CP×CP×List nX×Unit→Option (CP×Unit)}
  (hB:∀L v,B L v=(if decide (v.1<(v.2.2.2.1.length:Int))=true then (if aH v.1 v.2.2.2.1.length then (if (v.2.2.1.2.1.length+[(v.2.2.2.1.getD v.1.toNat dM).1].length) * 8≤140737488355328 then L (IntKind.i64.wrap (v.1+(1:Int)),v.2.1,(v.2.2.1.1,v.2.2.1.2.1++[(v.2.2.2.1.getD v.1.toNat dM).1],v.2.2.1.2.2),v.2.2.2.1,()) else none) else none) else some (v.2.2.1,())))
  (hb:ms.length≤big) (hn:big<n):rounds B n ((0:Int),r0,(c,[],st,()),ms,())=some ((c,ms.map (·.1),st,()),()):=by
 have hb':ms.length≤1048576:=hb
 refine (aO (fun i=>((i:Int),r0,(c,(ms.take i).map (·.1),st,()),ms,())) (fun _=>none) (some ((c,ms.map (·.1),st,()),())) (m:=ms.length) (by simp) (by omega) ?_ ?_).trans (bJ (fun _ _ _=>rfl))
 ·intro L i hi _
  have ht:ms.take (i+1)=ms.take i++[ms[i]]:=by simp
  have hl:((ms.take i).map (·.1)).length≤i:=by simp; omega
  simp only [hB,Int.ofNat_lt,hi,decide_true,if_true,aG hi,dU hi,aN hi (by omega),List.length_singleton,ht,List.map_append,List.map_cons,List.map_nil]
  rw [if_pos (by omega)]
 ·intro L _
  simp only [hB,Int.lt_irrefl,decide_false,Bool.false_eq_true,if_false,List.take_length]
theorem UD {n:Nat} {s:nA} {o:OpC} (h:Fit s o) (hn:big<n):uS n s o=some (Cj (rW s o),()):=by
 unfold uS rW
 by_cases k1:o.1=1
 ·simp only [k1,decide_true,if_true,agI h hn,Option.bind_some]
 ·simp only [k1,decide_false,Bool.false_eq_true,if_false,agH h.Cy.1 hn,Option.bind_some]
  rcases qN s o.2.1 with hp | ⟨i,hp,hi⟩
  ·rw [hp]; rfl
  ·rw [hp]
   have h0:¬((i:Int)<0):=by omega
   simp only [h0,decide_false,Bool.false_eq_true,if_false,QV h.Cy hn,Option.bind_some,if_pos (aG hi),Int.toNat_natCast]
   have hB:=h.small _ (dZ hi dB)
   have Vg:=h.Cy.2 _ (dZ hi dB)
   have hB1:=hB.1
   have hB2:=hB.2
   have hf:=h.few
   unfold TP
   by_cases k2:o.1=2
   ·have hw:IntKind.i64.wrap ((i:Int)+1)=((i+1:Nat):Int):=aN hi (by omega)
    simp only [k2,decide_true,if_true,hw,Int.toNat_natCast]
    rw [if_pos ⟨by omega,by omega⟩,if_pos (by simp; omega),if_pos ⟨by omega,by omega⟩,if_pos (by simp; omega)]
    rfl
   ·simp only [k2,decide_false,Bool.false_eq_true,if_false]
    by_cases k3:o.1=3
    ·simp only [k3,decide_true,if_true]
     unfold ZI
     by_cases c1:(s.2.1.getD i dB).2.2.2.1.length=6
     ·have:((s.2.1.getD i dB).2.2.2.1.length:Int)≥6:=by omega
      simp only [c1,this,decide_true,if_true]; rfl
     ·have:¬((s.2.1.getD i dB).2.2.2.1.length:Int)≥6:=by omega
      simp only [c1,this,decide_false,Bool.false_eq_true,if_false]
      by_cases c2:(s.2.1.getD i dB).2.2.1=1000
      ·have:(s.2.1.getD i dB).2.2.1≥1000:=by omega
       simp only [c2,this,decide_true,if_true]; rfl
      ·have:¬(s.2.1.getD i dB).2.2.1≥1000:=by omega
       have hput:=TL (n:=n) (b:=s.2.1.getD i dB) (Vv h.okO) (by omega) (by omega) (by omega)
       simp only [c2,this,decide_false,Bool.false_eq_true,if_false,hput,Option.bind_some]
       rfl
    ·simp only [k3,decide_false,Bool.false_eq_true,if_false]
     by_cases k4:o.1=4
     ·simp only [k4,decide_true,if_true,XV Vg.2.1 h.okO.2.2.1 hn,Option.bind_some]
      rfl
     ·simp only [k4,decide_false,Bool.false_eq_true,if_false]
      by_cases k7:o.1=7
      ·simp only [k7,decide_true,if_true,YP Vg.2.1 hn,Option.bind_some]
       exact XY (fun _ _=>rfl) (Nat.le_trans (List.length_filter_le _ _) Vg.2.1) hn
      ·simp only [k7,decide_false,Bool.false_eq_true,if_false,adl h.Cy h.okO h.small hi hn,Option.bind_some]
       unfold Cj
       by_cases c:(carried s i o).2.1=0
       ·simp only [c,decide_true,Bool.not_true,Bool.false_eq_true,if_false,if_true]
       ·simp only [c,decide_false,Bool.not_false,if_true,if_false]; rfl
theorem copies {n:Nat} (k:Int):iM n k=some (decide (k=5) || decide (k=6),()):=by
 unfold iM
 cases decide (k=5) <;> rfl
theorem aal {n:Nat} (o:OpC):oH n o=some (decide (o.1=5) || decide (o.1=6),()):=copies (n:=n) o.1
theorem ac5 {n:Nat} (o:OpC):kL n o=some ((decide (o.1=5) || decide (o.1=6)) || decide (o.1=4),()):=by
 unfold kL
 rw [aal]
 simp only [Option.bind_some]
 cases (decide (o.1=5) || decide (o.1=6)) <;> rfl
theorem afZ (k:Nat):decide ((k:Int)>0)=!decide ((k:Int)=0):=by
 by_cases h:k=0
 ·subst h; rfl
 ·rw [decide_eq_true (by omega),decide_eq_false (by omega)]; rfl
def ED (o:OpC):Bool:=(((decide (o.1=5) || decide (o.1=6)) || decide (o.2.2.1=[])) && ((((decide (o.1=5) || decide (o.1=6)) || decide (o.1=4)) || decide ((o.2.2.2.1.length:Int)=0)) && ((decide (o.1=4) || decide (o.2.2.2.2.1=0)) &&
 ((decide (o.1=4) || (decide (o.1=3) || decide (o.2.2.2.2.2.1=0))) && (decide (o.1=3) || (decide (o.2.2.2.2.2.2.1=0) && decide ((o.2.2.2.2.2.2.2.1.length:Int)=0)))))))
set_option maxRecDepth 20000 in
theorem only {n:Nat} (o:OpC):qQ n o=some (ED o,()):=by
 unfold qQ ED
 simp only [aal,ac5,Option.bind_some]
 generalize (decide (o.1=5) || decide (o.1=6))=c
 generalize decide (o.2.2.1=[])=b1
 generalize decide (o.1=4)=b2
 generalize decide ((o.2.2.2.1.length:Int)=0)=b3
 generalize decide (o.2.2.2.2.1=0)=b4
 generalize decide (o.1=3)=b5
 generalize decide (o.2.2.2.2.2.1=0)=b6
 generalize decide (o.2.2.2.2.2.2.1=0)=b7
 generalize decide ((o.2.2.2.2.2.2.2.1.length:Int)=0)=b8
 revert c b1 b2 b3 b4 b5 b6 b7 b8
 decide +kernel
set_option maxRecDepth 20000 in
theorem form {n:Nat} (o:OpC):wZ n o=some (decide (1≤o.1∧o.1≤7) && ED o,()):=by
 unfold wZ ED
 simp only [FW,copies,Option.bind_some,afZ]
 generalize (decide (o.1=5) || decide (o.1=6))=c
 generalize decide (o.2.2.1=[])=b1
 generalize decide (o.1=4)=b2
 generalize decide ((o.2.2.2.1.length:Int)=0)=b3
 generalize decide (o.2.2.2.2.1=0)=b4
 generalize decide (o.1=3)=b5
 generalize decide (o.2.2.2.2.2.1=0)=b6
 generalize decide (o.2.2.2.2.2.2.1=0)=b7
 generalize decide ((o.2.2.2.2.2.2.2.1.length:Int)=0)=b8
 generalize decide (1≤o.1∧o.1≤7)=b9
 revert c b1 b2 b3 b4 b5 b6 b7 b8 b9
 decide +kernel
def Mm (us:List Int) (j:Nat):Bool:=!decide (1≤us.getD j 0∧us.getD j 0≤999) || (decide ((j:Int)>0) && decide (us.getD j 0≤us.getD (j - 1) 0))
theorem PX {n:Nat} {us:List Int} (hb:us.length≤big) (hn:big<n):oU n us=bY (fun j=>if Mm us j=true then some (some (false,())) else none) (some (true,())) us.length 0:=by
 have hb':us.length≤1048576:=hb
 unfold oU
 refine aO (fun i=>(us,(i:Int),())) (fun j=>if Mm us j=true then some (some (false,())) else none) (some (true,())) (m:=us.length) rfl (by omega) ?_ ?_
 ·intro L i hi _
  simp only [Int.ofNat_lt,hi,decide_true,if_true,aG hi,Int.toNat_natCast,FW,Option.bind_some,aN hi (by omega)]
  unfold Mm
  cases h1:decide (1≤us.getD i 0∧us.getD i 0≤999) with
  | false=>rfl
  | true=>
   cases i with
   | zero=>rfl
   | succ j=>
    have hj:j<us.length:=by omega
    rw [decide_eq_true (show ((j+1:Nat):Int)>0 by omega),J5 hj (by omega)]
    simp only [aG hj,if_true,Int.toNat_natCast,Nat.add_sub_cancel,Bool.not_true,Bool.false_eq_true,if_false,Bool.false_or,Bool.true_and]
    by_cases hle:us.getD (j+1) 0≤us.getD j 0
    ·simp only [hle,decide_true,if_true]
    ·simp only [hle,decide_false,Bool.false_eq_true,if_false]
 ·intro L _
  simp
theorem PW {n:Nat} {us:List Int} (hb:us.length≤big) (hn:big<n):mH n us=bY (fun j=>if Mm us j=true then some (some (false,())) else none) (some (true,())) us.length 0:=by
 have hb':us.length≤1048576:=hb
 unfold mH
 refine aO (fun i=>(us,us,(us.length:Int),(i:Int),())) (fun j=>if Mm us j=true then some (some (false,())) else none) (some (true,())) (m:=us.length) rfl (by omega) ?_ ?_
 ·intro L i hi _
  have hu:qV n (us.getD i 0)=some (decide (1≤us.getD i 0∧us.getD i 0≤999),()):=by
   unfold qV
   rw [oW,FW]; rfl
  simp only [Int.ofNat_lt,hi,decide_true,if_true,aG hi,Int.toNat_natCast,hu,Option.bind_some,aN hi (by omega)]
  unfold Mm
  cases h1:decide (1≤us.getD i 0∧us.getD i 0≤999) with
  | false=>rfl
  | true=>
   cases i with
   | zero=>rfl
   | succ j=>
    have hj:j<us.length:=by omega
    rw [decide_eq_true (show ((j+1:Nat):Int)>0 by omega),J5 hj (by omega)]
    simp only [aG hj,if_true,Int.toNat_natCast,Nat.add_sub_cancel,Bool.not_true,Bool.false_eq_true,if_false,Bool.false_or,Bool.true_and,ge_iff_le]
    cases decide (us.getD (j+1) 0≤us.getD j 0) <;> rfl
 ·intro L _
  simp
def Fh (us:List Int):Bool:=((bY (fun j=>if Mm us j=true then some (some (false,())) else none) (some (true,())) us.length 0).getD (false,())).1
theorem Fj (us:List Int):bY (fun j=>if Mm us j=true then some (some (false,())) else none) (some (true,())) us.length 0=some (Fh us,()):=by
 unfold Fh
 rcases Ig (step:=fun j=>if Mm us j=true then some (some (false,())) else none) (fin:=some (true,())) (r:=some (false,())) (fun j=>by by_cases h:Mm us j=true <;> simp [h]) (m:=us.length) (i:=0) with h | h <;> rw [h] <;> rfl
def jg (o:OpC):Int:=
 if (!(decide (1≤o.1∧o.1≤7) && ED o))=true then 1 else
 if (!decide (rO o.2.1) || ((decide (o.1=5) || decide (o.1=6)) && !decide (rO o.2.2.1)))=true then 5 else
 if decide ((o.2.2.2.1.length:Int)>6)=true then 2 else
 if (!Fh o.2.2.2.1 || (decide (o.1=4) && !decide (1≤o.2.2.2.2.1∧o.2.2.2.2.1≤3)) || !decide (0≤o.2.2.2.2.2.1∧o.2.2.2.2.2.1≤15) || !decide (0≤o.2.2.2.2.2.2.1∧o.2.2.2.2.2.2.1≤9999))=true then 3 else
 if decide ((o.2.2.2.2.2.2.2.1.length:Int)>400)=true then 2 else 0
set_option maxRecDepth 20000 in
theorem Gs {n:Nat} {o:OpC} (ho:okO o) (hn:big<n):qB n o=some (jg o,()):=by
 unfold qB jg
 simp only [form,(name_eq ho.1 hn).2,(name_eq ho.2.1 hn).2,copies,FW,PX ho.2.2.1 hn,Fj,Option.bind_some]
 generalize (decide (1≤o.1∧o.1≤7) && ED o)=b0
 generalize decide (rO o.2.1)=b1
 generalize (decide (o.1=5) || decide (o.1=6))=b2
 generalize decide (rO o.2.2.1)=b3
 generalize decide ((o.2.2.2.1.length:Int)>6)=b4
 generalize Fh o.2.2.2.1=b5
 generalize decide (o.1=4)=b6
 generalize decide (1≤o.2.2.2.2.1∧o.2.2.2.2.1≤3)=b7
 generalize decide (0≤o.2.2.2.2.2.1∧o.2.2.2.2.2.1≤15)=b8
 generalize decide (0≤o.2.2.2.2.2.2.1∧o.2.2.2.2.2.2.1≤9999)=b9
 generalize decide ((o.2.2.2.2.2.2.2.1.length:Int)>400)=c
 revert b0 b1 b2 b3 b4 b5 b6 b7 b8 b9 c
 decide +kernel
set_option maxRecDepth 20000 in
theorem MV {n:Nat} {o:OpC} (ho:okO o) (hn:big<n):qy n o=some (jg o,()):=by
 have hfl:∀x,fD n x=some (decide (0≤x∧x≤15),()):=fun x=>by unfold fD; rw [oW,FW]; rfl
 have hda:∀x,ig n x=some (decide (0≤x∧x≤9999),()):=fun x=>by unfold ig; rw [oW,FW]; rfl
 unfold qy jg
 simp only [only,(name_eq ho.1 hn).1,(name_eq ho.2.1 hn).1,aal,oW,FW,PW ho.2.2.1 hn,Fj,hfl,hda,Option.bind_some]
 generalize ED o=b0
 generalize decide (1≤o.1∧o.1≤7)=a0
 generalize decide (rO o.2.1)=b1
 generalize (decide (o.1=5) || decide (o.1=6))=b2
 generalize decide (rO o.2.2.1)=b3
 generalize decide ((o.2.2.2.1.length:Int)>6)=b4
 generalize Fh o.2.2.2.1=b5
 generalize decide (o.1=4)=b6
 generalize decide (1≤o.2.2.2.2.1∧o.2.2.2.2.1≤3)=b7
 generalize decide (0≤o.2.2.2.2.2.1∧o.2.2.2.2.2.1≤15)=b8
 generalize decide (0≤o.2.2.2.2.2.2.1∧o.2.2.2.2.2.2.1≤9999)=b9
 generalize decide ((o.2.2.2.2.2.2.2.1.length:Int)>400)=c
 revert a0 b0 b1 b2 b3 b4 b5 b6 b7 b8 b9 c
 decide +kernel
def okR (r:CP):Prop:=r.2.1.length≤big∧Cy r.2.2.1
theorem Lc (c:Int):okR (bad c):=by
 refine ⟨by simp [bad,big],by simp [bad,big],fun b hb=>?_⟩
 simp [bad] at hb
theorem Iy {s:nA} {i:Nat} {b:Bx} {v:Int} (hs:Cy s) (hb:okB b):Cy (v,s.2.1.set i b,()):=by
 refine ⟨by simpa using hs.1,fun x hx=>?_⟩
 rcases List.mem_or_eq_of_mem_set hx with h | rfl
 ·exact hs.2 x h
 ·exact hb
theorem ND {b:Bx} {p:nX→Bool} (h:okB b):okB (b.1,b.2.1,b.2.2.1,b.2.2.2.1.filter p,()):=
 ⟨h.1,Nat.le_trans (List.length_filter_le _ _) h.2.1,fun m hm=>h.2.2 m (List.mem_filter.1 hm).1⟩
theorem XC {s:nA} {i k:Nat} {o:OpC} (hs:Cy s) (hsm:∀b∈s.2.1,Rn b) (hi:i<s.2.1.length) (hk:k<s.2.1.length):(CY s i k o).1.length≤big∧Cy (CY s i k o).2.2.1:=by
 have hT:(dG o (s.2.1.getD i dB)).length≤6:=Nat.le_trans (List.length_filter_le _ _) (hsm _ (dZ hi dB)).2
 have hK:=(hsm _ (dZ hk dB)).2
 unfold CY
 split
 ·exact ⟨by simp [big],hs⟩
 ·split
  ·exact ⟨by simp [big],hs⟩
  ·have hP:okB (fU (s.2.1.getD k dB) (dG o (s.2.1.getD i dB))):=PE (hs.2 _ (dZ hk dB)) (fun m hm=>(hs.2 _ (dZ hi dB)).2.2 m (List.mem_filter.1 hm).1) (by unfold big; omega)
   refine ⟨by rw [xw]; unfold big; omega, ?_⟩
   have h1:Cy (s.1,s.2.1.set k (fU (s.2.1.getD k dB) (dG o (s.2.1.getD i dB))),()):=Iy hs hP
   by_cases h6:o.1=6
   ·simp only [h6,if_true]
    exact Iy (s:=(s.1,s.2.1.set k (fU (s.2.1.getD k dB) (dG o (s.2.1.getD i dB))),())) h1 (ND (hs.2 _ (dZ hi dB)))
   ·simp only [h6,if_false]
    exact h1
theorem Xw {s:nA} {o:OpC} (h:Fit s o):(rW s o).1.length≤big∧Cy (rW s o).2.2.1:=by
 have hs:=h.Cy
 have hf:=h.few
 unfold rW
 by_cases k1:o.1=1
 ·rw [if_pos k1]
  unfold Ir
  split
  ·exact ⟨by simp [big],hs⟩
  ·split
   ·exact ⟨by simp [big],hs⟩
   ·split
    ·exact ⟨by simp [big],hs⟩
    ·refine ⟨by simp [big], ?_,fun b hb=>?_⟩
     ·simp [big]; omega
     ·rcases List.mem_append.1 hb with hb | hb
      ·exact hs.2 b hb
      ·simp only [List.mem_singleton] at hb
       subst hb
       exact ⟨h.okO.1,by simp [big],by simp⟩
 ·rw [if_neg k1]
  rcases qN s o.2.1 with hp | ⟨i,hp,hi⟩
  ·rw [hp,if_pos (by decide)]
   exact ⟨by simp [big],hs⟩
  ·rw [hp,if_neg (by omega),Int.toNat_natCast]
   have hB:=h.small _ (dZ hi dB)
   have Vg:=hs.2 _ (dZ hi dB)
   have hB2:=hB.2
   unfold TP
   split
   ·refine ⟨by simp [big], ?_,fun b hb=>?_⟩
    ·simp [big]; omega
    ·rcases List.mem_append.1 hb with hb | hb
     ·exact hs.2 b (List.mem_of_mem_take hb)
     ·exact hs.2 b (List.mem_of_mem_drop hb)
   ·split
    ·unfold ZI
     split
     ·exact ⟨by simp [big],hs⟩
     ·split
      ·exact ⟨by simp [big],hs⟩
      ·refine ⟨by simp [big],Iy hs (PE (l:=[_]) Vg (fun m hm=>?_) (by simp only [List.length_singleton]; unfold big; omega))⟩
       simp only [List.mem_singleton] at hm
       subst hm
       exact Vv h.okO
    ·split
     ·refine ⟨?_,Iy hs ⟨Vg.1,by simpa [MZ] using Vg.2.1,fun m hm=>?_⟩⟩
      ·unfold Pd
       rw [List.length_map]
       exact Nat.le_trans (List.length_filter_le _ _) Vg.2.1
      ·obtain ⟨x,hx,rfl⟩:=List.mem_map.1 hm
       unfold nK
       split
       ·exact Vg.2.2 x hx
       ·exact Vg.2.2 x hx
     ·split
      ·refine ⟨?_,Iy hs (ND Vg)⟩
       unfold aad
       rw [List.length_map]
       exact Nat.le_trans (List.length_filter_le _ _) Vg.2.1
      ·unfold carried
       split
       ·exact ⟨by simp [big],hs⟩
       ·split
        ·exact ⟨by simp [big],hs⟩
        ·rename_i hneg _
         rcases qN s o.2.2.1 with hp2 | ⟨k,hp2,hk⟩
         ·rw [hp2] at hneg; exact absurd (by decide) hneg
         ·rw [hp2,Int.toNat_natCast]
          exact XC hs h.small hi hk
theorem adt {s:nA} {o:OpC} (h:Fit s o):okR (Cj (rW s o)):=by
 unfold Cj
 split
 ·exact Xw h
 ·exact Lc _
theorem fit {s:nA} {o:OpC} (hs:Cy s) (ho:okO o) (hg:BU s) (hf:jg o=0):Fit s o:=by
 refine ⟨hs,ho,hg.1,hg.2.1,fun b hb=>?_,fun h4=>?_⟩
 ·obtain ⟨i,hi,rfl⟩:=List.mem_iff_getElem.1 hb
  have:=(hg.2.2 i hi).1
  rw [getD_lt hi] at this
  obtain ⟨_,_,h3,h4,_⟩:=this
  exact ⟨⟨by omega,h3.2⟩,h4⟩
 ·unfold jg at hf
  split at hf
  ·omega
  ·split at hf
   ·omega
   ·split at hf
    ·omega
    ·split at hf
     ·omega
     ·rename_i hc
      rw [decide_eq_true h4] at hc
      simp only [Bool.not_eq_true,Bool.or_eq_false_iff,Bool.true_and] at hc
      have:=hc.1.1.2
      simpa using this
theorem Qo {n:Nat} {s:nA} {o:OpC} (hs:Cy s) (ho:okO o) (hg:BU s) (hn:big<n):∃r:CP,uQ n s o=some (r,())∧uF n s o=some (r,())∧okR r∧
  ((jg o=0∧r=Cj (rW s o))∨(jg o≠0∧r=bad (jg o))):=by
 obtain ⟨he,c,hc,hgc⟩:=MU hs hn
 have h0:=hgc.2 hg
 unfold uQ uF
 rw [hc]
 simp only [Option.bind_some,h0,decide_true,Bool.not_true,Bool.false_eq_true,if_false,Gs ho hn,MV ho hn]
 by_cases h1:jg o=0
 ·have hF:=fit hs ho hg h1
  simp only [h1,decide_true,Bool.not_true,Bool.false_eq_true,if_false,UD hF hn,own hs hn,UC hF hn,Option.bind_some]
  refine ⟨Cj (rW s o),rfl, ?_,adt hF, .inl ⟨trivial,rfl⟩⟩
  unfold Cj
  by_cases h2:(rW s o).2.1=0
  ·simp only [h2,decide_true,Bool.not_true,Bool.false_eq_true,if_false,if_true]
  ·simp only [h2,decide_false,Bool.not_false,if_true,if_false]
   rfl
 ·refine ⟨bad (jg o), ?_, ?_,Lc _, .inr ⟨h1,rfl⟩⟩
  ·simp only [h1,decide_false,Bool.not_false,if_true]; rfl
  ·simp only [h1,decide_false,Bool.not_false,if_true]; rfl
end Go.Proofs.YtdknpknohipffaaGreat.kR
