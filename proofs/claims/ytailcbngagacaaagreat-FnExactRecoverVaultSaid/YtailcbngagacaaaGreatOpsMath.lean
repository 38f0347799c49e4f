/- Ops on stores: what the printed functions of both sides come to. -/
import Derived.Test.YtailcbngagacaaaGreatOwF
import Derived.Test.YtailcbngagacaaaGreatLoopLib
import Derived.Test.YtailcbngagacaaaGreatCutLib
import Derived.Test.YtailcbngagacaaaGreatTakeLib
import Derived.Test.YtailcbngagacaaaGreatStoreMath
import Derived.Test.YtailcbngagacaaaGreatRecF
set_option linter.unusedSectionVars false
set_option linter.unusedVariables false
set_option linter.unusedSimpArgs false
namespace Go.Proofs.YtailcbngagacaaaGreat.og
open Go Go.Proofs.YtailcbngagacaaaGreat.Ow Go.Proofs.YtailcbngagacaaaGreat.FD Go.Proofs.YtailcbngagacaaaGreat.qM Go.Proofs.YtailcbngagacaaaGreat.lN
abbrev OpC:=Int×List Int×List Int×List Int×Int×Int×Int×List Int×Unit
def okO (o:OpC):Prop:=o.2.1.length≤big∧o.2.2.1.length≤big∧o.2.2.2.1.length≤big∧o.2.2.2.2.2.2.2.1.length≤big
theorem Rp {n:Nat} {bs:List Int} (h:bs.length≤big):nM n bs=some (bs,()):=by
 unfold big at h
 unfold nM
 rw [if_pos (by simp; omega)]
 rfl
theorem clone {n:Nat} {bs:List Int} (h:bs.length≤big):dz n bs=some (bs,()):=by
 unfold big at h
 unfold dz
 have hc:(([]:List Int).length+bs.length) * 1≤140737488355328:=by simp; omega
 simp only [if_pos hc]
 cases bs with
 | nil=>exact (if_pos (show ([]:List Int).isEmpty=true from rfl)).trans (V9 (ks:=[.sl 5 (.int .u8)]) (some (([]:List Int),())))
 | cons b bs=>rfl
theorem Rs {n:Nat} {ms:List mP} (hb:ms.length≤big) (h:∀m∈ms,Ht m) (hn:big<n):nZ n ms=some (ms,()):=by
 have hb':=hb
 unfold big at hb
 unfold nZ
 refine (aR (fun i=>(ms,(i:Int),ms.take i,())) (fun _=>none) (some (ms,())) (m:=ms.length) (by simp) (by omega) ?_ ?_).trans (bL (fun _ _ _=>rfl))
 ·intro L i hi _
  have ht:ms.take (i+1)=ms.take i++[ms[i]]:=by simp
  have hl:(ms.take i).length≤i:=by simp; omega
  simp only [Int.ofNat_lt,hi,decide_true,if_true,aG hi,eT hi,aS hi (by omega),Rp (h ms[i] (List.getElem_mem hi)),Option.bind_some,List.length_singleton,ht]
  rw [if_pos (by omega)]
 ·intro L _
  simp
theorem F5 {n:Nat} {b:Bx} (h:okB b) (hn:big<n):jd n b=some (b,()):=by
 unfold jd
 rw [Rs h.2.1 h.2.2 hn]
 rfl
theorem Rq {n:Nat} {s:lK} (h:Ar s) (hn:big<n):nN n s=some (s,()):=by
 have hb:=h.1
 unfold big at hb
 unfold nN
 refine (aR (fun i=>((i:Int),s,(0,[],()),(s.1,s.2.1.take i,()),())) (fun _=>none) (some (s,())) (m:=s.2.1.length) (by simp) (by have:=h.1; omega) ?_ ?_).trans (bL (fun _ _ _=>rfl))
 ·intro L i hi _
  have ht:s.2.1.take (i+1)=s.2.1.take i++[s.2.1[i]]:=by simp
  have hl:(s.2.1.take i).length≤i:=by simp; omega
  simp only [Int.ofNat_lt,hi,decide_true,if_true,aG hi,eT hi,aS hi (by omega),F5 (h.2 _ (List.getElem_mem hi)) hn,Option.bind_some,List.length_singleton,ht]
  rw [if_pos (by omega)]
 ·intro L _
  simp
theorem own {n:Nat} {s:lK} (h:Ar s) (hn:big<n):kT n s=some (s,()):=by
 have hb:=h.1
 unfold big at hb
 unfold kT
 refine (aR (fun i=>(s.2.1,(s.2.1.length:Int),(i:Int),(0,[],()),(s.1,s.2.1.take i,()),())) (fun _=>none) (some (s,())) (m:=s.2.1.length) (by simp) (by have:=h.1; omega) ?_ ?_).trans (bL (fun _ _ _=>rfl))
 ·intro L i hi _
  have ht:s.2.1.take (i+1)=s.2.1.take i++[s.2.1[i]]:=by simp
  have hl:(s.2.1.take i).length≤i:=by simp; omega
  simp only [Int.ofNat_lt,hi,decide_true,if_true,aG hi,eT hi]
  have hB:=h.2 _ (List.getElem_mem hi)
  generalize s.2.1[i]=b at hB ht ⊢
  have hb2:=hB.2.1
  unfold big at hb2
  refine (aR (fun j=>(s.2.1,(s.2.1.length:Int),(i:Int),b.2.2.2.1,(b.2.2.2.1.length:Int),(j:Int),(0,[],()),(s.1,s.2.1.take i,()),(b.1,b.2.1,b.2.2.1,b.2.2.2.1.take j,()),())) (fun _=>none) (L (s.2.1,(s.2.1.length:Int),((i+1:Nat):Int),(0,[],()),(s.1,s.2.1.take (i+1),()),())) (m:=b.2.2.2.1.length) (by simp) (by have:=hB.2.1; omega) ?_ ?_).trans (bL (fun _ _ _=>rfl))
  ·intro L2 j hj _
   have htj:b.2.2.2.1.take (j+1)=b.2.2.2.1.take j++[b.2.2.2.1[j]]:=by simp
   have hlj:(b.2.2.2.1.take j).length≤j:=by simp; omega
   simp only [Int.ofNat_lt,hj,decide_true,if_true,aG hj,eT hj,aS hj (by omega),clone (hB.2.2 _ (List.getElem_mem hj)),Option.bind_some,List.length_singleton,htj]
   rw [if_pos (by omega)]
  ·intro L2 _
   simp only [Int.lt_irrefl,decide_false,Bool.false_eq_true,if_false,List.take_length,List.length_singleton,aS hi (by omega),ht]
   rw [if_pos (by omega)]
 ·intro L _
  simp
def Au (s:lK) (nm:List Int):Int:=if s.2.1.findIdx (fun b=>decide (b.1=nm))<s.2.1.length then ((s.2.1.findIdx (fun b=>decide (b.1=nm)):Nat):Int) else -1
theorem pJ (s:lK) (nm:List Int):Au s nm=-1∨∃i:Nat,Au s nm=(i:Int)∧i<s.2.1.length:=by
 unfold Au
 split
 ·exact .inr ⟨_,rfl,by assumption⟩
 ·exact .inl rfl
theorem ac2 {n:Nat} {s:lK} {nm:List Int} (hb:s.2.1.length≤big) (hn:big<n):rC n s nm=some (Au s nm,()):=by
 have hb':=hb
 unfold big at hb
 unfold rC
 refine (aR (fun i=>(s,nm,(i:Int),())) (fun j=>if decide ((s.2.1.getD j dB).1=nm)=true then some (some ((j:Int),())) else none) (some (-1,())) (m:=s.2.1.length) rfl (by omega) ?_ ?_).trans ?_
 ·intro L i hi _
  simp only [Int.ofNat_lt,hi,decide_true,if_true,aG hi,Int.toNat_natCast,aS hi (by omega)]
  split <;> rfl
 ·intro L _
  simp
 ·rw [mq.Ai (p:=fun b:Bx=>decide (b.1=nm)) (r:=fun j=>some ((j:Int),())) s.2.1.length 0 (by omega)]
  simp only [List.drop_zero,Nat.zero_add]
  unfold Au
  split <;> rfl
theorem box {n:Nat} {s:lK} {nm:List Int} (hb:s.2.1.length≤big) (hn:big<n):iZ n s nm=some (Au s nm,()):=by
 unfold iZ
 have h:bW n s.2.1 nm=some (_,()):=mq.JN (p:=fun b:Bx=>decide (b.1=nm)) (q:=fun c x=>q8 n x c) (d:=dB) (fun _ _=>rfl) (fun _=>rfl) (by unfold big at hb; omega) (by omega)
 rw [h]
 rfl
theorem has {n:Nat} {us:List Int} {x:Int} (hb:us.length≤big) (hn:big<n):mJ n us x=some (us.contains x,()):=
 jF.O5 (fun _ _=>rfl) (by unfold big at hb; omega) (by omega)
theorem contains {n:Nat} {us:List Int} {x:Int} (hb:us.length≤big) (hn:big<n):aV n us x=some (us.contains x,()):=
 mq.Nc (fun _ _=>rfl) (by unfold big at hb; omega) (by omega)
def zA (b:Bx) (m:mP):Bx:=(b.1,b.2.1,b.2.2.1+1,b.2.2.2.1++[(b.2.2.1,m.2.1,m.2.2.1,m.2.2.2.1,())],())
theorem PO {n:Nat} {b:Bx} {m:mP} (hm:Ht m) (h1:0≤b.2.2.1) (h2:b.2.2.1≤2000) (h3:b.2.2.2.1.length≤2000):mK n b m=some (b.2.2.1,zA b m,()):=by
 unfold mK
 rw [Rp hm]
 simp only [Option.bind_some,List.length_singleton]
 rw [if_pos (by omega),wrap_i64 (by omega) (by omega)]
 rfl
theorem PN {n:Nat} {b:Bx} {m:mP} (hm:Ht m) (h1:0≤b.2.2.1) (h2:b.2.2.1≤2000) (h3:b.2.2.2.1.length≤2000):rY n b m=some (b.2.2.1,zA b m,()):=by
 unfold rY
 rw [clone hm]
 simp only [Option.bind_some,List.length_singleton]
 rw [if_pos ⟨trivial,by omega⟩,wrap_i64 (x:=b.2.2.1+1) (by omega) (by omega),show b.2.2.1+1 - 1=b.2.2.1 by omega,wrap_i64 (by omega) (by omega)]
 rfl
theorem Ve {n:Nat} {b:Bx} {m:mP} (hm:Ht m) (h1:0≤b.2.2.1) (h2:b.2.2.1≤2000) (h3:b.2.2.2.1.length≤2000):jS n b m=some (b.2.2.1,zA b m,()):=PN hm h1 h2 h3
def turn (was mode fl:Int):Int:=
 if mode=2 then IntKind.i64.wrap ((BitVec.ofInt (IntKind.bits .i64) was ||| BitVec.ofInt (IntKind.bits .i64) fl).toNat) else if mode=3 then IntKind.i64.wrap ((BitVec.ofInt (IntKind.bits .i64) was &&& ~~~ BitVec.ofInt (IntKind.bits .i64) fl).toNat) else fl
def mg (o:OpC) (m:mP):mP:=if o.2.2.2.1.contains m.1=true then (m.1,turn m.2.1 o.2.2.2.2.1 o.2.2.2.2.2.1,m.2.2) else m
def Jw (o:OpC) (b:Bx):Bx:=(b.1,b.2.1,b.2.2.1,b.2.2.2.1.map (mg o),())
def LA (o:OpC) (b:Bx):List Int:=(b.2.2.2.1.filter fun m=>o.2.2.2.1.contains m.1).map (·.1)
theorem flags {n:Nat} (a m f:Int):sK n a m f=some (turn a m f,()):=by
 unfold sK turn
 by_cases h2:m=2
 ·simp [h2]
 ·by_cases h3:m=3 <;> simp [h2,h3]
theorem NB {A:Type} {p:A→Bool} {x:A} (h:p x=false):[x].filter p=[]:=by simp [List.filter_cons,h]
theorem one_pos {A:Type} {p:A→Bool} {x:A} (h:p x=true):[x].filter p=[x]:=by simp [List.filter_cons,h]
theorem P5 {A:Type} {f:A→A} {xs:List A} {i:Nat} (hi:i<xs.length) (h:f xs[i]=xs[i]):(xs.map f).take i++xs.drop i=(xs.map f).take (i+1)++xs.drop (i+1):=by
 have h1:=Aq (xs:=xs) (ys:=xs.map f) (by simp) hi xs[i] (by simp [h])
 rw [←h1]
 symm
 have hl:i<((xs.map f).take i++xs.drop i).length:=by simp; omega
 have hg:=EG (xs:=xs) (ys:=xs.map f) (by simp) hi xs[i]
 rw [List.getD_eq_getElem?_getD,List.getElem?_eq_getElem hl] at hg
 simp only [Option.getD_some] at hg
 conv=>lhs; rw [←hg]
 exact List.set_getElem_self hl
theorem Ux {n:Nat} {b:Bx} {o:OpC} (hb:b.2.2.2.1.length≤big) (ho:o.2.2.2.1.length≤big) (hn:big<n):uT n b o=some (LA o b,Jw o b,()):=by
 have hb':=hb
 unfold big at hb
 unfold uT
 obtain ⟨nm,va,ne,ms,u⟩:=b
 have hb:ms.length≤1048576:=hb
 refine (aR (fun i=>(o,(i:Int),(nm,va,ne,(ms.map (mg o)).take i++ms.drop i,()),((ms.take i).filter fun m=>o.2.2.2.1.contains m.1).map (·.1),())) (fun _=>none) (some (LA o (nm,va,ne,ms,()),Jw o (nm,va,ne,ms,()),())) (m:=ms.length) (by simp) (by unfold big at hn; omega) ?_ ?_).trans (bL (fun _ _ _=>rfl))
 ·intro L i hi _
  have hy:(ms.map (mg o)).length=ms.length:=by simp
  have hlen:=Cz (xs:=ms) (ys:=ms.map (mg o)) hy (Nat.le_of_lt hi)
  have hget:=EG (xs:=ms) (ys:=ms.map (mg o)) hy hi dM
  have ht:ms.take (i+1)=ms.take i++[ms[i]]:=by simp
  have hl1:(((ms.take i).filter fun m=>o.2.2.2.1.contains m.1).map (·.1)).length≤i:=by
   rw [List.length_map]; exact Nat.le_trans (List.length_filter_le _ _) (by simp; omega)
  simp only [hlen,Int.ofNat_lt,hi,decide_true,if_true,aG hi,Int.toNat_natCast,iM,hget,has ho hn,Option.bind_some,flags,aS hi (by omega)]
  cases hc:o.2.2.2.1.contains ms[i].1 with
  | false=>
   have hf:mg o ms[i]=ms[i]:=by unfold mg; rw [hc]; rfl
   rw [if_neg Bool.false_ne_true,P5 hi hf,ht,List.filter_append,NB (p:=fun m:mP=>o.2.2.2.1.contains m.1) hc,List.append_nil]
  | true=>
   have hset:=Aq (xs:=ms) (ys:=ms.map (mg o)) hy hi (ms[i].1,turn ms[i].2.1 o.2.2.2.2.1 o.2.2.2.2.2.1,ms[i].2.2) (by rw [List.getElem_map]; unfold mg; rw [if_pos hc])
   have hgs:((ms.map (mg o)).take (i+1)++ms.drop (i+1)).getD i dM=(ms[i].1,turn ms[i].2.1 o.2.2.2.2.1 o.2.2.2.2.2.1,ms[i].2.2):=by
    rw [←hset,List.getD_eq_getElem?_getD,List.getElem?_set_self (by omega)]; rfl
   simp only [if_true,hset,hgs,List.length_singleton]
   rw [if_pos (by omega),ht,List.filter_append,one_pos (p:=fun m:mP=>o.2.2.2.1.contains m.1) hc,List.map_append]
   rfl
 ·intro L _
  have ht:(ms.map (mg o)).take ms.length=ms.map (mg o):=List.take_of_length_le (by simp)
  simp only [ht,List.length_map,Int.lt_irrefl,decide_false,Bool.false_eq_true,if_false,List.take_length,List.drop_length,List.append_nil]
  rfl
theorem Uw {n:Nat} {b:Bx} {o:OpC} (hb:b.2.2.2.1.length≤big) (ho:o.2.2.2.1.length≤big) (hn:big<n) (hm:1≤o.2.2.2.2.1∧o.2.2.2.2.1≤3):mE n b o=some (LA o b,Jw o b,()):=by
 have hb':=hb
 unfold big at hb
 unfold mE
 obtain ⟨nm,va,ne,ms,u⟩:=b
 have hb:ms.length≤1048576:=hb
 refine (aR (fun i=>((ms.length:Int),(i:Int),(nm,va,ne,(ms.map (mg o)).take i++ms.drop i,()),o,((ms.take i).filter fun m=>o.2.2.2.1.contains m.1).map (·.1),())) (fun _=>none) (some (LA o (nm,va,ne,ms,()),Jw o (nm,va,ne,ms,()),())) (m:=ms.length) (by simp) (by unfold big at hn; omega) ?_ ?_).trans (bL (fun _ _ _=>rfl))
 ·intro L i hi _
  have hy:(ms.map (mg o)).length=ms.length:=by simp
  have hlen:=Cz (xs:=ms) (ys:=ms.map (mg o)) hy (Nat.le_of_lt hi)
  have hget:=EG (xs:=ms) (ys:=ms.map (mg o)) hy hi dM
  have ht:ms.take (i+1)=ms.take i++[ms[i]]:=by simp
  have hl1:(((ms.take i).filter fun m=>o.2.2.2.1.contains m.1).map (·.1)).length≤i:=by
   rw [List.length_map]; exact Nat.le_trans (List.length_filter_le _ _) (by simp; omega)
  simp only [hlen,Int.ofNat_lt,hi,decide_true,if_true,aG hi,Int.toNat_natCast,iM,hget,contains ho hn,Option.bind_some,aS hi (by omega)]
  cases hc:o.2.2.2.1.contains ms[i].1 with
  | false=>
   have hf:mg o ms[i]=ms[i]:=by unfold mg; rw [hc]; rfl
   rw [Bool.not_false,if_pos rfl,P5 hi hf,ht,List.filter_append,NB (p:=fun m:mP=>o.2.2.2.1.contains m.1) hc,List.append_nil]
  | true=>
   have hset:=Aq (xs:=ms) (ys:=ms.map (mg o)) hy hi (ms[i].1,turn ms[i].2.1 o.2.2.2.2.1 o.2.2.2.2.2.1,ms[i].2.2) (by rw [List.getElem_map]; unfold mg; rw [if_pos hc])
   rw [Bool.not_true,if_neg Bool.false_ne_true]
   simp only [List.length_singleton]
   rw [if_pos (by omega),ht,List.filter_append,one_pos (p:=fun m:mP=>o.2.2.2.1.contains m.1) hc,List.map_append, ←hset]
   unfold turn
   by_cases h1:o.2.2.2.2.1=1
   ·simp [h1]
   ·by_cases h2:o.2.2.2.2.1=2
    ·simp [h2]
    ·have h3:o.2.2.2.2.1=3:=by omega
     simp [h3]
 ·intro L _
  have ht:(ms.map (mg o)).take ms.length=ms.map (mg o):=List.take_of_length_le (by simp)
  simp only [ht,Int.lt_irrefl,decide_false,Bool.false_eq_true,if_false,List.take_length,List.drop_length,List.append_nil]
  rfl
theorem Vb (us:List Int) (u f:Int):jF.pick us 0 u f=us.contains u:=by
 unfold jF.pick
 rw [show BitVec.ofInt (IntKind.bits .i64) f &&& BitVec.ofInt (IntKind.bits .i64) 0=BitVec.ofInt (IntKind.bits .i64) 0 from BitVec.and_zero]
 have:(IntKind.i64.wrap ((BitVec.ofInt (IntKind.bits .i64) 0).toNat:Int))=0:=by decide
 rw [this]
 simp
def WJ (b:Bx):List Int:=(b.2.2.2.1.filter fun m=>jX.del m.2.1).map (·.1)
def XJ (b:Bx):Bx:=(b.1,b.2.1,b.2.2.1,b.2.2.2.1.filter (fun m=>!jX.del m.2.1),())
theorem ade {n:Nat} {b:Bx} (hb:b.2.2.2.1.length≤big) (hn:big<n):fU n b=some (WJ b,XJ b,()):=by
 unfold big at hb hn
 show jX.yS n b=_
 unfold jX.yS
 rw [if_pos ⟨by omega,by omega⟩]
 rfl
theorem Vm {n:Nat} {b:Bx} (hb:b.2.2.2.1.length≤big) (hn:big<n):fP n b [] 8=some (b.2.2.2.1.filter (fun m=>jX.del m.2.1),XJ b,()):=by
 unfold big at hb hn
 show jF.Bl jF.pick n b [] 8=_
 unfold jF.Bl
 rw [if_pos ⟨by omega,by omega,by simp,by simp; omega⟩]
 rfl
def dD (o:OpC) (b:Bx):List mP:=b.2.2.2.1.filter fun m=>o.2.2.2.1.contains m.1
def aaK (o:OpC) (b:Bx):Bx:=(b.1,b.2.1,b.2.2.1,b.2.2.2.1.filter (fun m=>!o.2.2.2.1.contains m.1),())
theorem Mr {n:Nat} {b:Bx} {o:OpC} (hb:b.2.2.2.1.length≤big) (ho:o.2.2.2.1.length≤big) (hn:big<n):fP n b o.2.2.2.1 0=some (dD o b,aaK o b,()):=by
 have hb':=hb
 have ho':=ho
 unfold big at hb ho hn
 show jF.Bl jF.pick n b o.2.2.2.1 0=_
 unfold jF.Bl
 rw [if_pos ⟨by omega,by omega,by omega,by omega⟩]
 simp only [Vb]
 rfl
def fM (b:Bx) (l:List mP):Bx:=l.foldl zA b
def yO (b:Bx):Nat→List Int
 | 0=>[]
 | k+1=>yO b k++[b.2.2.1+(k:Int)]
theorem ve (b:Bx):∀k,(yO b k).length=k
 | 0=>rfl
 | k+1=>by simp [yO,ve b k]
theorem PM (b:Bx) (l:List mP) (m:mP):fM b (l++[m])=zA (fM b l) m:=by simp [fM]
theorem GI (b:Bx):∀l:List mP,(fM b l).2.2.1=b.2.2.1+(l.length:Int)∧(fM b l).2.2.2.1.length=b.2.2.2.1.length+l.length:=by
 intro l
 induction l generalizing b with
 | nil=>simp [fM]
 | cons m l ih=>
  have:=ih (zA b m)
  simp only [fM,List.foldl_cons,List.length_cons] at this ⊢
  rw [this.1,this.2]
  simp [zA]
  omega
theorem Md {l:List mP}:∀{b:Bx},okB b→(∀m∈l,Ht m)→b.2.2.2.1.length+l.length≤big→okB (fM b l):=by
 induction l with
 | nil=>intro b h _ _; exact h
 | cons m l ih=>
  intro b h hl hb
  simp only [List.length_cons] at hb
  refine ih (b:=zA b m) ⟨h.1, ?_, ?_⟩ (fun x hx=>hl x (by simp [hx])) ?_
  ·simp only [zA,List.length_append,List.length_singleton]; omega
  ·intro x hx
   simp only [zA,List.mem_append,List.mem_singleton] at hx
   rcases hx with hx | rfl
   ·exact h.2.2 x hx
   ·exact hl m (by simp)
  ·simp only [zA,List.length_append,List.length_singleton]; omega
theorem Ch {A:Type} {xs:List A} {k:Nat} (h:k<xs.length) (y d:A):(xs.set k y).getD k d=y:=by
 rw [List.getD_eq_getElem?_getD,List.getElem?_set_self h]; rfl
theorem getD_lt {A:Type} {xs:List A} {k:Nat} (h:k<xs.length) (d:A):xs.getD k d=xs[k]:=by
 rw [List.getD_eq_getElem?_getD,List.getElem?_eq_getElem h]; rfl
theorem Yl {A:Type} {xs:List A} {k:Nat} (h:k<xs.length) (d:A):xs.set k (xs.getD k d)=xs:=by
 rw [List.getD_eq_getElem?_getD,List.getElem?_eq_getElem h]
 exact List.set_getElem_self h
theorem PR {s:lK} {k j:Nat} {l:List mP} {b:Bx} (hk:k<s.2.1.length) (hj:j<l.length) :
  ((s.2.1.set k (fM b (l.take j))).set k (zA (fM b (l.take j)) l[j]))=s.2.1.set k (fM b (l.take (j+1))):=by
 rw [List.set_set, ←PM]
 congr 2
 simp
theorem I9 {n:Nat} {s:lK} {at':Int} {k:Nat} {o:OpC} {part:Bx} {l:List mP} {b:Bx} {fin:Int×OpC×Int×Int×lK×Bx×List mP×List Int×Unit→Option (List Int×Int×lK×Unit)}
  {B:(Int×OpC×Int×Int×lK×Bx×List mP×List Int×Unit→Option (List Int×Int×lK×Unit))→Int×OpC×Int×Int×lK×Bx×List mP×List Int×Unit→Option (List Int×Int×lK×Unit)}
  (hB:∀L v,B L v=(if decide (v.2.2.2.1<(v.2.2.2.2.2.2.1.length:Int))=true then (if aI v.2.2.2.1 v.2.2.2.2.2.2.1.length then ((mK n (v.2.2.2.2.1.2.1.getD v.2.2.1.toNat dB) (v.2.2.2.2.2.2.1.getD v.2.2.2.1.toNat dM)).bind fun r5=>(if (v.2.2.2.2.2.2.2.1.length+[r5.1].length) * 8≤140737488355328 then L (v.1,v.2.1,v.2.2.1,IntKind.i64.wrap (v.2.2.2.1+(1:Int)),(v.2.2.2.2.1.1,v.2.2.2.2.1.2.1.set v.2.2.1.toNat r5.2.1,v.2.2.2.2.1.2.2),v.2.2.2.2.2.1,v.2.2.2.2.2.2.1,v.2.2.2.2.2.2.2.1++[r5.1],()) else none)) else none) else fin v))
  (hk:k<s.2.1.length) (hb:s.2.1.getD k dB=b) (hl:∀m∈l,Ht m) (hl6:l.length≤6) (h1:0≤b.2.2.1) (h2:b.2.2.1≤1000) (h3:b.2.2.2.1.length≤6) (hn:big<n) :
  rounds B n (at',o,(k:Int),(0:Int),s,part,l,[],())=fin (at',o,(k:Int),(l.length:Int),(s.1,s.2.1.set k (fM b l),()),part,l,yO b l.length,()):=by
 have hn':1048576<n:=hn
 refine (aR (fun j=>(at',o,(k:Int),(j:Int),(s.1,s.2.1.set k (fM b (l.take j)),()),part,l,yO b j,())) (fun _=>none) (fin (at',o,(k:Int),(l.length:Int),(s.1,s.2.1.set k (fM b l),()),part,l,yO b l.length,())) (m:=l.length) ?_ (by omega) ?_ ?_).trans (bL (fun _ _ _=>rfl))
 ·rw [List.take_zero]
  show _=(_,_,_,_,(s.1,s.2.1.set k b,()),_,_,[],())
  rw [←hb,Yl hk]
  rfl
 ·intro L j hj _
  have hp:=GI b (l.take j)
  have hlt:(l.take j).length=j:=by simp; omega
  rw [hlt] at hp
  have hput:=PO (n:=n) (b:=fM b (l.take j)) (m:=l[j]) (hl _ (List.getElem_mem hj)) (by rw [hp.1]; omega) (by rw [hp.1]; omega) (by rw [hp.2]; omega)
  simp only [hB,Int.ofNat_lt,hj,decide_true,if_true,aG hj,Int.toNat_natCast,getD_lt hj,Ch hk,hput,Option.bind_some,aS hj (by omega),ve,List.length_singleton,PR hk hj]
  rw [if_pos (by omega),hp.1]
  rfl
 ·intro L _
  simp only [hB,Int.lt_irrefl,decide_false,Bool.false_eq_true,if_false,List.take_length]
theorem I8 {n:Nat} {s:lK} {at':Int} {k:Nat} {o:OpC} {l:List mP} {b:Bx} {fin:Int×Int×Int×Int×lK×OpC×List mP×List Int×Unit→Option (List Int×Int×lK×Unit)}
  {B:(Int×Int×Int×Int×lK×OpC×List mP×List Int×Unit→Option (List Int×Int×lK×Unit))→Int×Int×Int×Int×lK×OpC×List mP×List Int×Unit→Option (List Int×Int×lK×Unit)}
  (hB:∀L v,B L v=(if decide (v.2.2.2.1<v.2.2.1)=true then (if aI v.2.2.2.1 v.2.2.2.2.2.2.1.length then ((jS n (v.2.2.2.2.1.2.1.getD v.2.1.toNat dB) (v.2.2.2.2.2.2.1.getD v.2.2.2.1.toNat dM)).bind fun r6=>(if (v.2.2.2.2.2.2.2.1.length+[r6.1].length) * 8≤140737488355328 then L (v.1,v.2.1,v.2.2.1,IntKind.i64.wrap (v.2.2.2.1+(1:Int)),(v.2.2.2.2.1.1,v.2.2.2.2.1.2.1.set v.2.1.toNat r6.2.1,v.2.2.2.2.1.2.2),v.2.2.2.2.2.1,v.2.2.2.2.2.2.1,v.2.2.2.2.2.2.2.1++[r6.1],()) else none)) else none) else fin v))
  (hk:k<s.2.1.length) (hb:s.2.1.getD k dB=b) (hl:∀m∈l,Ht m) (hl6:l.length≤6) (h1:0≤b.2.2.1) (h2:b.2.2.1≤1000) (h3:b.2.2.2.1.length≤6) (hn:big<n) :
  rounds B n (at',(k:Int),(l.length:Int),(0:Int),s,o,l,[],())=fin (at',(k:Int),(l.length:Int),(l.length:Int),(s.1,s.2.1.set k (fM b l),()),o,l,yO b l.length,()):=by
 have hn':1048576<n:=hn
 refine (aR (fun j=>(at',(k:Int),(l.length:Int),(j:Int),(s.1,s.2.1.set k (fM b (l.take j)),()),o,l,yO b j,())) (fun _=>none) (fin (at',(k:Int),(l.length:Int),(l.length:Int),(s.1,s.2.1.set k (fM b l),()),o,l,yO b l.length,())) (m:=l.length) ?_ (by omega) ?_ ?_).trans (bL (fun _ _ _=>rfl))
 ·rw [List.take_zero]
  show _=(_,_,_,_,(s.1,s.2.1.set k b,()),_,_,[],())
  rw [←hb,Yl hk]
  rfl
 ·intro L j hj _
  have hp:=GI b (l.take j)
  have hlt:(l.take j).length=j:=by simp; omega
  rw [hlt] at hp
  have hput:=Ve (n:=n) (b:=fM b (l.take j)) (m:=l[j]) (hl _ (List.getElem_mem hj)) (by rw [hp.1]; omega) (by rw [hp.1]; omega) (by rw [hp.2]; omega)
  simp only [hB,Int.ofNat_lt,hj,decide_true,if_true,aG hj,Int.toNat_natCast,getD_lt hj,Ch hk,hput,Option.bind_some,aS hj (by omega),ve,List.length_singleton,PR hk hj]
  rw [if_pos (by omega),hp.1]
  rfl
 ·intro L _
  simp only [hB,Int.lt_irrefl,decide_false,Bool.false_eq_true,if_false,List.take_length]
theorem LM {n:Nat} {ms:List mP} {o:OpC} {a b:Int} {s:lK} {fin:Int×Int×List mP×Int×Int×lK×OpC×List mP×Unit→Option (List Int×Int×lK×Unit)}
  {B:(Int×Int×List mP×Int×Int×lK×OpC×List mP×Unit→Option (List Int×Int×lK×Unit))→Int×Int×List mP×Int×Int×lK×OpC×List mP×Unit→Option (List Int×Int×lK×Unit)}
  (hB:∀L v,B L v=(if decide (v.2.2.2.2.1<v.2.2.2.1)=true then (if aI v.2.2.2.2.1 v.2.2.1.length then ((aV n v.2.2.2.2.2.2.1.2.2.2.1 ((v.2.2.1.getD v.2.2.2.2.1.toNat dM).1)).bind fun r3=>(if r3.1=true then (if (v.2.2.2.2.2.2.2.1.length+[v.2.2.1.getD v.2.2.2.2.1.toNat dM].length) * 48≤140737488355328 then L (v.1,v.2.1,v.2.2.1,v.2.2.2.1,IntKind.i64.wrap (v.2.2.2.2.1+(1:Int)),v.2.2.2.2.2.1,v.2.2.2.2.2.2.1,v.2.2.2.2.2.2.2.1++[v.2.2.1.getD v.2.2.2.2.1.toNat dM],()) else none) else L (v.1,v.2.1,v.2.2.1,v.2.2.2.1,IntKind.i64.wrap (v.2.2.2.2.1+(1:Int)),v.2.2.2.2.2.1,v.2.2.2.2.2.2.1,v.2.2.2.2.2.2.2.1,()))) else none) else fin v))
  (hb:ms.length≤big) (ho:o.2.2.2.1.length≤big) (hn:big<n) :
  rounds B n (a,b,ms,(ms.length:Int),(0:Int),s,o,[],())=fin (a,b,ms,(ms.length:Int),(ms.length:Int),s,o,ms.filter (fun m=>o.2.2.2.1.contains m.1),()):=by
 have hb':ms.length≤1048576:=hb
 refine (aR (fun i=>(a,b,ms,(ms.length:Int),(i:Int),s,o,(ms.take i).filter (fun m=>o.2.2.2.1.contains m.1),())) (fun _=>none) (fin (a,b,ms,(ms.length:Int),(ms.length:Int),s,o,ms.filter (fun m=>o.2.2.2.1.contains m.1),())) (m:=ms.length) (by simp) (by omega) ?_ ?_).trans (bL (fun _ _ _=>rfl))
 ·intro L i hi _
  have ht:ms.take (i+1)=ms.take i++[ms[i]]:=by simp
  have hl:((ms.take i).filter fun m=>o.2.2.2.1.contains m.1).length≤i:=Nat.le_trans (List.length_filter_le _ _) (by simp; omega)
  simp only [hB,Int.ofNat_lt,hi,decide_true,if_true,aG hi,eT hi,contains ho hn,Option.bind_some,aS hi (by omega),List.length_singleton,ht,List.filter_append]
  cases hc:o.2.2.2.1.contains ms[i].1 with
  | false=>rw [if_neg Bool.false_ne_true,NB (p:=fun m:mP=>o.2.2.2.1.contains m.1) hc,List.append_nil]
  | true=>rw [if_pos rfl,if_pos (by omega),one_pos (p:=fun m:mP=>o.2.2.2.1.contains m.1) hc]
 ·intro L _
  simp only [hB,Int.lt_irrefl,decide_false,Bool.false_eq_true,if_false,List.take_length]
def NL (b:Bx):Prop:=(0≤b.2.2.1∧b.2.2.1≤1000)∧b.2.2.2.1.length≤6
def Ab (s:lK) (i k:Nat) (o:OpC):List Int×Int×lK×Unit:=
 if (s.2.1.getD k dB).2.2.2.1.length+(dD o (s.2.1.getD i dB)).length>6 then ([],10,s,()) else
 if (s.2.1.getD k dB).2.2.1+((dD o (s.2.1.getD i dB)).length:Int)>1000 then ([],10,s,()) else
 (yO (s.2.1.getD k dB) (dD o (s.2.1.getD i dB)).length,0,(s.1,if o.1=6 then (s.2.1.set k (fM (s.2.1.getD k dB) (dD o (s.2.1.getD i dB)))).set i (aaK o (s.2.1.getD i dB)) else s.2.1.set k (fM (s.2.1.getD k dB) (dD o (s.2.1.getD i dB))),()),())
def carried (s:lK) (i:Nat) (o:OpC):List Int×Int×lK×Unit:=
 if Au s o.2.2.1<0 then ([],4,s,()) else if o.1=6∧Au s o.2.2.1=(i:Int) then ([],9,s,()) else Ab s i (Au s o.2.2.1).toNat o
theorem eF {A:Type} {xs:List A} {k:Nat} (h:k<xs.length) (d:A):xs.getD k d∈xs:=by
 rw [getD_lt h]; exact List.getElem_mem h
theorem ZK {n:Nat} {s:lK} {i:Nat} {o:OpC} (hs:Ar s) (ho:okO o) (hsm:∀b∈s.2.1,NL b) (hi:i<s.2.1.length) (hn:big<n):sJ n s (i:Int) o=some (carried s i o):=by
 unfold sJ carried
 rw [ac2 hs.1 hn]
 simp only [Option.bind_some]
 rcases pJ s o.2.2.1 with h | ⟨k,h,hk⟩
 ·rw [h]; rfl
 ·rw [h]
  have h0:¬((k:Int)<0):=by omega
  rw [decide_eq_false h0,if_neg Bool.false_ne_true,if_neg h0]
  have hA:=hsm _ (eF hi dB)
  have hK:=hsm _ (eF hk dB)
  have YE:=hs.2 _ (eF hi dB)
  have hKo:=hs.2 _ (eF hk dB)
  have hT:(dD o (s.2.1.getD i dB)).length≤6:=Nat.le_trans (List.length_filter_le _ _) hA.2
  have hTo:∀m∈dD o (s.2.1.getD i dB),Ht m:=fun m hm=>YE.2.2 m (List.mem_filter.1 hm).1
  have hK2:=hK.2
  have hK1:=hK.1
  by_cases h6:o.1=6
  ·rw [decide_eq_true h6,if_pos rfl]
   by_cases he:(k:Int)=(i:Int)
   ·rw [decide_eq_true he,if_pos rfl,if_pos ⟨h6,he⟩]
   ·rw [decide_eq_false he,if_neg Bool.false_ne_true,if_neg (show ¬(o.1=6∧(k:Int)=(i:Int)) from fun h=>he h.2),if_pos (aG hi)]
    simp only [Int.toNat_natCast,F5 YE hn,Option.bind_some,Mr YE.2.1 ho.2.2.1 hn,if_pos (aG hk)]
    unfold Ab
    have w1:IntKind.i64.wrap (((s.2.1.getD k dB).2.2.2.1.length:Int)+((dD o (s.2.1.getD i dB)).length:Int))=((s.2.1.getD k dB).2.2.2.1.length:Int)+((dD o (s.2.1.getD i dB)).length:Int):=wrap_i64 (by omega) (by omega)
    have w2:IntKind.i64.wrap ((s.2.1.getD k dB).2.2.1+((dD o (s.2.1.getD i dB)).length:Int))=(s.2.1.getD k dB).2.2.1+((dD o (s.2.1.getD i dB)).length:Int):=wrap_i64 (by omega) (by omega)
    simp only [w1,w2]
    by_cases c1:(s.2.1.getD k dB).2.2.2.1.length+(dD o (s.2.1.getD i dB)).length>6
    ·have c1':((s.2.1.getD k dB).2.2.2.1.length:Int)+((dD o (s.2.1.getD i dB)).length:Int)>6:=by omega
     simp only [c1,c1',decide_true,if_true]
    ·have c1':¬(((s.2.1.getD k dB).2.2.2.1.length:Int)+((dD o (s.2.1.getD i dB)).length:Int)>6):=by omega
     simp only [c1,c1',decide_false,Bool.false_eq_true,if_false]
     by_cases c2:(s.2.1.getD k dB).2.2.1+((dD o (s.2.1.getD i dB)).length:Int)>1000
     ·simp only [c2,decide_true,if_true]
     ·simp only [c2,decide_false,Bool.false_eq_true,if_false]
      refine (I9 (s:=s) (k:=k) (l:=dD o (s.2.1.getD i dB)) (b:=s.2.1.getD k dB) (fun _ _=>rfl) hk rfl hTo hT hK1.1 hK1.2 hK2 hn).trans ?_
      have hi2:i<(s.2.1.set k (fM (s.2.1.getD k dB) (dD o (s.2.1.getD i dB)))).length:=by simpa using hi
      simp only [h6,decide_true,if_true,if_pos (aG hi2),Int.toNat_natCast]
  ·rw [decide_eq_false h6,if_neg Bool.false_ne_true,if_neg (show ¬(o.1=6∧(k:Int)=(i:Int)) from fun h=>h6 h.1),if_pos (aG hi)]
   simp only [Int.toNat_natCast,F5 YE hn,Option.bind_some,Mr YE.2.1 ho.2.2.1 hn,if_pos (aG hk)]
   unfold Ab
   have w1:IntKind.i64.wrap (((s.2.1.getD k dB).2.2.2.1.length:Int)+((dD o (s.2.1.getD i dB)).length:Int))=((s.2.1.getD k dB).2.2.2.1.length:Int)+((dD o (s.2.1.getD i dB)).length:Int):=wrap_i64 (by omega) (by omega)
   have w2:IntKind.i64.wrap ((s.2.1.getD k dB).2.2.1+((dD o (s.2.1.getD i dB)).length:Int))=(s.2.1.getD k dB).2.2.1+((dD o (s.2.1.getD i dB)).length:Int):=wrap_i64 (by omega) (by omega)
   simp only [w1,w2]
   by_cases c1:(s.2.1.getD k dB).2.2.2.1.length+(dD o (s.2.1.getD i dB)).length>6
   ·have c1':((s.2.1.getD k dB).2.2.2.1.length:Int)+((dD o (s.2.1.getD i dB)).length:Int)>6:=by omega
    simp only [c1,c1',decide_true,if_true]
   ·have c1':¬(((s.2.1.getD k dB).2.2.2.1.length:Int)+((dD o (s.2.1.getD i dB)).length:Int)>6):=by omega
    simp only [c1,c1',decide_false,Bool.false_eq_true,if_false]
    by_cases c2:(s.2.1.getD k dB).2.2.1+((dD o (s.2.1.getD i dB)).length:Int)>1000
    ·simp only [c2,decide_true,if_true]
    ·simp only [c2,decide_false,Bool.false_eq_true,if_false]
     refine (I9 (s:=s) (k:=k) (l:=dD o (s.2.1.getD i dB)) (b:=s.2.1.getD k dB) (fun _ _=>rfl) hk rfl hTo hT hK1.1 hK1.2 hK2 hn).trans ?_
     simp only [h6,decide_false,Bool.false_eq_true,if_false]
theorem getD_set_ne {A:Type} {xs:List A} {i k:Nat} (h:k≠i) (y d:A):(xs.set k y).getD i d=xs.getD i d:=by
 rw [List.getD_eq_getElem?_getD,List.getD_eq_getElem?_getD,List.getElem?_set_ne h]
theorem Zh {n:Nat} {ms:List mP} {o:OpC} (hb:ms.length≤big) (ho:o.2.2.2.1.length≤big) (hn:big<n) :
  aF n ms o=some (((ms.filter fun m=>!o.2.2.2.1.contains m.1).length:Int),(ms.filter fun m=>!o.2.2.2.1.contains m.1)++List.replicate (ms.length - (ms.filter fun m=>!o.2.2.2.1.contains m.1).length) dM,()):=by
 unfold big at hb ho hn
 show mq.Fp n ms o=_
 unfold mq.Fp
 rw [if_pos ⟨by omega,by omega,by omega,by omega⟩]
 rfl
theorem copied {n:Nat} {s:lK} {i:Nat} {o:OpC} (hs:Ar s) (ho:okO o) (hsm:∀b∈s.2.1,NL b) (hi:i<s.2.1.length) (hn:big<n):kG n s (i:Int) o=some (carried s i o):=by
 unfold kG carried
 rw [box hs.1 hn]
 simp only [Option.bind_some]
 rcases pJ s o.2.2.1 with h | ⟨k,h,hk⟩
 ·rw [h]; rfl
 ·rw [h]
  have h0:¬((k:Int)<0):=by omega
  rw [decide_eq_false h0,if_neg Bool.false_ne_true,if_neg h0]
  have hA:=hsm _ (eF hi dB)
  have hK:=hsm _ (eF hk dB)
  have YE:=hs.2 _ (eF hi dB)
  have hKo:=hs.2 _ (eF hk dB)
  have hT:(dD o (s.2.1.getD i dB)).length≤6:=Nat.le_trans (List.length_filter_le _ _) hA.2
  have hTo:∀m∈dD o (s.2.1.getD i dB),Ht m:=fun m hm=>YE.2.2 m (List.mem_filter.1 hm).1
  have hK2:=hK.2
  have hK1:=hK.1
  have w1:IntKind.i64.wrap (((s.2.1.getD k dB).2.2.2.1.length:Int)+((dD o (s.2.1.getD i dB)).length:Int))=((s.2.1.getD k dB).2.2.2.1.length:Int)+((dD o (s.2.1.getD i dB)).length:Int):=wrap_i64 (by omega) (by omega)
  have w2:IntKind.i64.wrap ((s.2.1.getD k dB).2.2.1+((dD o (s.2.1.getD i dB)).length:Int))=(s.2.1.getD k dB).2.2.1+((dD o (s.2.1.getD i dB)).length:Int):=wrap_i64 (by omega) (by omega)
  have hlist:(s.2.1.getD i dB).2.2.2.1.filter (fun m=>o.2.2.2.1.contains m.1)=dD o (s.2.1.getD i dB):=rfl
  by_cases h6:o.1=6
  ·rw [decide_eq_true h6,if_pos rfl]
   by_cases he:(k:Int)=(i:Int)
   ·rw [decide_eq_true he,if_pos rfl,if_pos ⟨h6,he⟩]
   ·rw [decide_eq_false he,if_neg Bool.false_ne_true,if_neg (show ¬(o.1=6∧(k:Int)=(i:Int)) from fun h=>he h.2),if_pos (aG hi)]
    simp only [Int.toNat_natCast]
    refine (LM (s:=s) (o:=o) (a:=(i:Int)) (b:=(k:Int)) (ms:=(s.2.1.getD i dB).2.2.2.1) (fun _ _=>rfl) YE.2.1 ho.2.2.1 hn).trans ?_
    simp only [if_pos (aG hk),Int.toNat_natCast,hlist,w1]
    unfold Ab
    by_cases c1:(s.2.1.getD k dB).2.2.2.1.length+(dD o (s.2.1.getD i dB)).length>6
    ·have c1':((s.2.1.getD k dB).2.2.2.1.length:Int)+((dD o (s.2.1.getD i dB)).length:Int)>6:=by omega
     simp only [c1,c1',decide_true,if_true]
    ·have c1':¬(((s.2.1.getD k dB).2.2.2.1.length:Int)+((dD o (s.2.1.getD i dB)).length:Int)>6):=by omega
     have hlen:dY n (dD o (s.2.1.getD i dB))=some (((dD o (s.2.1.getD i dB)).length:Int),()):=rfl
     simp only [c1,c1',decide_false,Bool.false_eq_true,if_false,hlen,Option.bind_some,w2]
     by_cases c2:(s.2.1.getD k dB).2.2.1+((dD o (s.2.1.getD i dB)).length:Int)>1000
     ·simp only [c2,decide_true,if_true]
     ·simp only [c2,decide_false,Bool.false_eq_true,if_false]
      refine (I8 (s:=s) (k:=k) (l:=dD o (s.2.1.getD i dB)) (b:=s.2.1.getD k dB) (fun _ _=>rfl) hk rfl hTo hT hK1.1 hK1.2 hK2 hn).trans ?_
      have hki:k≠i:=fun h=>he (by omega)
      have hi2:i<(s.2.1.set k (fM (s.2.1.getD k dB) (dD o (s.2.1.getD i dB)))).length:=by simpa using hi
      simp only [h6,decide_true,if_true,if_pos (aG hi2),Int.toNat_natCast,iM,getD_set_ne hki,Zh YE.2.1 ho.2.2.1 hn,Option.bind_some,List.set_set,Ch hi2,List.take_left']
      rfl
  ·rw [decide_eq_false h6,if_neg Bool.false_ne_true,if_neg (show ¬(o.1=6∧(k:Int)=(i:Int)) from fun h=>h6 h.1),if_pos (aG hi)]
   simp only [Int.toNat_natCast]
   refine (LM (s:=s) (o:=o) (a:=(i:Int)) (b:=(k:Int)) (ms:=(s.2.1.getD i dB).2.2.2.1) (fun _ _=>rfl) YE.2.1 ho.2.2.1 hn).trans ?_
   simp only [if_pos (aG hk),Int.toNat_natCast,hlist,w1]
   unfold Ab
   by_cases c1:(s.2.1.getD k dB).2.2.2.1.length+(dD o (s.2.1.getD i dB)).length>6
   ·have c1':((s.2.1.getD k dB).2.2.2.1.length:Int)+((dD o (s.2.1.getD i dB)).length:Int)>6:=by omega
    simp only [c1,c1',decide_true,if_true]
   ·have c1':¬(((s.2.1.getD k dB).2.2.2.1.length:Int)+((dD o (s.2.1.getD i dB)).length:Int)>6):=by omega
    have hlen:dY n (dD o (s.2.1.getD i dB))=some (((dD o (s.2.1.getD i dB)).length:Int),()):=rfl
    simp only [c1,c1',decide_false,Bool.false_eq_true,if_false,hlen,Option.bind_some,w2]
    by_cases c2:(s.2.1.getD k dB).2.2.1+((dD o (s.2.1.getD i dB)).length:Int)>1000
    ·simp only [c2,decide_true,if_true]
    ·simp only [c2,decide_false,Bool.false_eq_true,if_false]
     refine (I8 (s:=s) (k:=k) (l:=dD o (s.2.1.getD i dB)) (b:=s.2.1.getD k dB) (fun _ _=>rfl) hk rfl hTo hT hK1.1 hK1.2 hK2 hn).trans ?_
     simp only [h6,decide_false,Bool.false_eq_true,if_false]
abbrev zV:=Int×List Int×lK×Unit
def bad (c:Int):zV:=(c,[],(0,[],()),())
def EE (s:lK) (o:OpC):List Int×Int×lK×Unit:=
 if Au s o.2.1≥0 then ([],6,s,()) else if s.2.1.length=3 then ([],10,s,()) else if s.1=1000 then ([],10,s,()) else ([],0,(s.1+1,s.2.1++[(o.2.1,s.1,1,[],())],()),())
def V8 (s:lK) (i:Nat) (o:OpC):List Int×Int×lK×Unit:=
 if (s.2.1.getD i dB).2.2.2.1.length=6 then ([],10,s,()) else if (s.2.1.getD i dB).2.2.1=1000 then ([],10,s,()) else
  ([(s.2.1.getD i dB).2.2.1],0,(s.1,s.2.1.set i (zA (s.2.1.getD i dB) (0,o.2.2.2.2.2.1,o.2.2.2.2.2.2.1,o.2.2.2.2.2.2.2.1,())),()),())
def PT (s:lK) (i:Nat) (o:OpC):List Int×Int×lK×Unit:=
 if o.1=2 then ([],0,(s.1,s.2.1.take i++s.2.1.drop (i+1),()),()) else
 if o.1=3 then V8 s i o else
 if o.1=4 then (LA o (s.2.1.getD i dB),0,(s.1,s.2.1.set i (Jw o (s.2.1.getD i dB)),()),()) else
 if o.1=7 then (WJ (s.2.1.getD i dB),0,(s.1,s.2.1.set i (XJ (s.2.1.getD i dB)),()),()) else carried s i o
def qp (s:lK) (o:OpC):List Int×Int×lK×Unit:=
 if o.1=1 then EE s o else if Au s o.2.1<0 then ([],4,s,()) else PT s (Au s o.2.1).toNat o
def zB (r:List Int×Int×lK×Unit):zV:=if r.2.1=0 then (0,r.1,r.2.2.1,()) else bad r.2.1
structure Fit (s:lK) (o:OpC):Prop where
 Ar:Ar s
 okO:okO o
 val:1≤s.1∧s.1≤1000
 few:s.2.1.length≤3
 small:∀b∈s.2.1,NL b
 mode:o.1=4→1≤o.2.2.2.2.1∧o.2.2.2.2.1≤3
theorem made {n:Nat} {s:lK} {o:OpC} (h:Fit s o) (hn:big<n):nT n s o.2.1=some ((EE s o).2.1,(EE s o).2.2.1,())∧(EE s o).1=[]:=by
 have hf:=h.few
 have hv:=h.val
 unfold nT EE
 rw [box h.Ar.1 hn]
 simp only [Option.bind_some]
 by_cases c0:Au s o.2.1≥0
 ·simp only [c0,decide_true,if_true,and_self]
 ·simp only [c0,decide_false,Bool.false_eq_true,if_false]
  by_cases c1:s.2.1.length=3
  ·simp only [c1,if_true]
   exact ⟨rfl,trivial⟩
  ·have:¬(s.2.1.length:Int)=3:=by omega
   simp only [c1,this,decide_false,Bool.false_eq_true,if_false]
   by_cases c2:s.1=1000
   ·simp only [c2,decide_true,if_true,and_self]
   ·simp only [c2,decide_false,Bool.false_eq_true,if_false,List.length_singleton,and_true]
    rw [if_pos (by omega),wrap_i64 (by omega) (by omega)]
theorem ac3 {n:Nat} {s:lK} {o:OpC} (h:Fit s o) (hn:big<n):uV n s o=some (zB (EE s o),()):=by
 have hf:=h.few
 have hv:=h.val
 unfold uV EE
 rw [ac2 h.Ar.1 hn]
 simp only [Option.bind_some]
 by_cases c0:Au s o.2.1≥0
 ·simp only [c0,decide_true,if_true]; rfl
 ·simp only [c0,decide_false,Bool.false_eq_true,if_false]
  by_cases c1:s.2.1.length=3
  ·have:(s.2.1.length:Int)≥3:=by omega
   simp only [c1,this,decide_true,if_true]; rfl
  ·have:¬(s.2.1.length:Int)≥3:=by omega
   simp only [c1,this,decide_false,Bool.false_eq_true,if_false]
   by_cases c2:s.1=1000
   ·have:s.1≥1000:=by omega
    simp only [c2,decide_true,if_true]; rfl
   ·have:¬s.1≥1000:=by omega
    simp only [c2,this,decide_false,Bool.false_eq_true,if_false,Rq h.Ar hn,Option.bind_some,List.length_singleton]
    rw [if_pos (by omega),wrap_i64 (by omega) (by omega)]
    rfl
theorem RF {o:OpC} (ho:okO o):Ht (0,o.2.2.2.2.2.1,o.2.2.2.2.2.2.1,o.2.2.2.2.2.2.2.1,()):=ho.2.2.2
theorem Qw {n:Nat} {s:lK} {o:OpC} (h:Fit s o) (hn:big<n):mF n s o=some (qp s o):=by
 unfold mF qp
 by_cases k1:o.1=1
 ·obtain ⟨h1,h2⟩:=made h hn
  simp only [k1,decide_true,if_true,h1,Option.bind_some]
  rw [←h2]
 ·simp only [k1,decide_false,Bool.false_eq_true,if_false,box h.Ar.1 hn,Option.bind_some]
  rcases pJ s o.2.1 with hp | ⟨i,hp,hi⟩
  ·rw [hp]; rfl
  ·rw [hp]
   have h0:¬((i:Int)<0):=by omega
   simp only [h0,decide_false,Bool.false_eq_true,if_false,if_pos (aG hi),Int.toNat_natCast]
   have hB:=h.small _ (eF hi dB)
   have Re:=h.Ar.2 _ (eF hi dB)
   have hB1:=hB.1
   have hB2:=hB.2
   have hf:=h.few
   unfold PT
   by_cases k2:o.1=2
   ·have hw:IntKind.i64.wrap ((i:Int)+1)=((i+1:Nat):Int):=aS hi (by omega)
    have hdel:bP n s.2.1 (i:Int) ((i+1:Nat):Int)=some (((s.2.1.length - 1:Nat):Int),s.2.1.take i++s.2.1.drop (i+1)++[dB],()):=by
     show mq.Jh dB s.2.1 (i:Int) ((i+1:Nat):Int)=_
     unfold mq.Jh
     rw [if_pos ⟨by omega,by omega,by omega⟩]
     simp only [Int.toNat_natCast,Nat.add_sub_cancel_left]
     rfl
    have hl:(s.2.1.take i++s.2.1.drop (i+1)).length=s.2.1.length - 1:=by simp; omega
    simp only [k2,decide_true,if_true,hw,hdel,Option.bind_some,Int.toNat_natCast]
    rw [←hl,List.take_left']
    rfl
   ·simp only [k2,decide_false,Bool.false_eq_true,if_false]
    by_cases k3:o.1=3
    ·simp only [k3,decide_true,if_true]
     unfold V8
     by_cases c1:(s.2.1.getD i dB).2.2.2.1.length=6
     ·simp only [c1,if_true]
      rfl
     ·have:¬((s.2.1.getD i dB).2.2.2.1.length:Int)=6:=by omega
      simp only [c1,this,decide_false,Bool.false_eq_true,if_false]
      by_cases c2:(s.2.1.getD i dB).2.2.1=1000
      ·simp only [c2,decide_true,if_true]
      ·have hput:=PN (n:=n) (b:=s.2.1.getD i dB) (RF h.okO) (by omega) (by omega) (by omega)
       simp only [c2,decide_false,Bool.false_eq_true,if_false,hput,Option.bind_some]
    ·simp only [k3,decide_false,Bool.false_eq_true,if_false]
     by_cases k4:o.1=4
     ·simp only [k4,decide_true,if_true,Uw Re.2.1 h.okO.2.2.1 hn (h.mode k4),Option.bind_some]
     ·simp only [k4,decide_false,Bool.false_eq_true,if_false]
      by_cases k7:o.1=7
      ·simp only [k7,decide_true,if_true,ade Re.2.1 hn,Option.bind_some]
      ·simp only [k7,decide_false,Bool.false_eq_true,if_false,copied h.Ar h.okO h.small hi hn,Option.bind_some]
theorem UA {n:Nat} {ms:List mP} {r0:zV} {st:lK} {c:Int} {B:(Int×zV×zV×List mP×Unit→Option (zV×Unit))→Int×zV×zV×List mP×Unit→Option (zV×Unit)}
  (hB:∀L v,B L v=(if decide (v.1<(v.2.2.2.1.length:Int))=true then (if aI v.1 v.2.2.2.1.length then (if (v.2.2.1.2.1.length+[(v.2.2.2.1.getD v.1.toNat dM).1].length) * 8≤140737488355328 then L (IntKind.i64.wrap (v.1+(1:Int)),v.2.1,(v.2.2.1.1,v.2.2.1.2.1++[(v.2.2.2.1.getD v.1.toNat dM).1],v.2.2.1.2.2),v.2.2.2.1,()) else none) else none) else some (v.2.2.1,())))
  (hb:ms.length≤big) (hn:big<n):rounds B n ((0:Int),r0,(c,[],st,()),ms,())=some ((c,ms.map (·.1),st,()),()):=by
 have hb':ms.length≤1048576:=hb
 refine (aR (fun i=>((i:Int),r0,(c,(ms.take i).map (·.1),st,()),ms,())) (fun _=>none) (some ((c,ms.map (·.1),st,()),())) (m:=ms.length) (by simp) (by omega) ?_ ?_).trans (bL (fun _ _ _=>rfl))
 ·intro L i hi _
  have ht:ms.take (i+1)=ms.take i++[ms[i]]:=by simp
  have hl:((ms.take i).map (·.1)).length≤i:=by simp; omega
  simp only [hB,Int.ofNat_lt,hi,decide_true,if_true,aG hi,eT hi,aS hi (by omega),List.length_singleton,ht,List.map_append,List.map_cons,List.map_nil]
  rw [if_pos (by omega)]
 ·intro L _
  simp only [hB,Int.lt_irrefl,decide_false,Bool.false_eq_true,if_false,List.take_length]
theorem Qx {n:Nat} {s:lK} {o:OpC} (h:Fit s o) (hn:big<n):sI n s o=some (zB (qp s o),()):=by
 unfold sI qp
 by_cases k1:o.1=1
 ·simp only [k1,decide_true,if_true,ac3 h hn,Option.bind_some]
 ·simp only [k1,decide_false,Bool.false_eq_true,if_false,ac2 h.Ar.1 hn,Option.bind_some]
  rcases pJ s o.2.1 with hp | ⟨i,hp,hi⟩
  ·rw [hp]; rfl
  ·rw [hp]
   have h0:¬((i:Int)<0):=by omega
   simp only [h0,decide_false,Bool.false_eq_true,if_false,Rq h.Ar hn,Option.bind_some,if_pos (aG hi),Int.toNat_natCast]
   have hB:=h.small _ (eF hi dB)
   have Re:=h.Ar.2 _ (eF hi dB)
   have hB1:=hB.1
   have hB2:=hB.2
   have hf:=h.few
   unfold PT
   by_cases k2:o.1=2
   ·have hw:IntKind.i64.wrap ((i:Int)+1)=((i+1:Nat):Int):=aS hi (by omega)
    simp only [k2,decide_true,if_true,hw,Int.toNat_natCast]
    rw [if_pos ⟨by omega,by omega⟩,if_pos (by simp; omega),if_pos ⟨by omega,by omega⟩,if_pos (by simp; omega)]
    rfl
   ·simp only [k2,decide_false,Bool.false_eq_true,if_false]
    by_cases k3:o.1=3
    ·simp only [k3,decide_true,if_true]
     unfold V8
     by_cases c1:(s.2.1.getD i dB).2.2.2.1.length=6
     ·have:((s.2.1.getD i dB).2.2.2.1.length:Int)≥6:=by omega
      simp only [c1,this,decide_true,if_true]; rfl
     ·have:¬((s.2.1.getD i dB).2.2.2.1.length:Int)≥6:=by omega
      simp only [c1,this,decide_false,Bool.false_eq_true,if_false]
      by_cases c2:(s.2.1.getD i dB).2.2.1=1000
      ·have:(s.2.1.getD i dB).2.2.1≥1000:=by omega
       simp only [c2,this,decide_true,if_true]; rfl
      ·have:¬(s.2.1.getD i dB).2.2.1≥1000:=by omega
       have hput:=PO (n:=n) (b:=s.2.1.getD i dB) (RF h.okO) (by omega) (by omega) (by omega)
       simp only [c2,this,decide_false,Bool.false_eq_true,if_false,hput,Option.bind_some]
       rfl
    ·simp only [k3,decide_false,Bool.false_eq_true,if_false]
     by_cases k4:o.1=4
     ·simp only [k4,decide_true,if_true,Ux Re.2.1 h.okO.2.2.1 hn,Option.bind_some]
      rfl
     ·simp only [k4,decide_false,Bool.false_eq_true,if_false]
      by_cases k7:o.1=7
      ·simp only [k7,decide_true,if_true,Vm Re.2.1 hn,Option.bind_some]
       exact UA (fun _ _=>rfl) (Nat.le_trans (List.length_filter_le _ _) Re.2.1) hn
      ·simp only [k7,decide_false,Bool.false_eq_true,if_false,ZK h.Ar h.okO h.small hi hn,Option.bind_some]
       unfold zB
       by_cases c:(carried s i o).2.1=0
       ·simp only [c,decide_true,Bool.not_true,Bool.false_eq_true,if_false,if_true]
       ·simp only [c,decide_false,Bool.not_false,if_true,if_false]; rfl
theorem copies {n:Nat} (k:Int):iB n k=some (decide (k=5) || decide (k=6),()):=by
 unfold iB
 cases decide (k=5) <;> rfl
theorem WS {n:Nat} (o:OpC):nA n o=some (decide (o.1=5) || decide (o.1=6),()):=copies (n:=n) o.1
theorem Zu {n:Nat} (o:OpC):jT n o=some ((decide (o.1=5) || decide (o.1=6)) || decide (o.1=4),()):=by
 unfold jT
 rw [WS]
 simp only [Option.bind_some]
 cases (decide (o.1=5) || decide (o.1=6)) <;> rfl
theorem acj (k:Nat):decide ((k:Int)>0)=!decide ((k:Int)=0):=by
 by_cases h:k=0
 ·subst h; rfl
 ·rw [decide_eq_true (by omega),decide_eq_false (by omega)]; rfl
def BI (o:OpC):Bool:=(((decide (o.1=5) || decide (o.1=6)) || decide (o.2.2.1=[])) && ((((decide (o.1=5) || decide (o.1=6)) || decide (o.1=4)) || decide ((o.2.2.2.1.length:Int)=0)) && ((decide (o.1=4) || decide (o.2.2.2.2.1=0)) &&
 ((decide (o.1=4) || (decide (o.1=3) || decide (o.2.2.2.2.2.1=0))) && (decide (o.1=3) || (decide (o.2.2.2.2.2.2.1=0) && decide ((o.2.2.2.2.2.2.2.1.length:Int)=0)))))))
set_option maxRecDepth 20000 in
theorem only {n:Nat} (o:OpC):pO n o=some (BI o,()):=by
 unfold pO BI
 simp only [WS,Zu,Option.bind_some]
 generalize (decide (o.1=5) || decide (o.1=6))=c
 generalize decide (o.2.2.1=[])=b1
 generalize decide (o.1=4)=b2
 generalize decide ((o.2.2.2.1.length:Int)=0)=b3
 generalize decide (o.2.2.2.2.1=0)=b4
 generalize decide (o.1=3)=b5
 generalize decide (o.2.2.2.2.2.1=0)=b6
 generalize decide (o.2.2.2.2.2.2.1=0)=b7
 generalize decide ((o.2.2.2.2.2.2.2.1.length:Int)=0)=b8
 revert c b1 b2 b3 b4 b5 b6 b7 b8
 decide +kernel
set_option maxRecDepth 20000 in
theorem form {n:Nat} (o:OpC):uU n o=some (decide (1≤o.1∧o.1≤7) && BI o,()):=by
 unfold uU BI
 simp only [Hr,copies,Option.bind_some,acj]
 generalize (decide (o.1=5) || decide (o.1=6))=c
 generalize decide (o.2.2.1=[])=b1
 generalize decide (o.1=4)=b2
 generalize decide ((o.2.2.2.1.length:Int)=0)=b3
 generalize decide (o.2.2.2.2.1=0)=b4
 generalize decide (o.1=3)=b5
 generalize decide (o.2.2.2.2.2.1=0)=b6
 generalize decide (o.2.2.2.2.2.2.1=0)=b7
 generalize decide ((o.2.2.2.2.2.2.2.1.length:Int)=0)=b8
 generalize decide (1≤o.1∧o.1≤7)=b9
 revert c b1 b2 b3 b4 b5 b6 b7 b8 b9
 decide +kernel
def I1 (us:List Int) (j:Nat):Bool:=!decide (1≤us.getD j 0∧us.getD j 0≤999) || (decide ((j:Int)>0) && decide (us.getD j 0≤us.getD (j - 1) 0))
theorem Vr {n:Nat} {us:List Int} (hb:us.length≤big) (hn:big<n):qB n us=cZ (fun j=>if I1 us j=true then some (some (false,())) else none) (some (true,())) us.length 0:=by
 have hb':us.length≤1048576:=hb
 unfold qB
 refine aR (fun i=>(us,(i:Int),())) (fun j=>if I1 us j=true then some (some (false,())) else none) (some (true,())) (m:=us.length) rfl (by omega) ?_ ?_
 ·intro L i hi _
  simp only [Int.ofNat_lt,hi,decide_true,if_true,aG hi,Int.toNat_natCast,Hr,Option.bind_some,aS hi (by omega)]
  unfold I1
  cases h1:decide (1≤us.getD i 0∧us.getD i 0≤999) with
  | false=>rfl
  | true=>
   cases i with
   | zero=>rfl
   | succ j=>
    have hj:j<us.length:=by omega
    rw [decide_eq_true (show ((j+1:Nat):Int)>0 by omega),Gl hj (by omega)]
    simp only [aG hj,if_true,Int.toNat_natCast,Nat.add_sub_cancel,Bool.not_true,Bool.false_eq_true,if_false,Bool.false_or,Bool.true_and]
    by_cases hle:us.getD (j+1) 0≤us.getD j 0
    ·simp only [hle,decide_true,if_true]
    ·simp only [hle,decide_false,Bool.false_eq_true,if_false]
 ·intro L _
  simp
theorem Vq {n:Nat} {us:List Int} (hb:us.length≤big) (hn:big<n):oU n us=cZ (fun j=>if I1 us j=true then some (some (false,())) else none) (some (true,())) us.length 0:=by
 have hb':us.length≤1048576:=hb
 unfold oU
 refine aR (fun i=>(us,us,(us.length:Int),(i:Int),())) (fun j=>if I1 us j=true then some (some (false,())) else none) (some (true,())) (m:=us.length) rfl (by omega) ?_ ?_
 ·intro L i hi _
  have hu:pR n (us.getD i 0)=some (decide (1≤us.getD i 0∧us.getD i 0≤999),()):=by
   unfold pR
   rw [uK,Hr]; rfl
  simp only [Int.ofNat_lt,hi,decide_true,if_true,aG hi,Int.toNat_natCast,hu,Option.bind_some,aS hi (by omega)]
  unfold I1
  cases h1:decide (1≤us.getD i 0∧us.getD i 0≤999) with
  | false=>rfl
  | true=>
   cases i with
   | zero=>rfl
   | succ j=>
    have hj:j<us.length:=by omega
    rw [decide_eq_true (show ((j+1:Nat):Int)>0 by omega),Gl hj (by omega)]
    simp only [aG hj,if_true,Int.toNat_natCast,Nat.add_sub_cancel,Bool.not_true,Bool.false_eq_true,if_false,Bool.false_or,Bool.true_and,ge_iff_le]
    cases decide (us.getD (j+1) 0≤us.getD j 0) <;> rfl
 ·intro L _
  simp
def EU (us:List Int):Bool:=((cZ (fun j=>if I1 us j=true then some (some (false,())) else none) (some (true,())) us.length 0).getD (false,())).1
theorem Kz (us:List Int):cZ (fun j=>if I1 us j=true then some (some (false,())) else none) (some (true,())) us.length 0=some (EU us,()):=by
 unfold EU
 rcases Es (step:=fun j=>if I1 us j=true then some (some (false,())) else none) (fin:=some (true,())) (r:=some (false,())) (fun j=>by by_cases h:I1 us j=true <;> simp [h]) (m:=us.length) (i:=0) with h | h <;> rw [h] <;> rfl
def iR (o:OpC):Int:=
 if (!(decide (1≤o.1∧o.1≤7) && BI o))=true then 1 else
 if (!decide (rG o.2.1) || ((decide (o.1=5) || decide (o.1=6)) && !decide (rG o.2.2.1)))=true then 5 else
 if decide ((o.2.2.2.1.length:Int)>6)=true then 2 else
 if (!EU o.2.2.2.1 || (decide (o.1=4) && !decide (1≤o.2.2.2.2.1∧o.2.2.2.2.1≤3)) || !decide (0≤o.2.2.2.2.2.1∧o.2.2.2.2.2.1≤15) || !decide (0≤o.2.2.2.2.2.2.1∧o.2.2.2.2.2.2.1≤9999))=true then 3 else
 if decide ((o.2.2.2.2.2.2.2.1.length:Int)>400)=true then 2 else 0
set_option maxRecDepth 20000 in
theorem Dq {n:Nat} {o:OpC} (ho:okO o) (hn:big<n):oW n o=some (iR o,()):=by
 unfold oW iR
 simp only [form,(name_eq ho.1 hn).2,(name_eq ho.2.1 hn).2,copies,Hr,Vr ho.2.2.1 hn,Kz,Option.bind_some]
 generalize (decide (1≤o.1∧o.1≤7) && BI o)=b0
 generalize decide (rG o.2.1)=b1
 generalize (decide (o.1=5) || decide (o.1=6))=b2
 generalize decide (rG o.2.2.1)=b3
 generalize decide ((o.2.2.2.1.length:Int)>6)=b4
 generalize EU o.2.2.2.1=b5
 generalize decide (o.1=4)=b6
 generalize decide (1≤o.2.2.2.2.1∧o.2.2.2.2.1≤3)=b7
 generalize decide (0≤o.2.2.2.2.2.1∧o.2.2.2.2.2.1≤15)=b8
 generalize decide (0≤o.2.2.2.2.2.2.1∧o.2.2.2.2.2.2.1≤9999)=b9
 generalize decide ((o.2.2.2.2.2.2.2.1.length:Int)>400)=c
 revert b0 b1 b2 b3 b4 b5 b6 b7 b8 b9 c
 decide +kernel
set_option maxRecDepth 20000 in
theorem Jt {n:Nat} {o:OpC} (ho:okO o) (hn:big<n):oQ n o=some (iR o,()):=by
 have hfl:∀x,fA n x=some (decide (0≤x∧x≤15),()):=fun x=>by unfold fA; rw [uK,Hr]; rfl
 have hda:∀x,gN n x=some (decide (0≤x∧x≤9999),()):=fun x=>by unfold gN; rw [uK,Hr]; rfl
 unfold oQ iR
 simp only [only,(name_eq ho.1 hn).1,(name_eq ho.2.1 hn).1,WS,uK,Hr,Vq ho.2.2.1 hn,Kz,hfl,hda,Option.bind_some]
 generalize BI o=b0
 generalize decide (1≤o.1∧o.1≤7)=a0
 generalize decide (rG o.2.1)=b1
 generalize (decide (o.1=5) || decide (o.1=6))=b2
 generalize decide (rG o.2.2.1)=b3
 generalize decide ((o.2.2.2.1.length:Int)>6)=b4
 generalize EU o.2.2.2.1=b5
 generalize decide (o.1=4)=b6
 generalize decide (1≤o.2.2.2.2.1∧o.2.2.2.2.1≤3)=b7
 generalize decide (0≤o.2.2.2.2.2.1∧o.2.2.2.2.2.1≤15)=b8
 generalize decide (0≤o.2.2.2.2.2.2.1∧o.2.2.2.2.2.2.1≤9999)=b9
 generalize decide ((o.2.2.2.2.2.2.2.1.length:Int)>400)=c
 revert a0 b0 b1 b2 b3 b4 b5 b6 b7 b8 b9 c
 decide +kernel
def okR (r:zV):Prop:=r.2.1.length≤big∧Ar r.2.2.1
theorem Ic (c:Int):okR (bad c):=by
 refine ⟨by simp [bad,big],by simp [bad,big],fun b hb=>?_⟩
 simp [bad] at hb
theorem EI {s:lK} {i:Nat} {b:Bx} {v:Int} (hs:Ar s) (hb:okB b):Ar (v,s.2.1.set i b,()):=by
 refine ⟨by simpa using hs.1,fun x hx=>?_⟩
 rcases List.mem_or_eq_of_mem_set hx with h | rfl
 ·exact hs.2 x h
 ·exact hb
theorem J6 {b:Bx} {p:mP→Bool} (h:okB b):okB (b.1,b.2.1,b.2.2.1,b.2.2.2.1.filter p,()):=
 ⟨h.1,Nat.le_trans (List.length_filter_le _ _) h.2.1,fun m hm=>h.2.2 m (List.mem_filter.1 hm).1⟩
theorem Uf {s:lK} {i k:Nat} {o:OpC} (hs:Ar s) (hsm:∀b∈s.2.1,NL b) (hi:i<s.2.1.length) (hk:k<s.2.1.length):(Ab s i k o).1.length≤big∧Ar (Ab s i k o).2.2.1:=by
 have hT:(dD o (s.2.1.getD i dB)).length≤6:=Nat.le_trans (List.length_filter_le _ _) (hsm _ (eF hi dB)).2
 have hK:=(hsm _ (eF hk dB)).2
 unfold Ab
 split
 ·exact ⟨by simp [big],hs⟩
 ·split
  ·exact ⟨by simp [big],hs⟩
  ·have hP:okB (fM (s.2.1.getD k dB) (dD o (s.2.1.getD i dB))):=Md (hs.2 _ (eF hk dB)) (fun m hm=>(hs.2 _ (eF hi dB)).2.2 m (List.mem_filter.1 hm).1) (by unfold big; omega)
   refine ⟨by rw [ve]; unfold big; omega, ?_⟩
   have h1:Ar (s.1,s.2.1.set k (fM (s.2.1.getD k dB) (dD o (s.2.1.getD i dB))),()):=EI hs hP
   by_cases h6:o.1=6
   ·simp only [h6,if_true]
    exact EI (s:=(s.1,s.2.1.set k (fM (s.2.1.getD k dB) (dD o (s.2.1.getD i dB))),())) h1 (J6 (hs.2 _ (eF hi dB)))
   ·simp only [h6,if_false]
    exact h1
theorem T9 {s:lK} {o:OpC} (h:Fit s o):(qp s o).1.length≤big∧Ar (qp s o).2.2.1:=by
 have hs:=h.Ar
 have hf:=h.few
 unfold qp
 by_cases k1:o.1=1
 ·rw [if_pos k1]
  unfold EE
  split
  ·exact ⟨by simp [big],hs⟩
  ·split
   ·exact ⟨by simp [big],hs⟩
   ·split
    ·exact ⟨by simp [big],hs⟩
    ·refine ⟨by simp [big], ?_,fun b hb=>?_⟩
     ·simp [big]; omega
     ·rcases List.mem_append.1 hb with hb | hb
      ·exact hs.2 b hb
      ·simp only [List.mem_singleton] at hb
       subst hb
       exact ⟨h.okO.1,by simp [big],by simp⟩
 ·rw [if_neg k1]
  rcases pJ s o.2.1 with hp | ⟨i,hp,hi⟩
  ·rw [hp,if_pos (by decide)]
   exact ⟨by simp [big],hs⟩
  ·rw [hp,if_neg (by omega),Int.toNat_natCast]
   have hB:=h.small _ (eF hi dB)
   have Re:=hs.2 _ (eF hi dB)
   have hB2:=hB.2
   unfold PT
   split
   ·refine ⟨by simp [big], ?_,fun b hb=>?_⟩
    ·simp [big]; omega
    ·rcases List.mem_append.1 hb with hb | hb
     ·exact hs.2 b (List.mem_of_mem_take hb)
     ·exact hs.2 b (List.mem_of_mem_drop hb)
   ·split
    ·unfold V8
     split
     ·exact ⟨by simp [big],hs⟩
     ·split
      ·exact ⟨by simp [big],hs⟩
      ·refine ⟨by simp [big],EI hs (Md (l:=[_]) Re (fun m hm=>?_) (by simp only [List.length_singleton]; unfold big; omega))⟩
       simp only [List.mem_singleton] at hm
       subst hm
       exact RF h.okO
    ·split
     ·refine ⟨?_,EI hs ⟨Re.1,by simpa [Jw] using Re.2.1,fun m hm=>?_⟩⟩
      ·unfold LA
       rw [List.length_map]
       exact Nat.le_trans (List.length_filter_le _ _) Re.2.1
      ·obtain ⟨x,hx,rfl⟩:=List.mem_map.1 hm
       unfold mg
       split
       ·exact Re.2.2 x hx
       ·exact Re.2.2 x hx
     ·split
      ·refine ⟨?_,EI hs (J6 Re)⟩
       unfold WJ
       rw [List.length_map]
       exact Nat.le_trans (List.length_filter_le _ _) Re.2.1
      ·unfold carried
       split
       ·exact ⟨by simp [big],hs⟩
       ·split
        ·exact ⟨by simp [big],hs⟩
        ·rename_i hneg _
         rcases pJ s o.2.2.1 with hp2 | ⟨k,hp2,hk⟩
         ·rw [hp2] at hneg; exact absurd (by decide) hneg
         ·rw [hp2,Int.toNat_natCast]
          exact Uf hs h.small hi hk
theorem ZU {s:lK} {o:OpC} (h:Fit s o):okR (zB (qp s o)):=by
 unfold zB
 split
 ·exact T9 h
 ·exact Ic _
theorem fit {s:lK} {o:OpC} (hs:Ar s) (ho:okO o) (hg:zi s) (hf:iR o=0):Fit s o:=by
 refine ⟨hs,ho,hg.1,hg.2.1,fun b hb=>?_,fun h4=>?_⟩
 ·obtain ⟨i,hi,rfl⟩:=List.mem_iff_getElem.1 hb
  have:=(hg.2.2 i hi).1
  rw [getD_lt hi] at this
  obtain ⟨_,_,h3,h4,_⟩:=this
  exact ⟨⟨by omega,h3.2⟩,h4⟩
 ·unfold iR at hf
  split at hf
  ·omega
  ·split at hf
   ·omega
   ·split at hf
    ·omega
    ·split at hf
     ·omega
     ·rename_i hc
      rw [decide_eq_true h4] at hc
      simp only [Bool.not_eq_true,Bool.or_eq_false_iff,Bool.true_and] at hc
      have:=hc.1.1.2
      simpa using this
theorem MS {n:Nat} {s:lK} {o:OpC} (hs:Ar s) (ho:okO o) (hg:zi s) (hn:big<n):∃r:zV,sH n s o=some (r,())∧rZ n s o=some (r,())∧okR r∧
  ((iR o=0∧r=zB (qp s o))∨(iR o≠0∧r=bad (iR o))):=by
 obtain ⟨he,c,hc,hgc⟩:=Js hs hn
 have h0:=hgc.2 hg
 unfold sH rZ
 rw [hc]
 simp only [Option.bind_some,h0,decide_true,Bool.not_true,Bool.false_eq_true,if_false,Dq ho hn,Jt ho hn]
 by_cases h1:iR o=0
 ·have hF:=fit hs ho hg h1
  simp only [h1,decide_true,Bool.not_true,Bool.false_eq_true,if_false,Qx hF hn,own hs hn,Qw hF hn,Option.bind_some]
  refine ⟨zB (qp s o),rfl, ?_,ZU hF, .inl ⟨trivial,rfl⟩⟩
  unfold zB
  by_cases h2:(qp s o).2.1=0
  ·simp only [h2,decide_true,Bool.not_true,Bool.false_eq_true,if_false,if_true]
  ·simp only [h2,decide_false,Bool.not_false,if_true,if_false]
   rfl
 ·refine ⟨bad (iR o), ?_, ?_,Ic _, .inr ⟨h1,rfl⟩⟩
  ·simp only [h1,decide_false,Bool.not_false,if_true]; rfl
  ·simp only [h1,decide_false,Bool.not_false,if_true]; rfl
end Go.Proofs.YtailcbngagacaaaGreat.og
