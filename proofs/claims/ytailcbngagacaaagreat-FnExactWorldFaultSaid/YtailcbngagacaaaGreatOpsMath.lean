/- Ops on stores: what the printed functions of both sides come to. -/
import Derived.Test.YtailcbngagacaaaGreatOwF
import Derived.Test.YtailcbngagacaaaGreatLoopLib
import Derived.Test.YtailcbngagacaaaGreatCutLib
import Derived.Test.YtailcbngagacaaaGreatTakeLib
import Derived.Test.YtailcbngagacaaaGreatStoreMath
import Derived.Test.YtailcbngagacaaaGreatWfF
set_option linter.unusedSectionVars false
set_option linter.unusedVariables false
set_option linter.unusedSimpArgs false
namespace Go.Proofs.YtailcbngagacaaaGreat.pK
open Go Go.Proofs.YtailcbngagacaaaGreat.Ow Go.Proofs.YtailcbngagacaaaGreat.UZ Go.Proofs.YtailcbngagacaaaGreat.tV Go.Proofs.YtailcbngagacaaaGreat.oz
abbrev OpC:=Int×List Int×List Int×List Int×Int×Int×Int×List Int×Unit
def okO (o:OpC):Prop:=o.2.1.length≤big∧o.2.2.1.length≤big∧o.2.2.2.1.length≤big∧o.2.2.2.2.2.2.2.1.length≤big
theorem Wu {n:Nat} {bs:List Int} (h:bs.length≤big):o8 n bs=some (bs,()):=by
 unfold big at h
 unfold o8
 rw [if_pos (by simp; omega)]
 rfl
theorem clone {n:Nat} {bs:List Int} (h:bs.length≤big):dP n bs=some (bs,()):=by
 unfold big at h
 unfold dP
 have hc:(([]:List Int).length+bs.length) * 1≤140737488355328:=by simp; omega
 simp only [if_pos hc]
 cases bs with
 | nil=>exact (if_pos (show ([]:List Int).isEmpty=true from rfl)).trans (U3 (ks:=[.sl 5 (.int .u8)]) (some (([]:List Int),())))
 | cons b bs=>rfl
theorem Qi {n:Nat} {ms:List nG} (hb:ms.length≤big) (h:∀m∈ms,J2 m) (hn:big<n):mV n ms=some (ms,()):=by
 have hb':=hb
 unfold big at hb
 unfold mV
 refine (aR (fun i=>(ms,(i:Int),ms.take i,())) (fun _=>none) (some (ms,())) (m:=ms.length) (by simp) (by omega) ?_ ?_).trans (bU (fun _ _ _=>rfl))
 ·intro L i hi _
  have ht:ms.take (i+1)=ms.take i++[ms[i]]:=by simp
  have hl:(ms.take i).length≤i:=by simp; omega
  simp only [Int.ofNat_lt,hi,decide_true,if_true,aH hi,gG hi,aU hi (by omega),Wu (h ms[i] (List.getElem_mem hi)),Option.bind_some,List.length_singleton,ht]
  rw [if_pos (by omega)]
 ·intro L _
  simp
theorem EI {n:Nat} {b:Bx} (h:okB b) (hn:big<n):iW n b=some (b,()):=by
 unfold iW
 rw [Qi h.2.1 h.2.2 hn]
 rfl
theorem Qh {n:Nat} {s:lZ} (h:A9 s) (hn:big<n):mE n s=some (s,()):=by
 have hb:=h.1
 unfold big at hb
 unfold mE
 refine (aR (fun i=>((i:Int),s,(0,[],()),(s.1,s.2.1.take i,()),())) (fun _=>none) (some (s,())) (m:=s.2.1.length) (by simp) (by have:=h.1; omega) ?_ ?_).trans (bU (fun _ _ _=>rfl))
 ·intro L i hi _
  have ht:s.2.1.take (i+1)=s.2.1.take i++[s.2.1[i]]:=by simp
  have hl:(s.2.1.take i).length≤i:=by simp; omega
  simp only [Int.ofNat_lt,hi,decide_true,if_true,aH hi,gG hi,aU hi (by omega),EI (h.2 _ (List.getElem_mem hi)) hn,Option.bind_some,List.length_singleton,ht]
  rw [if_pos (by omega)]
 ·intro L _
  simp
theorem own {n:Nat} {s:lZ} (h:A9 s) (hn:big<n):jZ n s=some (s,()):=by
 have hb:=h.1
 unfold big at hb
 unfold jZ
 refine (aR (fun i=>(s.2.1,(s.2.1.length:Int),(i:Int),(0,[],()),(s.1,s.2.1.take i,()),())) (fun _=>none) (some (s,())) (m:=s.2.1.length) (by simp) (by have:=h.1; omega) ?_ ?_).trans (bU (fun _ _ _=>rfl))
 ·intro L i hi _
  have ht:s.2.1.take (i+1)=s.2.1.take i++[s.2.1[i]]:=by simp
  have hl:(s.2.1.take i).length≤i:=by simp; omega
  simp only [Int.ofNat_lt,hi,decide_true,if_true,aH hi,gG hi]
  have hB:=h.2 _ (List.getElem_mem hi)
  generalize s.2.1[i]=b at hB ht ⊢
  have hb2:=hB.2.1
  unfold big at hb2
  refine (aR (fun j=>(s.2.1,(s.2.1.length:Int),(i:Int),b.2.2.2.1,(b.2.2.2.1.length:Int),(j:Int),(0,[],()),(s.1,s.2.1.take i,()),(b.1,b.2.1,b.2.2.1,b.2.2.2.1.take j,()),())) (fun _=>none) (L (s.2.1,(s.2.1.length:Int),((i+1:Nat):Int),(0,[],()),(s.1,s.2.1.take (i+1),()),())) (m:=b.2.2.2.1.length) (by simp) (by have:=hB.2.1; omega) ?_ ?_).trans (bU (fun _ _ _=>rfl))
  ·intro L2 j hj _
   have htj:b.2.2.2.1.take (j+1)=b.2.2.2.1.take j++[b.2.2.2.1[j]]:=by simp
   have hlj:(b.2.2.2.1.take j).length≤j:=by simp; omega
   simp only [Int.ofNat_lt,hj,decide_true,if_true,aH hj,gG hj,aU hj (by omega),clone (hB.2.2 _ (List.getElem_mem hj)),Option.bind_some,List.length_singleton,htj]
   rw [if_pos (by omega)]
  ·intro L2 _
   simp only [Int.lt_irrefl,decide_false,Bool.false_eq_true,if_false,List.take_length,List.length_singleton,aU hi (by omega),ht]
   rw [if_pos (by omega)]
 ·intro L _
  simp
def zB (s:lZ) (nm:List Int):Int:=if s.2.1.findIdx (fun b=>decide (b.1=nm))<s.2.1.length then ((s.2.1.findIdx (fun b=>decide (b.1=nm)):Nat):Int) else -1
theorem nZ (s:lZ) (nm:List Int):zB s nm=-1∨∃i:Nat,zB s nm=(i:Int)∧i<s.2.1.length:=by
 unfold zB
 split
 ·exact .inr ⟨_,rfl,by assumption⟩
 ·exact .inl rfl
theorem ab3 {n:Nat} {s:lZ} {nm:List Int} (hb:s.2.1.length≤big) (hn:big<n):qp n s nm=some (zB s nm,()):=by
 have hb':=hb
 unfold big at hb
 unfold qp
 refine (aR (fun i=>(s,nm,(i:Int),())) (fun j=>if decide ((s.2.1.getD j dB).1=nm)=true then some (some ((j:Int),())) else none) (some (-1,())) (m:=s.2.1.length) rfl (by omega) ?_ ?_).trans ?_
 ·intro L i hi _
  simp only [Int.ofNat_lt,hi,decide_true,if_true,aH hi,Int.toNat_natCast,aU hi (by omega)]
  split <;> rfl
 ·intro L _
  simp
 ·rw [kT.zn (p:=fun b:Bx=>decide (b.1=nm)) (r:=fun j=>some ((j:Int),())) s.2.1.length 0 (by omega)]
  simp only [List.drop_zero,Nat.zero_add]
  unfold zB
  split <;> rfl
theorem box {n:Nat} {s:lZ} {nm:List Int} (hb:s.2.1.length≤big) (hn:big<n):iV n s nm=some (zB s nm,()):=by
 unfold iV
 have h:bW n s.2.1 nm=some (_,()):=kT.IM (p:=fun b:Bx=>decide (b.1=nm)) (q:=fun c x=>qg n x c) (d:=dB) (fun _ _=>rfl) (fun _=>rfl) (by unfold big at hb; omega) (by omega)
 rw [h]
 rfl
theorem has {n:Nat} {us:List Int} {x:Int} (hb:us.length≤big) (hn:big<n):kY n us x=some (us.contains x,()):=
 jr.NL (fun _ _=>rfl) (by unfold big at hb; omega) (by omega)
theorem contains {n:Nat} {us:List Int} {x:Int} (hb:us.length≤big) (hn:big<n):aV n us x=some (us.contains x,()):=
 kT.LZ (fun _ _=>rfl) (by unfold big at hb; omega) (by omega)
def yH (b:Bx) (m:nG):Bx:=(b.1,b.2.1,b.2.2.1+1,b.2.2.2.1++[(b.2.2.1,m.2.1,m.2.2.1,m.2.2.2.1,())],())
theorem Ox {n:Nat} {b:Bx} {m:nG} (hm:J2 m) (h1:0≤b.2.2.1) (h2:b.2.2.1≤2000) (h3:b.2.2.2.1.length≤2000):kZ n b m=some (b.2.2.1,yH b m,()):=by
 unfold kZ
 rw [Wu hm]
 simp only [Option.bind_some,List.length_singleton]
 rw [if_pos (by omega),wrap_i64 (by omega) (by omega)]
 rfl
theorem Ov {n:Nat} {b:Bx} {m:nG} (hm:J2 m) (h1:0≤b.2.2.1) (h2:b.2.2.1≤2000) (h3:b.2.2.2.1.length≤2000):qK n b m=some (b.2.2.1,yH b m,()):=by
 unfold qK
 rw [clone hm]
 simp only [Option.bind_some,List.length_singleton]
 rw [if_pos ⟨trivial,by omega⟩,wrap_i64 (x:=b.2.2.1+1) (by omega) (by omega),show b.2.2.1+1 - 1=b.2.2.1 by omega,wrap_i64 (by omega) (by omega)]
 rfl
theorem TV {n:Nat} {b:Bx} {m:nG} (hm:J2 m) (h1:0≤b.2.2.1) (h2:b.2.2.1≤2000) (h3:b.2.2.2.1.length≤2000):jE n b m=some (b.2.2.1,yH b m,()):=Ov hm h1 h2 h3
def turn (was mode fl:Int):Int:=
 if mode=2 then IntKind.i64.wrap ((BitVec.ofInt (IntKind.bits .i64) was ||| BitVec.ofInt (IntKind.bits .i64) fl).toNat) else if mode=3 then IntKind.i64.wrap ((BitVec.ofInt (IntKind.bits .i64) was &&& ~~~ BitVec.ofInt (IntKind.bits .i64) fl).toNat) else fl
def kQ (o:OpC) (m:nG):nG:=if o.2.2.2.1.contains m.1=true then (m.1,turn m.2.1 o.2.2.2.2.1 o.2.2.2.2.2.1,m.2.2) else m
def Ip (o:OpC) (b:Bx):Bx:=(b.1,b.2.1,b.2.2.1,b.2.2.2.1.map (kQ o),())
def Ku (o:OpC) (b:Bx):List Int:=(b.2.2.2.1.filter fun m=>o.2.2.2.1.contains m.1).map (·.1)
theorem flags {n:Nat} (a m f:Int):ry n a m f=some (turn a m f,()):=by
 unfold ry turn
 by_cases h2:m=2
 ·simp [h2]
 ·by_cases h3:m=3 <;> simp [h2,h3]
theorem Mw {A:Type} {p:A→Bool} {x:A} (h:p x=false):[x].filter p=[]:=by simp [List.filter_cons,h]
theorem one_pos {A:Type} {p:A→Bool} {x:A} (h:p x=true):[x].filter p=[x]:=by simp [List.filter_cons,h]
theorem OI {A:Type} {f:A→A} {xs:List A} {i:Nat} (hi:i<xs.length) (h:f xs[i]=xs[i]):(xs.map f).take i++xs.drop i=(xs.map f).take (i+1)++xs.drop (i+1):=by
 have h1:=Mr (xs:=xs) (ys:=xs.map f) (by simp) hi xs[i] (by simp [h])
 rw [←h1]
 symm
 have hl:i<((xs.map f).take i++xs.drop i).length:=by simp; omega
 have hg:=Mq (xs:=xs) (ys:=xs.map f) (by simp) hi xs[i]
 rw [List.getD_eq_getElem?_getD,List.getElem?_eq_getElem hl] at hg
 simp only [Option.getD_some] at hg
 conv=>lhs; rw [←hg]
 exact List.set_getElem_self hl
theorem S9 {n:Nat} {b:Bx} {o:OpC} (hb:b.2.2.2.1.length≤big) (ho:o.2.2.2.1.length≤big) (hn:big<n):tL n b o=some (Ku o b,Ip o b,()):=by
 have hb':=hb
 unfold big at hb
 unfold tL
 obtain ⟨nm,va,ne,ms,u⟩:=b
 have hb:ms.length≤1048576:=hb
 refine (aR (fun i=>(o,(i:Int),(nm,va,ne,(ms.map (kQ o)).take i++ms.drop i,()),((ms.take i).filter fun m=>o.2.2.2.1.contains m.1).map (·.1),())) (fun _=>none) (some (Ku o (nm,va,ne,ms,()),Ip o (nm,va,ne,ms,()),())) (m:=ms.length) (by simp) (by unfold big at hn; omega) ?_ ?_).trans (bU (fun _ _ _=>rfl))
 ·intro L i hi _
  have hy:(ms.map (kQ o)).length=ms.length:=by simp
  have hlen:=Ry (xs:=ms) (ys:=ms.map (kQ o)) hy (Nat.le_of_lt hi)
  have hget:=Mq (xs:=ms) (ys:=ms.map (kQ o)) hy hi dM
  have ht:ms.take (i+1)=ms.take i++[ms[i]]:=by simp
  have hl1:(((ms.take i).filter fun m=>o.2.2.2.1.contains m.1).map (·.1)).length≤i:=by
   rw [List.length_map]; exact Nat.le_trans (List.length_filter_le _ _) (by simp; omega)
  simp only [hlen,Int.ofNat_lt,hi,decide_true,if_true,aH hi,Int.toNat_natCast,CE,hget,has ho hn,Option.bind_some,flags,aU hi (by omega)]
  cases hc:o.2.2.2.1.contains ms[i].1 with
  | false=>
   have hf:kQ o ms[i]=ms[i]:=by unfold kQ; rw [hc]; rfl
   rw [if_neg Bool.false_ne_true,OI hi hf,ht,List.filter_append,Mw (p:=fun m:nG=>o.2.2.2.1.contains m.1) hc,List.append_nil]
  | true=>
   have hset:=Mr (xs:=ms) (ys:=ms.map (kQ o)) hy hi (ms[i].1,turn ms[i].2.1 o.2.2.2.2.1 o.2.2.2.2.2.1,ms[i].2.2) (by rw [List.getElem_map]; unfold kQ; rw [if_pos hc])
   have hgs:((ms.map (kQ o)).take (i+1)++ms.drop (i+1)).getD i dM=(ms[i].1,turn ms[i].2.1 o.2.2.2.2.1 o.2.2.2.2.2.1,ms[i].2.2):=by
    rw [←hset,List.getD_eq_getElem?_getD,List.getElem?_set_self (by omega)]; rfl
   simp only [if_true,hset,hgs,List.length_singleton]
   rw [if_pos (by omega),ht,List.filter_append,one_pos (p:=fun m:nG=>o.2.2.2.1.contains m.1) hc,List.map_append]
   rfl
 ·intro L _
  have ht:(ms.map (kQ o)).take ms.length=ms.map (kQ o):=List.take_of_length_le (by simp)
  simp only [ht,List.length_map,Int.lt_irrefl,decide_false,Bool.false_eq_true,if_false,List.take_length,List.drop_length,List.append_nil]
  rfl
theorem SY {n:Nat} {b:Bx} {o:OpC} (hb:b.2.2.2.1.length≤big) (ho:o.2.2.2.1.length≤big) (hn:big<n) (hm:1≤o.2.2.2.2.1∧o.2.2.2.2.1≤3):kU n b o=some (Ku o b,Ip o b,()):=by
 have hb':=hb
 unfold big at hb
 unfold kU
 obtain ⟨nm,va,ne,ms,u⟩:=b
 have hb:ms.length≤1048576:=hb
 refine (aR (fun i=>((ms.length:Int),(i:Int),(nm,va,ne,(ms.map (kQ o)).take i++ms.drop i,()),o,((ms.take i).filter fun m=>o.2.2.2.1.contains m.1).map (·.1),())) (fun _=>none) (some (Ku o (nm,va,ne,ms,()),Ip o (nm,va,ne,ms,()),())) (m:=ms.length) (by simp) (by unfold big at hn; omega) ?_ ?_).trans (bU (fun _ _ _=>rfl))
 ·intro L i hi _
  have hy:(ms.map (kQ o)).length=ms.length:=by simp
  have hlen:=Ry (xs:=ms) (ys:=ms.map (kQ o)) hy (Nat.le_of_lt hi)
  have hget:=Mq (xs:=ms) (ys:=ms.map (kQ o)) hy hi dM
  have ht:ms.take (i+1)=ms.take i++[ms[i]]:=by simp
  have hl1:(((ms.take i).filter fun m=>o.2.2.2.1.contains m.1).map (·.1)).length≤i:=by
   rw [List.length_map]; exact Nat.le_trans (List.length_filter_le _ _) (by simp; omega)
  simp only [hlen,Int.ofNat_lt,hi,decide_true,if_true,aH hi,Int.toNat_natCast,CE,hget,contains ho hn,Option.bind_some,aU hi (by omega)]
  cases hc:o.2.2.2.1.contains ms[i].1 with
  | false=>
   have hf:kQ o ms[i]=ms[i]:=by unfold kQ; rw [hc]; rfl
   rw [Bool.not_false,if_pos rfl,OI hi hf,ht,List.filter_append,Mw (p:=fun m:nG=>o.2.2.2.1.contains m.1) hc,List.append_nil]
  | true=>
   have hset:=Mr (xs:=ms) (ys:=ms.map (kQ o)) hy hi (ms[i].1,turn ms[i].2.1 o.2.2.2.2.1 o.2.2.2.2.2.1,ms[i].2.2) (by rw [List.getElem_map]; unfold kQ; rw [if_pos hc])
   rw [Bool.not_true,if_neg Bool.false_ne_true]
   simp only [List.length_singleton]
   rw [if_pos (by omega),ht,List.filter_append,one_pos (p:=fun m:nG=>o.2.2.2.1.contains m.1) hc,List.map_append, ←hset]
   unfold turn
   by_cases h1:o.2.2.2.2.1=1
   ·simp [h1]
   ·by_cases h2:o.2.2.2.2.1=2
    ·simp [h2]
    ·have h3:o.2.2.2.2.1=3:=by omega
     simp [h3]
 ·intro L _
  have ht:(ms.map (kQ o)).take ms.length=ms.map (kQ o):=List.take_of_length_le (by simp)
  simp only [ht,Int.lt_irrefl,decide_false,Bool.false_eq_true,if_false,List.take_length,List.drop_length,List.append_nil]
  rfl
theorem TT (us:List Int) (u f:Int):jr.pick us 0 u f=us.contains u:=by
 unfold jr.pick
 rw [show BitVec.ofInt (IntKind.bits .i64) f &&& BitVec.ofInt (IntKind.bits .i64) 0=BitVec.ofInt (IntKind.bits .i64) 0 from BitVec.and_zero]
 have:(IntKind.i64.wrap ((BitVec.ofInt (IntKind.bits .i64) 0).toNat:Int))=0:=by decide
 rw [this]
 simp
def Vx (b:Bx):List Int:=(b.2.2.2.1.filter fun m=>jJ.del m.2.1).map (·.1)
def Ww (b:Bx):Bx:=(b.1,b.2.1,b.2.2.1,b.2.2.2.1.filter (fun m=>!jJ.del m.2.1),())
theorem acg {n:Nat} {b:Bx} (hb:b.2.2.2.1.length≤big) (hn:big<n):fP n b=some (Vx b,Ww b,()):=by
 unfold big at hb hn
 show jJ.x8 n b=_
 unfold jJ.x8
 rw [if_pos ⟨by omega,by omega⟩]
 rfl
theorem Ug {n:Nat} {b:Bx} (hb:b.2.2.2.1.length≤big) (hn:big<n):fK n b [] 8=some (b.2.2.2.1.filter (fun m=>jJ.del m.2.1),Ww b,()):=by
 unfold big at hb hn
 show jr.Af jr.pick n b [] 8=_
 unfold jr.Af
 rw [if_pos ⟨by omega,by omega,by simp,by simp; omega⟩]
 rfl
def dA (o:OpC) (b:Bx):List nG:=b.2.2.2.1.filter fun m=>o.2.2.2.1.contains m.1
def ZP (o:OpC) (b:Bx):Bx:=(b.1,b.2.1,b.2.2.1,b.2.2.2.1.filter (fun m=>!o.2.2.2.1.contains m.1),())
theorem K6 {n:Nat} {b:Bx} {o:OpC} (hb:b.2.2.2.1.length≤big) (ho:o.2.2.2.1.length≤big) (hn:big<n):fK n b o.2.2.2.1 0=some (dA o b,ZP o b,()):=by
 have hb':=hb
 have ho':=ho
 unfold big at hb ho hn
 show jr.Af jr.pick n b o.2.2.2.1 0=_
 unfold jr.Af
 rw [if_pos ⟨by omega,by omega,by omega,by omega⟩]
 simp only [TT]
 rfl
def fI (b:Bx) (l:List nG):Bx:=l.foldl yH b
def xV (b:Bx):Nat→List Int
 | 0=>[]
 | k+1=>xV b k++[b.2.2.1+(k:Int)]
theorem ug (b:Bx):∀k,(xV b k).length=k
 | 0=>rfl
 | k+1=>by simp [xV,ug b k]
theorem Ou (b:Bx) (l:List nG) (m:nG):fI b (l++[m])=yH (fI b l) m:=by simp [fI]
theorem Fw (b:Bx):∀l:List nG,(fI b l).2.2.1=b.2.2.1+(l.length:Int)∧(fI b l).2.2.2.1.length=b.2.2.2.1.length+l.length:=by
 intro l
 induction l generalizing b with
 | nil=>simp [fI]
 | cons m l ih=>
  have:=ih (yH b m)
  simp only [fI,List.foldl_cons,List.length_cons] at this ⊢
  rw [this.1,this.2]
  simp [yH]
  omega
theorem KQ {l:List nG}:∀{b:Bx},okB b→(∀m∈l,J2 m)→b.2.2.2.1.length+l.length≤big→okB (fI b l):=by
 induction l with
 | nil=>intro b h _ _; exact h
 | cons m l ih=>
  intro b h hl hb
  simp only [List.length_cons] at hb
  refine ih (b:=yH b m) ⟨h.1, ?_, ?_⟩ (fun x hx=>hl x (by simp [hx])) ?_
  ·simp only [yH,List.length_append,List.length_singleton]; omega
  ·intro x hx
   simp only [yH,List.mem_append,List.mem_singleton] at hx
   rcases hx with hx | rfl
   ·exact h.2.2 x hx
   ·exact hl m (by simp)
  ·simp only [yH,List.length_append,List.length_singleton]; omega
theorem Jn {A:Type} {xs:List A} {k:Nat} (h:k<xs.length) (y d:A):(xs.set k y).getD k d=y:=by
 rw [List.getD_eq_getElem?_getD,List.getElem?_set_self h]; rfl
theorem getD_lt {A:Type} {xs:List A} {k:Nat} (h:k<xs.length) (d:A):xs.getD k d=xs[k]:=by
 rw [List.getD_eq_getElem?_getD,List.getElem?_eq_getElem h]; rfl
theorem Xh {A:Type} {xs:List A} {k:Nat} (h:k<xs.length) (d:A):xs.set k (xs.getD k d)=xs:=by
 rw [List.getD_eq_getElem?_getD,List.getElem?_eq_getElem h]
 exact List.set_getElem_self h
theorem Oy {s:lZ} {k j:Nat} {l:List nG} {b:Bx} (hk:k<s.2.1.length) (hj:j<l.length) :
  ((s.2.1.set k (fI b (l.take j))).set k (yH (fI b (l.take j)) l[j]))=s.2.1.set k (fI b (l.take (j+1))):=by
 rw [List.set_set, ←Ou]
 congr 2
 simp
theorem Hu {n:Nat} {s:lZ} {at':Int} {k:Nat} {o:OpC} {part:Bx} {l:List nG} {b:Bx} {fin:Int×OpC×Int×Int×lZ×Bx×List nG×List Int×Unit→Option (List Int×Int×lZ×Unit)}
  {B:(Int×OpC×Int×Int×lZ×Bx×List nG×List Int×Unit→Option (List Int×Int×lZ×Unit))→Int×OpC×Int×Int×lZ×Bx×List nG×List Int×Unit→Option (List Int×Int×lZ×Unit)}
  (hB:∀L v,B L v=(if decide (v.2.2.2.1<(v.2.2.2.2.2.2.1.length:Int))=true then (if aM v.2.2.2.1 v.2.2.2.2.2.2.1.length then ((kZ n (v.2.2.2.2.1.2.1.getD v.2.2.1.toNat dB) (v.2.2.2.2.2.2.1.getD v.2.2.2.1.toNat dM)).bind fun r5=>(if (v.2.2.2.2.2.2.2.1.length+[r5.1].length) * 8≤140737488355328 then L (v.1,v.2.1,v.2.2.1,IntKind.i64.wrap (v.2.2.2.1+(1:Int)),(v.2.2.2.2.1.1,v.2.2.2.2.1.2.1.set v.2.2.1.toNat r5.2.1,v.2.2.2.2.1.2.2),v.2.2.2.2.2.1,v.2.2.2.2.2.2.1,v.2.2.2.2.2.2.2.1++[r5.1],()) else none)) else none) else fin v))
  (hk:k<s.2.1.length) (hb:s.2.1.getD k dB=b) (hl:∀m∈l,J2 m) (hl6:l.length≤6) (h1:0≤b.2.2.1) (h2:b.2.2.1≤1000) (h3:b.2.2.2.1.length≤6) (hn:big<n) :
  rounds B n (at',o,(k:Int),(0:Int),s,part,l,[],())=fin (at',o,(k:Int),(l.length:Int),(s.1,s.2.1.set k (fI b l),()),part,l,xV b l.length,()):=by
 have hn':1048576<n:=hn
 refine (aR (fun j=>(at',o,(k:Int),(j:Int),(s.1,s.2.1.set k (fI b (l.take j)),()),part,l,xV b j,())) (fun _=>none) (fin (at',o,(k:Int),(l.length:Int),(s.1,s.2.1.set k (fI b l),()),part,l,xV b l.length,())) (m:=l.length) ?_ (by omega) ?_ ?_).trans (bU (fun _ _ _=>rfl))
 ·rw [List.take_zero]
  show _=(_,_,_,_,(s.1,s.2.1.set k b,()),_,_,[],())
  rw [←hb,Xh hk]
  rfl
 ·intro L j hj _
  have hp:=Fw b (l.take j)
  have hlt:(l.take j).length=j:=by simp; omega
  rw [hlt] at hp
  have hput:=Ox (n:=n) (b:=fI b (l.take j)) (m:=l[j]) (hl _ (List.getElem_mem hj)) (by rw [hp.1]; omega) (by rw [hp.1]; omega) (by rw [hp.2]; omega)
  simp only [hB,Int.ofNat_lt,hj,decide_true,if_true,aH hj,Int.toNat_natCast,getD_lt hj,Jn hk,hput,Option.bind_some,aU hj (by omega),ug,List.length_singleton,Oy hk hj]
  rw [if_pos (by omega),hp.1]
  rfl
 ·intro L _
  simp only [hB,Int.lt_irrefl,decide_false,Bool.false_eq_true,if_false,List.take_length]
theorem Ht {n:Nat} {s:lZ} {at':Int} {k:Nat} {o:OpC} {l:List nG} {b:Bx} {fin:Int×Int×Int×Int×lZ×OpC×List nG×List Int×Unit→Option (List Int×Int×lZ×Unit)}
  {B:(Int×Int×Int×Int×lZ×OpC×List nG×List Int×Unit→Option (List Int×Int×lZ×Unit))→Int×Int×Int×Int×lZ×OpC×List nG×List Int×Unit→Option (List Int×Int×lZ×Unit)}
  (hB:∀L v,B L v=(if decide (v.2.2.2.1<v.2.2.1)=true then (if aM v.2.2.2.1 v.2.2.2.2.2.2.1.length then ((jE n (v.2.2.2.2.1.2.1.getD v.2.1.toNat dB) (v.2.2.2.2.2.2.1.getD v.2.2.2.1.toNat dM)).bind fun r6=>(if (v.2.2.2.2.2.2.2.1.length+[r6.1].length) * 8≤140737488355328 then L (v.1,v.2.1,v.2.2.1,IntKind.i64.wrap (v.2.2.2.1+(1:Int)),(v.2.2.2.2.1.1,v.2.2.2.2.1.2.1.set v.2.1.toNat r6.2.1,v.2.2.2.2.1.2.2),v.2.2.2.2.2.1,v.2.2.2.2.2.2.1,v.2.2.2.2.2.2.2.1++[r6.1],()) else none)) else none) else fin v))
  (hk:k<s.2.1.length) (hb:s.2.1.getD k dB=b) (hl:∀m∈l,J2 m) (hl6:l.length≤6) (h1:0≤b.2.2.1) (h2:b.2.2.1≤1000) (h3:b.2.2.2.1.length≤6) (hn:big<n) :
  rounds B n (at',(k:Int),(l.length:Int),(0:Int),s,o,l,[],())=fin (at',(k:Int),(l.length:Int),(l.length:Int),(s.1,s.2.1.set k (fI b l),()),o,l,xV b l.length,()):=by
 have hn':1048576<n:=hn
 refine (aR (fun j=>(at',(k:Int),(l.length:Int),(j:Int),(s.1,s.2.1.set k (fI b (l.take j)),()),o,l,xV b j,())) (fun _=>none) (fin (at',(k:Int),(l.length:Int),(l.length:Int),(s.1,s.2.1.set k (fI b l),()),o,l,xV b l.length,())) (m:=l.length) ?_ (by omega) ?_ ?_).trans (bU (fun _ _ _=>rfl))
 ·rw [List.take_zero]
  show _=(_,_,_,_,(s.1,s.2.1.set k b,()),_,_,[],())
  rw [←hb,Xh hk]
  rfl
 ·intro L j hj _
  have hp:=Fw b (l.take j)
  have hlt:(l.take j).length=j:=by simp; omega
  rw [hlt] at hp
  have hput:=TV (n:=n) (b:=fI b (l.take j)) (m:=l[j]) (hl _ (List.getElem_mem hj)) (by rw [hp.1]; omega) (by rw [hp.1]; omega) (by rw [hp.2]; omega)
  simp only [hB,Int.ofNat_lt,hj,decide_true,if_true,aH hj,Int.toNat_natCast,getD_lt hj,Jn hk,hput,Option.bind_some,aU hj (by omega),ug,List.length_singleton,Oy hk hj]
  rw [if_pos (by omega),hp.1]
  rfl
 ·intro L _
  simp only [hB,Int.lt_irrefl,decide_false,Bool.false_eq_true,if_false,List.take_length]
theorem KH {n:Nat} {ms:List nG} {o:OpC} {a b:Int} {s:lZ} {fin:Int×Int×List nG×Int×Int×lZ×OpC×List nG×Unit→Option (List Int×Int×lZ×Unit)}
  {B:(Int×Int×List nG×Int×Int×lZ×OpC×List nG×Unit→Option (List Int×Int×lZ×Unit))→Int×Int×List nG×Int×Int×lZ×OpC×List nG×Unit→Option (List Int×Int×lZ×Unit)}
  (hB:∀L v,B L v=(if decide (v.2.2.2.2.1<v.2.2.2.1)=true then (if aM v.2.2.2.2.1 v.2.2.1.length then ((aV n v.2.2.2.2.2.2.1.2.2.2.1 ((v.2.2.1.getD v.2.2.2.2.1.toNat dM).1)).bind fun r3=>(if r3.1=true then (if (v.2.2.2.2.2.2.2.1.length+[v.2.2.1.getD v.2.2.2.2.1.toNat dM].length) * 48≤140737488355328 then L (v.1,v.2.1,v.2.2.1,v.2.2.2.1,IntKind.i64.wrap (v.2.2.2.2.1+(1:Int)),v.2.2.2.2.2.1,v.2.2.2.2.2.2.1,v.2.2.2.2.2.2.2.1++[v.2.2.1.getD v.2.2.2.2.1.toNat dM],()) else none) else L (v.1,v.2.1,v.2.2.1,v.2.2.2.1,IntKind.i64.wrap (v.2.2.2.2.1+(1:Int)),v.2.2.2.2.2.1,v.2.2.2.2.2.2.1,v.2.2.2.2.2.2.2.1,()))) else none) else fin v))
  (hb:ms.length≤big) (ho:o.2.2.2.1.length≤big) (hn:big<n) :
  rounds B n (a,b,ms,(ms.length:Int),(0:Int),s,o,[],())=fin (a,b,ms,(ms.length:Int),(ms.length:Int),s,o,ms.filter (fun m=>o.2.2.2.1.contains m.1),()):=by
 have hb':ms.length≤1048576:=hb
 refine (aR (fun i=>(a,b,ms,(ms.length:Int),(i:Int),s,o,(ms.take i).filter (fun m=>o.2.2.2.1.contains m.1),())) (fun _=>none) (fin (a,b,ms,(ms.length:Int),(ms.length:Int),s,o,ms.filter (fun m=>o.2.2.2.1.contains m.1),())) (m:=ms.length) (by simp) (by omega) ?_ ?_).trans (bU (fun _ _ _=>rfl))
 ·intro L i hi _
  have ht:ms.take (i+1)=ms.take i++[ms[i]]:=by simp
  have hl:((ms.take i).filter fun m=>o.2.2.2.1.contains m.1).length≤i:=Nat.le_trans (List.length_filter_le _ _) (by simp; omega)
  simp only [hB,Int.ofNat_lt,hi,decide_true,if_true,aH hi,gG hi,contains ho hn,Option.bind_some,aU hi (by omega),List.length_singleton,ht,List.filter_append]
  cases hc:o.2.2.2.1.contains ms[i].1 with
  | false=>rw [if_neg Bool.false_ne_true,Mw (p:=fun m:nG=>o.2.2.2.1.contains m.1) hc,List.append_nil]
  | true=>rw [if_pos rfl,if_pos (by omega),one_pos (p:=fun m:nG=>o.2.2.2.1.contains m.1) hc]
 ·intro L _
  simp only [hB,Int.lt_irrefl,decide_false,Bool.false_eq_true,if_false,List.take_length]
def MJ (b:Bx):Prop:=(0≤b.2.2.1∧b.2.2.1≤1000)∧b.2.2.2.1.length≤6
def zb (s:lZ) (i k:Nat) (o:OpC):List Int×Int×lZ×Unit:=
 if (s.2.1.getD k dB).2.2.2.1.length+(dA o (s.2.1.getD i dB)).length>6 then ([],10,s,()) else
 if (s.2.1.getD k dB).2.2.1+((dA o (s.2.1.getD i dB)).length:Int)>1000 then ([],10,s,()) else
 (xV (s.2.1.getD k dB) (dA o (s.2.1.getD i dB)).length,0,(s.1,if o.1=6 then (s.2.1.set k (fI (s.2.1.getD k dB) (dA o (s.2.1.getD i dB)))).set i (ZP o (s.2.1.getD i dB)) else s.2.1.set k (fI (s.2.1.getD k dB) (dA o (s.2.1.getD i dB))),()),())
def carried (s:lZ) (i:Nat) (o:OpC):List Int×Int×lZ×Unit:=
 if zB s o.2.2.1<0 then ([],4,s,()) else if o.1=6∧zB s o.2.2.1=(i:Int) then ([],9,s,()) else zb s i (zB s o.2.2.1).toNat o
theorem eZ {A:Type} {xs:List A} {k:Nat} (h:k<xs.length) (d:A):xs.getD k d∈xs:=by
 rw [getD_lt h]; exact List.getElem_mem h
theorem YK {n:Nat} {s:lZ} {i:Nat} {o:OpC} (hs:A9 s) (ho:okO o) (hsm:∀b∈s.2.1,MJ b) (hi:i<s.2.1.length) (hn:big<n):ru n s (i:Int) o=some (carried s i o):=by
 unfold ru carried
 rw [ab3 hs.1 hn]
 simp only [Option.bind_some]
 rcases nZ s o.2.2.1 with h | ⟨k,h,hk⟩
 ·rw [h]; rfl
 ·rw [h]
  have h0:¬((k:Int)<0):=by omega
  rw [decide_eq_false h0,if_neg Bool.false_ne_true,if_neg h0]
  have hA:=hsm _ (eZ hi dB)
  have hK:=hsm _ (eZ hk dB)
  have XB:=hs.2 _ (eZ hi dB)
  have hKo:=hs.2 _ (eZ hk dB)
  have hT:(dA o (s.2.1.getD i dB)).length≤6:=Nat.le_trans (List.length_filter_le _ _) hA.2
  have hTo:∀m∈dA o (s.2.1.getD i dB),J2 m:=fun m hm=>XB.2.2 m (List.mem_filter.1 hm).1
  have hK2:=hK.2
  have hK1:=hK.1
  by_cases h6:o.1=6
  ·rw [decide_eq_true h6,if_pos rfl]
   by_cases he:(k:Int)=(i:Int)
   ·rw [decide_eq_true he,if_pos rfl,if_pos ⟨h6,he⟩]
   ·rw [decide_eq_false he,if_neg Bool.false_ne_true,if_neg (show ¬(o.1=6∧(k:Int)=(i:Int)) from fun h=>he h.2),if_pos (aH hi)]
    simp only [Int.toNat_natCast,EI XB hn,Option.bind_some,K6 XB.2.1 ho.2.2.1 hn,if_pos (aH hk)]
    unfold zb
    have w1:IntKind.i64.wrap (((s.2.1.getD k dB).2.2.2.1.length:Int)+((dA o (s.2.1.getD i dB)).length:Int))=((s.2.1.getD k dB).2.2.2.1.length:Int)+((dA o (s.2.1.getD i dB)).length:Int):=wrap_i64 (by omega) (by omega)
    have w2:IntKind.i64.wrap ((s.2.1.getD k dB).2.2.1+((dA o (s.2.1.getD i dB)).length:Int))=(s.2.1.getD k dB).2.2.1+((dA o (s.2.1.getD i dB)).length:Int):=wrap_i64 (by omega) (by omega)
    simp only [w1,w2]
    by_cases c1:(s.2.1.getD k dB).2.2.2.1.length+(dA o (s.2.1.getD i dB)).length>6
    ·have c1':((s.2.1.getD k dB).2.2.2.1.length:Int)+((dA o (s.2.1.getD i dB)).length:Int)>6:=by omega
     simp only [c1,c1',decide_true,if_true]
    ·have c1':¬(((s.2.1.getD k dB).2.2.2.1.length:Int)+((dA o (s.2.1.getD i dB)).length:Int)>6):=by omega
     simp only [c1,c1',decide_false,Bool.false_eq_true,if_false]
     by_cases c2:(s.2.1.getD k dB).2.2.1+((dA o (s.2.1.getD i dB)).length:Int)>1000
     ·simp only [c2,decide_true,if_true]
     ·simp only [c2,decide_false,Bool.false_eq_true,if_false]
      refine (Hu (s:=s) (k:=k) (l:=dA o (s.2.1.getD i dB)) (b:=s.2.1.getD k dB) (fun _ _=>rfl) hk rfl hTo hT hK1.1 hK1.2 hK2 hn).trans ?_
      have hi2:i<(s.2.1.set k (fI (s.2.1.getD k dB) (dA o (s.2.1.getD i dB)))).length:=by simpa using hi
      simp only [h6,decide_true,if_true,if_pos (aH hi2),Int.toNat_natCast]
  ·rw [decide_eq_false h6,if_neg Bool.false_ne_true,if_neg (show ¬(o.1=6∧(k:Int)=(i:Int)) from fun h=>h6 h.1),if_pos (aH hi)]
   simp only [Int.toNat_natCast,EI XB hn,Option.bind_some,K6 XB.2.1 ho.2.2.1 hn,if_pos (aH hk)]
   unfold zb
   have w1:IntKind.i64.wrap (((s.2.1.getD k dB).2.2.2.1.length:Int)+((dA o (s.2.1.getD i dB)).length:Int))=((s.2.1.getD k dB).2.2.2.1.length:Int)+((dA o (s.2.1.getD i dB)).length:Int):=wrap_i64 (by omega) (by omega)
   have w2:IntKind.i64.wrap ((s.2.1.getD k dB).2.2.1+((dA o (s.2.1.getD i dB)).length:Int))=(s.2.1.getD k dB).2.2.1+((dA o (s.2.1.getD i dB)).length:Int):=wrap_i64 (by omega) (by omega)
   simp only [w1,w2]
   by_cases c1:(s.2.1.getD k dB).2.2.2.1.length+(dA o (s.2.1.getD i dB)).length>6
   ·have c1':((s.2.1.getD k dB).2.2.2.1.length:Int)+((dA o (s.2.1.getD i dB)).length:Int)>6:=by omega
    simp only [c1,c1',decide_true,if_true]
   ·have c1':¬(((s.2.1.getD k dB).2.2.2.1.length:Int)+((dA o (s.2.1.getD i dB)).length:Int)>6):=by omega
    simp only [c1,c1',decide_false,Bool.false_eq_true,if_false]
    by_cases c2:(s.2.1.getD k dB).2.2.1+((dA o (s.2.1.getD i dB)).length:Int)>1000
    ·simp only [c2,decide_true,if_true]
    ·simp only [c2,decide_false,Bool.false_eq_true,if_false]
     refine (Hu (s:=s) (k:=k) (l:=dA o (s.2.1.getD i dB)) (b:=s.2.1.getD k dB) (fun _ _=>rfl) hk rfl hTo hT hK1.1 hK1.2 hK2 hn).trans ?_
     simp only [h6,decide_false,Bool.false_eq_true,if_false]
theorem getD_set_ne {A:Type} {xs:List A} {i k:Nat} (h:k≠i) (y d:A):(xs.set k y).getD i d=xs.getD i d:=by
 rw [List.getD_eq_getElem?_getD,List.getD_eq_getElem?_getD,List.getElem?_set_ne h]
theorem Yh {n:Nat} {ms:List nG} {o:OpC} (hb:ms.length≤big) (ho:o.2.2.2.1.length≤big) (hn:big<n) :
  aF n ms o=some (((ms.filter fun m=>!o.2.2.2.1.contains m.1).length:Int),(ms.filter fun m=>!o.2.2.2.1.contains m.1)++List.replicate (ms.length - (ms.filter fun m=>!o.2.2.2.1.contains m.1).length) dM,()):=by
 unfold big at hb ho hn
 show kT.Ed n ms o=_
 unfold kT.Ed
 rw [if_pos ⟨by omega,by omega,by omega,by omega⟩]
 rfl
theorem copied {n:Nat} {s:lZ} {i:Nat} {o:OpC} (hs:A9 s) (ho:okO o) (hsm:∀b∈s.2.1,MJ b) (hi:i<s.2.1.length) (hn:big<n):jV n s (i:Int) o=some (carried s i o):=by
 unfold jV carried
 rw [box hs.1 hn]
 simp only [Option.bind_some]
 rcases nZ s o.2.2.1 with h | ⟨k,h,hk⟩
 ·rw [h]; rfl
 ·rw [h]
  have h0:¬((k:Int)<0):=by omega
  rw [decide_eq_false h0,if_neg Bool.false_ne_true,if_neg h0]
  have hA:=hsm _ (eZ hi dB)
  have hK:=hsm _ (eZ hk dB)
  have XB:=hs.2 _ (eZ hi dB)
  have hKo:=hs.2 _ (eZ hk dB)
  have hT:(dA o (s.2.1.getD i dB)).length≤6:=Nat.le_trans (List.length_filter_le _ _) hA.2
  have hTo:∀m∈dA o (s.2.1.getD i dB),J2 m:=fun m hm=>XB.2.2 m (List.mem_filter.1 hm).1
  have hK2:=hK.2
  have hK1:=hK.1
  have w1:IntKind.i64.wrap (((s.2.1.getD k dB).2.2.2.1.length:Int)+((dA o (s.2.1.getD i dB)).length:Int))=((s.2.1.getD k dB).2.2.2.1.length:Int)+((dA o (s.2.1.getD i dB)).length:Int):=wrap_i64 (by omega) (by omega)
  have w2:IntKind.i64.wrap ((s.2.1.getD k dB).2.2.1+((dA o (s.2.1.getD i dB)).length:Int))=(s.2.1.getD k dB).2.2.1+((dA o (s.2.1.getD i dB)).length:Int):=wrap_i64 (by omega) (by omega)
  have hlist:(s.2.1.getD i dB).2.2.2.1.filter (fun m=>o.2.2.2.1.contains m.1)=dA o (s.2.1.getD i dB):=rfl
  by_cases h6:o.1=6
  ·rw [decide_eq_true h6,if_pos rfl]
   by_cases he:(k:Int)=(i:Int)
   ·rw [decide_eq_true he,if_pos rfl,if_pos ⟨h6,he⟩]
   ·rw [decide_eq_false he,if_neg Bool.false_ne_true,if_neg (show ¬(o.1=6∧(k:Int)=(i:Int)) from fun h=>he h.2),if_pos (aH hi)]
    simp only [Int.toNat_natCast]
    refine (KH (s:=s) (o:=o) (a:=(i:Int)) (b:=(k:Int)) (ms:=(s.2.1.getD i dB).2.2.2.1) (fun _ _=>rfl) XB.2.1 ho.2.2.1 hn).trans ?_
    simp only [if_pos (aH hk),Int.toNat_natCast,hlist,w1]
    unfold zb
    by_cases c1:(s.2.1.getD k dB).2.2.2.1.length+(dA o (s.2.1.getD i dB)).length>6
    ·have c1':((s.2.1.getD k dB).2.2.2.1.length:Int)+((dA o (s.2.1.getD i dB)).length:Int)>6:=by omega
     simp only [c1,c1',decide_true,if_true]
    ·have c1':¬(((s.2.1.getD k dB).2.2.2.1.length:Int)+((dA o (s.2.1.getD i dB)).length:Int)>6):=by omega
     have hlen:dZ n (dA o (s.2.1.getD i dB))=some (((dA o (s.2.1.getD i dB)).length:Int),()):=rfl
     simp only [c1,c1',decide_false,Bool.false_eq_true,if_false,hlen,Option.bind_some,w2]
     by_cases c2:(s.2.1.getD k dB).2.2.1+((dA o (s.2.1.getD i dB)).length:Int)>1000
     ·simp only [c2,decide_true,if_true]
     ·simp only [c2,decide_false,Bool.false_eq_true,if_false]
      refine (Ht (s:=s) (k:=k) (l:=dA o (s.2.1.getD i dB)) (b:=s.2.1.getD k dB) (fun _ _=>rfl) hk rfl hTo hT hK1.1 hK1.2 hK2 hn).trans ?_
      have hki:k≠i:=fun h=>he (by omega)
      have hi2:i<(s.2.1.set k (fI (s.2.1.getD k dB) (dA o (s.2.1.getD i dB)))).length:=by simpa using hi
      simp only [h6,decide_true,if_true,if_pos (aH hi2),Int.toNat_natCast,CE,getD_set_ne hki,Yh XB.2.1 ho.2.2.1 hn,Option.bind_some,List.set_set,Jn hi2,List.take_left']
      rfl
  ·rw [decide_eq_false h6,if_neg Bool.false_ne_true,if_neg (show ¬(o.1=6∧(k:Int)=(i:Int)) from fun h=>h6 h.1),if_pos (aH hi)]
   simp only [Int.toNat_natCast]
   refine (KH (s:=s) (o:=o) (a:=(i:Int)) (b:=(k:Int)) (ms:=(s.2.1.getD i dB).2.2.2.1) (fun _ _=>rfl) XB.2.1 ho.2.2.1 hn).trans ?_
   simp only [if_pos (aH hk),Int.toNat_natCast,hlist,w1]
   unfold zb
   by_cases c1:(s.2.1.getD k dB).2.2.2.1.length+(dA o (s.2.1.getD i dB)).length>6
   ·have c1':((s.2.1.getD k dB).2.2.2.1.length:Int)+((dA o (s.2.1.getD i dB)).length:Int)>6:=by omega
    simp only [c1,c1',decide_true,if_true]
   ·have c1':¬(((s.2.1.getD k dB).2.2.2.1.length:Int)+((dA o (s.2.1.getD i dB)).length:Int)>6):=by omega
    have hlen:dZ n (dA o (s.2.1.getD i dB))=some (((dA o (s.2.1.getD i dB)).length:Int),()):=rfl
    simp only [c1,c1',decide_false,Bool.false_eq_true,if_false,hlen,Option.bind_some,w2]
    by_cases c2:(s.2.1.getD k dB).2.2.1+((dA o (s.2.1.getD i dB)).length:Int)>1000
    ·simp only [c2,decide_true,if_true]
    ·simp only [c2,decide_false,Bool.false_eq_true,if_false]
     refine (Ht (s:=s) (k:=k) (l:=dA o (s.2.1.getD i dB)) (b:=s.2.1.getD k dB) (fun _ _=>rfl) hk rfl hTo hT hK1.1 hK1.2 hK2 hn).trans ?_
     simp only [h6,decide_false,Bool.false_eq_true,if_false]
abbrev yX:=Int×List Int×lZ×Unit
def bad (c:Int):yX:=(c,[],(0,[],()),())
def Dz (s:lZ) (o:OpC):List Int×Int×lZ×Unit:=
 if zB s o.2.1≥0 then ([],6,s,()) else if s.2.1.length=3 then ([],10,s,()) else if s.1=1000 then ([],10,s,()) else ([],0,(s.1+1,s.2.1++[(o.2.1,s.1,1,[],())],()),())
def U2 (s:lZ) (i:Nat) (o:OpC):List Int×Int×lZ×Unit:=
 if (s.2.1.getD i dB).2.2.2.1.length=6 then ([],10,s,()) else if (s.2.1.getD i dB).2.2.1=1000 then ([],10,s,()) else
  ([(s.2.1.getD i dB).2.2.1],0,(s.1,s.2.1.set i (yH (s.2.1.getD i dB) (0,o.2.2.2.2.2.1,o.2.2.2.2.2.2.1,o.2.2.2.2.2.2.2.1,())),()),())
def OB (s:lZ) (i:Nat) (o:OpC):List Int×Int×lZ×Unit:=
 if o.1=2 then ([],0,(s.1,s.2.1.take i++s.2.1.drop (i+1),()),()) else
 if o.1=3 then U2 s i o else
 if o.1=4 then (Ku o (s.2.1.getD i dB),0,(s.1,s.2.1.set i (Ip o (s.2.1.getD i dB)),()),()) else
 if o.1=7 then (Vx (s.2.1.getD i dB),0,(s.1,s.2.1.set i (Ww (s.2.1.getD i dB)),()),()) else carried s i o
def oV (s:lZ) (o:OpC):List Int×Int×lZ×Unit:=
 if o.1=1 then Dz s o else if zB s o.2.1<0 then ([],4,s,()) else OB s (zB s o.2.1).toNat o
def yI (r:List Int×Int×lZ×Unit):yX:=if r.2.1=0 then (0,r.1,r.2.2.1,()) else bad r.2.1
structure Fit (s:lZ) (o:OpC):Prop where
 A9:A9 s
 okO:okO o
 val:1≤s.1∧s.1≤1000
 few:s.2.1.length≤3
 small:∀b∈s.2.1,MJ b
 mode:o.1=4→1≤o.2.2.2.2.1∧o.2.2.2.2.1≤3
theorem made {n:Nat} {s:lZ} {o:OpC} (h:Fit s o) (hn:big<n):mM n s o.2.1=some ((Dz s o).2.1,(Dz s o).2.2.1,())∧(Dz s o).1=[]:=by
 have hf:=h.few
 have hv:=h.val
 unfold mM Dz
 rw [box h.A9.1 hn]
 simp only [Option.bind_some]
 by_cases c0:zB s o.2.1≥0
 ·simp only [c0,decide_true,if_true,and_self]
 ·simp only [c0,decide_false,Bool.false_eq_true,if_false]
  by_cases c1:s.2.1.length=3
  ·simp only [c1,if_true]
   exact ⟨rfl,trivial⟩
  ·have:¬(s.2.1.length:Int)=3:=by omega
   simp only [c1,this,decide_false,Bool.false_eq_true,if_false]
   by_cases c2:s.1=1000
   ·simp only [c2,decide_true,if_true,and_self]
   ·simp only [c2,decide_false,Bool.false_eq_true,if_false,List.length_singleton,and_true]
    rw [if_pos (by omega),wrap_i64 (by omega) (by omega)]
theorem ab4 {n:Nat} {s:lZ} {o:OpC} (h:Fit s o) (hn:big<n):tO n s o=some (yI (Dz s o),()):=by
 have hf:=h.few
 have hv:=h.val
 unfold tO Dz
 rw [ab3 h.A9.1 hn]
 simp only [Option.bind_some]
 by_cases c0:zB s o.2.1≥0
 ·simp only [c0,decide_true,if_true]; rfl
 ·simp only [c0,decide_false,Bool.false_eq_true,if_false]
  by_cases c1:s.2.1.length=3
  ·have:(s.2.1.length:Int)≥3:=by omega
   simp only [c1,this,decide_true,if_true]; rfl
  ·have:¬(s.2.1.length:Int)≥3:=by omega
   simp only [c1,this,decide_false,Bool.false_eq_true,if_false]
   by_cases c2:s.1=1000
   ·have:s.1≥1000:=by omega
    simp only [c2,decide_true,if_true]; rfl
   ·have:¬s.1≥1000:=by omega
    simp only [c2,this,decide_false,Bool.false_eq_true,if_false,Qh h.A9 hn,Option.bind_some,List.length_singleton]
    rw [if_pos (by omega),wrap_i64 (by omega) (by omega)]
    rfl
theorem Qp {o:OpC} (ho:okO o):J2 (0,o.2.2.2.2.2.1,o.2.2.2.2.2.2.1,o.2.2.2.2.2.2.2.1,()):=ho.2.2.2
theorem Pk {n:Nat} {s:lZ} {o:OpC} (h:Fit s o) (hn:big<n):kV n s o=some (oV s o):=by
 unfold kV oV
 by_cases k1:o.1=1
 ·obtain ⟨h1,h2⟩:=made h hn
  simp only [k1,decide_true,if_true,h1,Option.bind_some]
  rw [←h2]
 ·simp only [k1,decide_false,Bool.false_eq_true,if_false,box h.A9.1 hn,Option.bind_some]
  rcases nZ s o.2.1 with hp | ⟨i,hp,hi⟩
  ·rw [hp]; rfl
  ·rw [hp]
   have h0:¬((i:Int)<0):=by omega
   simp only [h0,decide_false,Bool.false_eq_true,if_false,if_pos (aH hi),Int.toNat_natCast]
   have hB:=h.small _ (eZ hi dB)
   have Qb:=h.A9.2 _ (eZ hi dB)
   have hB1:=hB.1
   have hB2:=hB.2
   have hf:=h.few
   unfold OB
   by_cases k2:o.1=2
   ·have hw:IntKind.i64.wrap ((i:Int)+1)=((i+1:Nat):Int):=aU hi (by omega)
    have hdel:bO n s.2.1 (i:Int) ((i+1:Nat):Int)=some (((s.2.1.length - 1:Nat):Int),s.2.1.take i++s.2.1.drop (i+1)++[dB],()):=by
     show kT.H7 dB s.2.1 (i:Int) ((i+1:Nat):Int)=_
     unfold kT.H7
     rw [if_pos ⟨by omega,by omega,by omega⟩]
     simp only [Int.toNat_natCast,Nat.add_sub_cancel_left]
     rfl
    have hl:(s.2.1.take i++s.2.1.drop (i+1)).length=s.2.1.length - 1:=by simp; omega
    simp only [k2,decide_true,if_true,hw,hdel,Option.bind_some,Int.toNat_natCast]
    rw [←hl,List.take_left']
    rfl
   ·simp only [k2,decide_false,Bool.false_eq_true,if_false]
    by_cases k3:o.1=3
    ·simp only [k3,decide_true,if_true]
     unfold U2
     by_cases c1:(s.2.1.getD i dB).2.2.2.1.length=6
     ·simp only [c1,if_true]
      rfl
     ·have:¬((s.2.1.getD i dB).2.2.2.1.length:Int)=6:=by omega
      simp only [c1,this,decide_false,Bool.false_eq_true,if_false]
      by_cases c2:(s.2.1.getD i dB).2.2.1=1000
      ·simp only [c2,decide_true,if_true]
      ·have hput:=Ov (n:=n) (b:=s.2.1.getD i dB) (Qp h.okO) (by omega) (by omega) (by omega)
       simp only [c2,decide_false,Bool.false_eq_true,if_false,hput,Option.bind_some]
    ·simp only [k3,decide_false,Bool.false_eq_true,if_false]
     by_cases k4:o.1=4
     ·simp only [k4,decide_true,if_true,SY Qb.2.1 h.okO.2.2.1 hn (h.mode k4),Option.bind_some]
     ·simp only [k4,decide_false,Bool.false_eq_true,if_false]
      by_cases k7:o.1=7
      ·simp only [k7,decide_true,if_true,acg Qb.2.1 hn,Option.bind_some]
      ·simp only [k7,decide_false,Bool.false_eq_true,if_false,copied h.A9 h.okO h.small hi hn,Option.bind_some]
theorem Td {n:Nat} {ms:List nG} {r0:yX} {st:lZ} {c:Int} {B:(Int×yX×yX×List nG×Unit→Option (yX×Unit))→Int×yX×yX×List nG×Unit→Option (yX×Unit)}
  (hB:∀L v,B L v=(if decide (v.1<(v.2.2.2.1.length:Int))=true then (if aM v.1 v.2.2.2.1.length then (if (v.2.2.1.2.1.length+[(v.2.2.2.1.getD v.1.toNat dM).1].length) * 8≤140737488355328 then L (IntKind.i64.wrap (v.1+(1:Int)),v.2.1,(v.2.2.1.1,v.2.2.1.2.1++[(v.2.2.2.1.getD v.1.toNat dM).1],v.2.2.1.2.2),v.2.2.2.1,()) else none) else none) else some (v.2.2.1,())))
  (hb:ms.length≤big) (hn:big<n):rounds B n ((0:Int),r0,(c,[],st,()),ms,())=some ((c,ms.map (·.1),st,()),()):=by
 have hb':ms.length≤1048576:=hb
 refine (aR (fun i=>((i:Int),r0,(c,(ms.take i).map (·.1),st,()),ms,())) (fun _=>none) (some ((c,ms.map (·.1),st,()),())) (m:=ms.length) (by simp) (by omega) ?_ ?_).trans (bU (fun _ _ _=>rfl))
 ·intro L i hi _
  have ht:ms.take (i+1)=ms.take i++[ms[i]]:=by simp
  have hl:((ms.take i).map (·.1)).length≤i:=by simp; omega
  simp only [hB,Int.ofNat_lt,hi,decide_true,if_true,aH hi,gG hi,aU hi (by omega),List.length_singleton,ht,List.map_append,List.map_cons,List.map_nil]
  rw [if_pos (by omega)]
 ·intro L _
  simp only [hB,Int.lt_irrefl,decide_false,Bool.false_eq_true,if_false,List.take_length]
theorem Pm {n:Nat} {s:lZ} {o:OpC} (h:Fit s o) (hn:big<n):rq n s o=some (yI (oV s o),()):=by
 unfold rq oV
 by_cases k1:o.1=1
 ·simp only [k1,decide_true,if_true,ab4 h hn,Option.bind_some]
 ·simp only [k1,decide_false,Bool.false_eq_true,if_false,ab3 h.A9.1 hn,Option.bind_some]
  rcases nZ s o.2.1 with hp | ⟨i,hp,hi⟩
  ·rw [hp]; rfl
  ·rw [hp]
   have h0:¬((i:Int)<0):=by omega
   simp only [h0,decide_false,Bool.false_eq_true,if_false,Qh h.A9 hn,Option.bind_some,if_pos (aH hi),Int.toNat_natCast]
   have hB:=h.small _ (eZ hi dB)
   have Qb:=h.A9.2 _ (eZ hi dB)
   have hB1:=hB.1
   have hB2:=hB.2
   have hf:=h.few
   unfold OB
   by_cases k2:o.1=2
   ·have hw:IntKind.i64.wrap ((i:Int)+1)=((i+1:Nat):Int):=aU hi (by omega)
    simp only [k2,decide_true,if_true,hw,Int.toNat_natCast]
    rw [if_pos ⟨by omega,by omega⟩,if_pos (by simp; omega),if_pos ⟨by omega,by omega⟩,if_pos (by simp; omega)]
    rfl
   ·simp only [k2,decide_false,Bool.false_eq_true,if_false]
    by_cases k3:o.1=3
    ·simp only [k3,decide_true,if_true]
     unfold U2
     by_cases c1:(s.2.1.getD i dB).2.2.2.1.length=6
     ·have:((s.2.1.getD i dB).2.2.2.1.length:Int)≥6:=by omega
      simp only [c1,this,decide_true,if_true]; rfl
     ·have:¬((s.2.1.getD i dB).2.2.2.1.length:Int)≥6:=by omega
      simp only [c1,this,decide_false,Bool.false_eq_true,if_false]
      by_cases c2:(s.2.1.getD i dB).2.2.1=1000
      ·have:(s.2.1.getD i dB).2.2.1≥1000:=by omega
       simp only [c2,this,decide_true,if_true]; rfl
      ·have:¬(s.2.1.getD i dB).2.2.1≥1000:=by omega
       have hput:=Ox (n:=n) (b:=s.2.1.getD i dB) (Qp h.okO) (by omega) (by omega) (by omega)
       simp only [c2,this,decide_false,Bool.false_eq_true,if_false,hput,Option.bind_some]
       rfl
    ·simp only [k3,decide_false,Bool.false_eq_true,if_false]
     by_cases k4:o.1=4
     ·simp only [k4,decide_true,if_true,S9 Qb.2.1 h.okO.2.2.1 hn,Option.bind_some]
      rfl
     ·simp only [k4,decide_false,Bool.false_eq_true,if_false]
      by_cases k7:o.1=7
      ·simp only [k7,decide_true,if_true,Ug Qb.2.1 hn,Option.bind_some]
       exact Td (fun _ _=>rfl) (Nat.le_trans (List.length_filter_le _ _) Qb.2.1) hn
      ·simp only [k7,decide_false,Bool.false_eq_true,if_false,YK h.A9 h.okO h.small hi hn,Option.bind_some]
       unfold yI
       by_cases c:(carried s i o).2.1=0
       ·simp only [c,decide_true,Bool.not_true,Bool.false_eq_true,if_false,if_true]
       ·simp only [c,decide_false,Bool.not_false,if_true,if_false]; rfl
theorem copies {n:Nat} (k:Int):iw n k=some (decide (k=5) || decide (k=6),()):=by
 unfold iw
 cases decide (k=5) <;> rfl
theorem VG {n:Nat} (o:OpC):lU n o=some (decide (o.1=5) || decide (o.1=6),()):=copies (n:=n) o.1
theorem Yw {n:Nat} (o:OpC):jF n o=some ((decide (o.1=5) || decide (o.1=6)) || decide (o.1=4),()):=by
 unfold jF
 rw [VG]
 simp only [Option.bind_some]
 cases (decide (o.1=5) || decide (o.1=6)) <;> rfl
theorem abn (k:Nat):decide ((k:Int)>0)=!decide ((k:Int)=0):=by
 by_cases h:k=0
 ·subst h; rfl
 ·rw [decide_eq_true (by omega),decide_eq_false (by omega)]; rfl
def AL (o:OpC):Bool:=(((decide (o.1=5) || decide (o.1=6)) || decide (o.2.2.1=[])) && ((((decide (o.1=5) || decide (o.1=6)) || decide (o.1=4)) || decide ((o.2.2.2.1.length:Int)=0)) && ((decide (o.1=4) || decide (o.2.2.2.2.1=0)) &&
 ((decide (o.1=4) || (decide (o.1=3) || decide (o.2.2.2.2.2.1=0))) && (decide (o.1=3) || (decide (o.2.2.2.2.2.2.1=0) && decide ((o.2.2.2.2.2.2.2.1.length:Int)=0)))))))
set_option maxRecDepth 20000 in
theorem only {n:Nat} (o:OpC):oh n o=some (AL o,()):=by
 unfold oh AL
 simp only [VG,Yw,Option.bind_some]
 generalize (decide (o.1=5) || decide (o.1=6))=c
 generalize decide (o.2.2.1=[])=b1
 generalize decide (o.1=4)=b2
 generalize decide ((o.2.2.2.1.length:Int)=0)=b3
 generalize decide (o.2.2.2.2.1=0)=b4
 generalize decide (o.1=3)=b5
 generalize decide (o.2.2.2.2.2.1=0)=b6
 generalize decide (o.2.2.2.2.2.2.1=0)=b7
 generalize decide ((o.2.2.2.2.2.2.2.1.length:Int)=0)=b8
 revert c b1 b2 b3 b4 b5 b6 b7 b8
 decide +kernel
set_option maxRecDepth 20000 in
theorem form {n:Nat} (o:OpC):tN n o=some (decide (1≤o.1∧o.1≤7) && AL o,()):=by
 unfold tN AL
 simp only [BK,copies,Option.bind_some,abn]
 generalize (decide (o.1=5) || decide (o.1=6))=c
 generalize decide (o.2.2.1=[])=b1
 generalize decide (o.1=4)=b2
 generalize decide ((o.2.2.2.1.length:Int)=0)=b3
 generalize decide (o.2.2.2.2.1=0)=b4
 generalize decide (o.1=3)=b5
 generalize decide (o.2.2.2.2.2.1=0)=b6
 generalize decide (o.2.2.2.2.2.2.1=0)=b7
 generalize decide ((o.2.2.2.2.2.2.2.1.length:Int)=0)=b8
 generalize decide (1≤o.1∧o.1≤7)=b9
 revert c b1 b2 b3 b4 b5 b6 b7 b8 b9
 decide +kernel
def He (us:List Int) (j:Nat):Bool:=!decide (1≤us.getD j 0∧us.getD j 0≤999) || (decide ((j:Int)>0) && decide (us.getD j 0≤us.getD (j - 1) 0))
theorem K9 {n:Nat} {us:List Int} (hb:us.length≤big) (hn:big<n):mF n us=bX (fun j=>if He us j=true then some (some (false,())) else none) (some (true,())) us.length 0:=by
 have hb':us.length≤1048576:=hb
 unfold mF
 refine aR (fun i=>(us,(i:Int),())) (fun j=>if He us j=true then some (some (false,())) else none) (some (true,())) (m:=us.length) rfl (by omega) ?_ ?_
 ·intro L i hi _
  simp only [Int.ofNat_lt,hi,decide_true,if_true,aH hi,Int.toNat_natCast,BK,Option.bind_some,aU hi (by omega)]
  unfold He
  cases h1:decide (1≤us.getD i 0∧us.getD i 0≤999) with
  | false=>rfl
  | true=>
   cases i with
   | zero=>rfl
   | succ j=>
    have hj:j<us.length:=by omega
    rw [decide_eq_true (show ((j+1:Nat):Int)>0 by omega),EX hj (by omega)]
    simp only [aH hj,if_true,Int.toNat_natCast,Nat.add_sub_cancel,Bool.not_true,Bool.false_eq_true,if_false,Bool.false_or,Bool.true_and]
    by_cases hle:us.getD (j+1) 0≤us.getD j 0
    ·simp only [hle,decide_true,if_true]
    ·simp only [hle,decide_false,Bool.false_eq_true,if_false]
 ·intro L _
  simp
theorem K8 {n:Nat} {us:List Int} (hb:us.length≤big) (hn:big<n):j5 n us=bX (fun j=>if He us j=true then some (some (false,())) else none) (some (true,())) us.length 0:=by
 have hb':us.length≤1048576:=hb
 unfold j5
 refine aR (fun i=>(us,us,(us.length:Int),(i:Int),())) (fun j=>if He us j=true then some (some (false,())) else none) (some (true,())) (m:=us.length) rfl (by omega) ?_ ?_
 ·intro L i hi _
  have hu:om n (us.getD i 0)=some (decide (1≤us.getD i 0∧us.getD i 0≤999),()):=by
   unfold om
   rw [mH,BK]; rfl
  simp only [Int.ofNat_lt,hi,decide_true,if_true,aH hi,Int.toNat_natCast,hu,Option.bind_some,aU hi (by omega)]
  unfold He
  cases h1:decide (1≤us.getD i 0∧us.getD i 0≤999) with
  | false=>rfl
  | true=>
   cases i with
   | zero=>rfl
   | succ j=>
    have hj:j<us.length:=by omega
    rw [decide_eq_true (show ((j+1:Nat):Int)>0 by omega),EX hj (by omega)]
    simp only [aH hj,if_true,Int.toNat_natCast,Nat.add_sub_cancel,Bool.not_true,Bool.false_eq_true,if_false,Bool.false_or,Bool.true_and,ge_iff_le]
    cases decide (us.getD (j+1) 0≤us.getD j 0) <;> rfl
 ·intro L _
  simp
def Bp (us:List Int):Bool:=((bX (fun j=>if He us j=true then some (some (false,())) else none) (some (true,())) us.length 0).getD (false,())).1
theorem Bq (us:List Int):bX (fun j=>if He us j=true then some (some (false,())) else none) (some (true,())) us.length 0=some (Bp us,()):=by
 unfold Bp
 rcases Dq (step:=fun j=>if He us j=true then some (some (false,())) else none) (fin:=some (true,())) (r:=some (false,())) (fun j=>by by_cases h:He us j=true <;> simp [h]) (m:=us.length) (i:=0) with h | h <;> rw [h] <;> rfl
def iL (o:OpC):Int:=
 if (!(decide (1≤o.1∧o.1≤7) && AL o))=true then 1 else
 if (!decide (oO o.2.1) || ((decide (o.1=5) || decide (o.1=6)) && !decide (oO o.2.2.1)))=true then 5 else
 if decide ((o.2.2.2.1.length:Int)>6)=true then 2 else
 if (!Bp o.2.2.2.1 || (decide (o.1=4) && !decide (1≤o.2.2.2.2.1∧o.2.2.2.2.1≤3)) || !decide (0≤o.2.2.2.2.2.1∧o.2.2.2.2.2.1≤15) || !decide (0≤o.2.2.2.2.2.2.1∧o.2.2.2.2.2.2.1≤9999))=true then 3 else
 if decide ((o.2.2.2.2.2.2.2.1.length:Int)>400)=true then 2 else 0
set_option maxRecDepth 20000 in
theorem Cm {n:Nat} {o:OpC} (ho:okO o) (hn:big<n):nO n o=some (iL o,()):=by
 unfold nO iL
 simp only [form,(name_eq ho.1 hn).2,(name_eq ho.2.1 hn).2,copies,BK,K9 ho.2.2.1 hn,Bq,Option.bind_some]
 generalize (decide (1≤o.1∧o.1≤7) && AL o)=b0
 generalize decide (oO o.2.1)=b1
 generalize (decide (o.1=5) || decide (o.1=6))=b2
 generalize decide (oO o.2.2.1)=b3
 generalize decide ((o.2.2.2.1.length:Int)>6)=b4
 generalize Bp o.2.2.2.1=b5
 generalize decide (o.1=4)=b6
 generalize decide (1≤o.2.2.2.2.1∧o.2.2.2.2.1≤3)=b7
 generalize decide (0≤o.2.2.2.2.2.1∧o.2.2.2.2.2.1≤15)=b8
 generalize decide (0≤o.2.2.2.2.2.2.1∧o.2.2.2.2.2.2.1≤9999)=b9
 generalize decide ((o.2.2.2.2.2.2.2.1.length:Int)>400)=c
 revert b0 b1 b2 b3 b4 b5 b6 b7 b8 b9 c
 decide +kernel
set_option maxRecDepth 20000 in
theorem Il {n:Nat} {o:OpC} (ho:okO o) (hn:big<n):nL n o=some (iL o,()):=by
 have hfl:∀x,fA n x=some (decide (0≤x∧x≤15),()):=fun x=>by unfold fA; rw [mH,BK]; rfl
 have hda:∀x,gN n x=some (decide (0≤x∧x≤9999),()):=fun x=>by unfold gN; rw [mH,BK]; rfl
 unfold nL iL
 simp only [only,(name_eq ho.1 hn).1,(name_eq ho.2.1 hn).1,VG,mH,BK,K8 ho.2.2.1 hn,Bq,hfl,hda,Option.bind_some]
 generalize AL o=b0
 generalize decide (1≤o.1∧o.1≤7)=a0
 generalize decide (oO o.2.1)=b1
 generalize (decide (o.1=5) || decide (o.1=6))=b2
 generalize decide (oO o.2.2.1)=b3
 generalize decide ((o.2.2.2.1.length:Int)>6)=b4
 generalize Bp o.2.2.2.1=b5
 generalize decide (o.1=4)=b6
 generalize decide (1≤o.2.2.2.2.1∧o.2.2.2.2.1≤3)=b7
 generalize decide (0≤o.2.2.2.2.2.1∧o.2.2.2.2.2.1≤15)=b8
 generalize decide (0≤o.2.2.2.2.2.2.1∧o.2.2.2.2.2.2.1≤9999)=b9
 generalize decide ((o.2.2.2.2.2.2.2.1.length:Int)>400)=c
 revert a0 b0 b1 b2 b3 b4 b5 b6 b7 b8 b9 c
 decide +kernel
def okR (r:yX):Prop:=r.2.1.length≤big∧A9 r.2.2.1
theorem Gc (c:Int):okR (bad c):=by
 refine ⟨by simp [bad,big],by simp [bad,big],fun b hb=>?_⟩
 simp [bad] at hb
theorem DF {s:lZ} {i:Nat} {b:Bx} {v:Int} (hs:A9 s) (hb:okB b):A9 (v,s.2.1.set i b,()):=by
 refine ⟨by simpa using hs.1,fun x hx=>?_⟩
 rcases List.mem_or_eq_of_mem_set hx with h | rfl
 ·exact hs.2 x h
 ·exact hb
theorem I9 {b:Bx} {p:nG→Bool} (h:okB b):okB (b.1,b.2.1,b.2.2.1,b.2.2.2.1.filter p,()):=
 ⟨h.1,Nat.le_trans (List.length_filter_le _ _) h.2.1,fun m hm=>h.2.2 m (List.mem_filter.1 hm).1⟩
theorem Sz {s:lZ} {i k:Nat} {o:OpC} (hs:A9 s) (hsm:∀b∈s.2.1,MJ b) (hi:i<s.2.1.length) (hk:k<s.2.1.length):(zb s i k o).1.length≤big∧A9 (zb s i k o).2.2.1:=by
 have hT:(dA o (s.2.1.getD i dB)).length≤6:=Nat.le_trans (List.length_filter_le _ _) (hsm _ (eZ hi dB)).2
 have hK:=(hsm _ (eZ hk dB)).2
 unfold zb
 split
 ·exact ⟨by simp [big],hs⟩
 ·split
  ·exact ⟨by simp [big],hs⟩
  ·have hP:okB (fI (s.2.1.getD k dB) (dA o (s.2.1.getD i dB))):=KQ (hs.2 _ (eZ hk dB)) (fun m hm=>(hs.2 _ (eZ hi dB)).2.2 m (List.mem_filter.1 hm).1) (by unfold big; omega)
   refine ⟨by rw [ug]; unfold big; omega, ?_⟩
   have h1:A9 (s.1,s.2.1.set k (fI (s.2.1.getD k dB) (dA o (s.2.1.getD i dB))),()):=DF hs hP
   by_cases h6:o.1=6
   ·simp only [h6,if_true]
    exact DF (s:=(s.1,s.2.1.set k (fI (s.2.1.getD k dB) (dA o (s.2.1.getD i dB))),())) h1 (I9 (hs.2 _ (eZ hi dB)))
   ·simp only [h6,if_false]
    exact h1
theorem Sq {s:lZ} {o:OpC} (h:Fit s o):(oV s o).1.length≤big∧A9 (oV s o).2.2.1:=by
 have hs:=h.A9
 have hf:=h.few
 unfold oV
 by_cases k1:o.1=1
 ·rw [if_pos k1]
  unfold Dz
  split
  ·exact ⟨by simp [big],hs⟩
  ·split
   ·exact ⟨by simp [big],hs⟩
   ·split
    ·exact ⟨by simp [big],hs⟩
    ·refine ⟨by simp [big], ?_,fun b hb=>?_⟩
     ·simp [big]; omega
     ·rcases List.mem_append.1 hb with hb | hb
      ·exact hs.2 b hb
      ·simp only [List.mem_singleton] at hb
       subst hb
       exact ⟨h.okO.1,by simp [big],by simp⟩
 ·rw [if_neg k1]
  rcases nZ s o.2.1 with hp | ⟨i,hp,hi⟩
  ·rw [hp,if_pos (by decide)]
   exact ⟨by simp [big],hs⟩
  ·rw [hp,if_neg (by omega),Int.toNat_natCast]
   have hB:=h.small _ (eZ hi dB)
   have Qb:=hs.2 _ (eZ hi dB)
   have hB2:=hB.2
   unfold OB
   split
   ·refine ⟨by simp [big], ?_,fun b hb=>?_⟩
    ·simp [big]; omega
    ·rcases List.mem_append.1 hb with hb | hb
     ·exact hs.2 b (List.mem_of_mem_take hb)
     ·exact hs.2 b (List.mem_of_mem_drop hb)
   ·split
    ·unfold U2
     split
     ·exact ⟨by simp [big],hs⟩
     ·split
      ·exact ⟨by simp [big],hs⟩
      ·refine ⟨by simp [big],DF hs (KQ (l:=[_]) Qb (fun m hm=>?_) (by simp only [List.length_singleton]; unfold big; omega))⟩
       simp only [List.mem_singleton] at hm
       subst hm
       exact Qp h.okO
    ·split
     ·refine ⟨?_,DF hs ⟨Qb.1,by simpa [Ip] using Qb.2.1,fun m hm=>?_⟩⟩
      ·unfold Ku
       rw [List.length_map]
       exact Nat.le_trans (List.length_filter_le _ _) Qb.2.1
      ·obtain ⟨x,hx,rfl⟩:=List.mem_map.1 hm
       unfold kQ
       split
       ·exact Qb.2.2 x hx
       ·exact Qb.2.2 x hx
     ·split
      ·refine ⟨?_,DF hs (I9 Qb)⟩
       unfold Vx
       rw [List.length_map]
       exact Nat.le_trans (List.length_filter_le _ _) Qb.2.1
      ·unfold carried
       split
       ·exact ⟨by simp [big],hs⟩
       ·split
        ·exact ⟨by simp [big],hs⟩
        ·rename_i hneg _
         rcases nZ s o.2.2.1 with hp2 | ⟨k,hp2,hk⟩
         ·rw [hp2] at hneg; exact absurd (by decide) hneg
         ·rw [hp2,Int.toNat_natCast]
          exact Sz hs h.small hi hk
theorem YT {s:lZ} {o:OpC} (h:Fit s o):okR (yI (oV s o)):=by
 unfold yI
 split
 ·exact Sq h
 ·exact Gc _
theorem fit {s:lZ} {o:OpC} (hs:A9 s) (ho:okO o) (hg:yx s) (hf:iL o=0):Fit s o:=by
 refine ⟨hs,ho,hg.1,hg.2.1,fun b hb=>?_,fun h4=>?_⟩
 ·obtain ⟨i,hi,rfl⟩:=List.mem_iff_getElem.1 hb
  have:=(hg.2.2 i hi).1
  rw [getD_lt hi] at this
  obtain ⟨_,_,h3,h4,_⟩:=this
  exact ⟨⟨by omega,h3.2⟩,h4⟩
 ·unfold iL at hf
  split at hf
  ·omega
  ·split at hf
   ·omega
   ·split at hf
    ·omega
    ·split at hf
     ·omega
     ·rename_i hc
      rw [decide_eq_true h4] at hc
      simp only [Bool.not_eq_true,Bool.or_eq_false_iff,Bool.true_and] at hc
      have:=hc.1.1.2
      simpa using this
theorem LB {n:Nat} {s:lZ} {o:OpC} (hs:A9 s) (ho:okO o) (hg:yx s) (hn:big<n):∃r:yX,q9 n s o=some (r,())∧qL n s o=some (r,())∧okR r∧
  ((iL o=0∧r=yI (oV s o))∨(iL o≠0∧r=bad (iL o))):=by
 obtain ⟨he,c,hc,hgc⟩:=Ik hs hn
 have h0:=hgc.2 hg
 unfold q9 qL
 rw [hc]
 simp only [Option.bind_some,h0,decide_true,Bool.not_true,Bool.false_eq_true,if_false,Cm ho hn,Il ho hn]
 by_cases h1:iL o=0
 ·have hF:=fit hs ho hg h1
  simp only [h1,decide_true,Bool.not_true,Bool.false_eq_true,if_false,Pm hF hn,own hs hn,Pk hF hn,Option.bind_some]
  refine ⟨yI (oV s o),rfl, ?_,YT hF, .inl ⟨trivial,rfl⟩⟩
  unfold yI
  by_cases h2:(oV s o).2.1=0
  ·simp only [h2,decide_true,Bool.not_true,Bool.false_eq_true,if_false,if_true]
  ·simp only [h2,decide_false,Bool.not_false,if_true,if_false]
   rfl
 ·refine ⟨bad (iL o), ?_, ?_,Gc _, .inr ⟨h1,rfl⟩⟩
  ·simp only [h1,decide_false,Bool.not_false,if_true]; rfl
  ·simp only [h1,decide_false,Bool.not_false,if_true]; rfl
end Go.Proofs.YtailcbngagacaaaGreat.pK
