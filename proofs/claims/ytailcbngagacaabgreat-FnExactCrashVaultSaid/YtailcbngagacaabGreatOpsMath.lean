/- Ops on stores: what the printed functions of both sides come to. -/
import Derived.Test.YtailcbngagacaabGreatOwF
import Derived.Test.YtailcbngagacaabGreatLoopLib
import Derived.Test.YtailcbngagacaabGreatCutLib
import Derived.Test.YtailcbngagacaabGreatTakeLib
import Derived.Test.YtailcbngagacaabGreatStoreMath
import Derived.Test.YtailcbngagacaabGreatCrashF
set_option linter.unusedSectionVars false
set_option linter.unusedVariables false
set_option linter.unusedSimpArgs false
namespace Go.Proofs.YtailcbngagacaabGreat.mQ
open Go Go.Proofs.YtailcbngagacaabGreat.Ow Go.Proofs.YtailcbngagacaabGreat.rq Go.Proofs.YtailcbngagacaabGreat.om Go.Proofs.YtailcbngagacaabGreat.jl
abbrev OpC:=Int×List Int×List Int×List Int×Int×Int×Int×List Int×Unit
def okO (o:OpC):Prop:=o.2.1.length≤big∧o.2.2.1.length≤big∧o.2.2.2.1.length≤big∧o.2.2.2.2.2.2.2.1.length≤big
theorem RI {n:Nat} {bs:List Int} (h:bs.length≤big):nO n bs=some (bs,()):=by
 unfold big at h
 unfold nO
 rw [if_pos (by simp; omega)]
 rfl
theorem clone {n:Nat} {bs:List Int} (h:bs.length≤big):dP n bs=some (bs,()):=by
 unfold big at h
 unfold dP
 have hc:(([]:List Int).length+bs.length) * 1≤140737488355328:=by simp; omega
 simp only [if_pos hc]
 cases bs with
 | nil=>exact (if_pos (show ([]:List Int).isEmpty=true from rfl)).trans (Wu (ks:=[.sl 5 (.int .u8)]) (some (([]:List Int),())))
 | cons b bs=>rfl
theorem RL {n:Nat} {ms:List mP} (hb:ms.length≤big) (h:∀m∈ms,HY m) (hn:big<n):oh n ms=some (ms,()):=by
 have hb':=hb
 unfold big at hb
 unfold oh
 refine (aQ (fun i=>(ms,(i:Int),ms.take i,())) (fun _=>none) (some (ms,())) (m:=ms.length) (by simp) (by omega) ?_ ?_).trans (bK (fun _ _ _=>rfl))
 ·intro L i hi _
  have ht:ms.take (i+1)=ms.take i++[ms[i]]:=by simp
  have hl:(ms.take i).length≤i:=by simp; omega
  simp only [Int.ofNat_lt,hi,decide_true,if_true,aG hi,dV hi,aR hi (by omega),RI (h ms[i] (List.getElem_mem hi)),Option.bind_some,List.length_singleton,ht]
  rw [if_pos (by omega)]
 ·intro L _
  simp
theorem Gb {n:Nat} {b:Bx} (h:okB b) (hn:big<n):ji n b=some (b,()):=by
 unfold ji
 rw [RL h.2.1 h.2.2 hn]
 rfl
theorem RJ {n:Nat} {s:lK} (h:AO s) (hn:big<n):nP n s=some (s,()):=by
 have hb:=h.1
 unfold big at hb
 unfold nP
 refine (aQ (fun i=>((i:Int),s,(0,[],()),(s.1,s.2.1.take i,()),())) (fun _=>none) (some (s,())) (m:=s.2.1.length) (by simp) (by have:=h.1; omega) ?_ ?_).trans (bK (fun _ _ _=>rfl))
 ·intro L i hi _
  have ht:s.2.1.take (i+1)=s.2.1.take i++[s.2.1[i]]:=by simp
  have hl:(s.2.1.take i).length≤i:=by simp; omega
  simp only [Int.ofNat_lt,hi,decide_true,if_true,aG hi,dV hi,aR hi (by omega),Gb (h.2 _ (List.getElem_mem hi)) hn,Option.bind_some,List.length_singleton,ht]
  rw [if_pos (by omega)]
 ·intro L _
  simp
theorem own {n:Nat} {s:lK} (h:AO s) (hn:big<n):kT n s=some (s,()):=by
 have hb:=h.1
 unfold big at hb
 unfold kT
 refine (aQ (fun i=>(s.2.1,(s.2.1.length:Int),(i:Int),(0,[],()),(s.1,s.2.1.take i,()),())) (fun _=>none) (some (s,())) (m:=s.2.1.length) (by simp) (by have:=h.1; omega) ?_ ?_).trans (bK (fun _ _ _=>rfl))
 ·intro L i hi _
  have ht:s.2.1.take (i+1)=s.2.1.take i++[s.2.1[i]]:=by simp
  have hl:(s.2.1.take i).length≤i:=by simp; omega
  simp only [Int.ofNat_lt,hi,decide_true,if_true,aG hi,dV hi]
  have hB:=h.2 _ (List.getElem_mem hi)
  generalize s.2.1[i]=b at hB ht ⊢
  have hb2:=hB.2.1
  unfold big at hb2
  refine (aQ (fun j=>(s.2.1,(s.2.1.length:Int),(i:Int),b.2.2.2.1,(b.2.2.2.1.length:Int),(j:Int),(0,[],()),(s.1,s.2.1.take i,()),(b.1,b.2.1,b.2.2.1,b.2.2.2.1.take j,()),())) (fun _=>none) (L (s.2.1,(s.2.1.length:Int),((i+1:Nat):Int),(0,[],()),(s.1,s.2.1.take (i+1),()),())) (m:=b.2.2.2.1.length) (by simp) (by have:=hB.2.1; omega) ?_ ?_).trans (bK (fun _ _ _=>rfl))
  ·intro L2 j hj _
   have htj:b.2.2.2.1.take (j+1)=b.2.2.2.1.take j++[b.2.2.2.1[j]]:=by simp
   have hlj:(b.2.2.2.1.take j).length≤j:=by simp; omega
   simp only [Int.ofNat_lt,hj,decide_true,if_true,aG hj,dV hj,aR hj (by omega),clone (hB.2.2 _ (List.getElem_mem hj)),Option.bind_some,List.length_singleton,htj]
   rw [if_pos (by omega)]
  ·intro L2 _
   simp only [Int.lt_irrefl,decide_false,Bool.false_eq_true,if_false,List.take_length,List.length_singleton,aR hi (by omega),ht]
   rw [if_pos (by omega)]
 ·intro L _
  simp
def AP (s:lK) (nm:List Int):Int:=if s.2.1.findIdx (fun b=>decide (b.1=nm))<s.2.1.length then ((s.2.1.findIdx (fun b=>decide (b.1=nm)):Nat):Int) else -1
theorem pO (s:lK) (nm:List Int):AP s nm=-1∨∃i:Nat,AP s nm=(i:Int)∧i<s.2.1.length:=by
 unfold AP
 split
 ·exact .inr ⟨_,rfl,by assumption⟩
 ·exact .inl rfl
theorem adp {n:Nat} {s:lK} {nm:List Int} (hb:s.2.1.length≤big) (hn:big<n):rF n s nm=some (AP s nm,()):=by
 have hb':=hb
 unfold big at hb
 unfold rF
 refine (aQ (fun i=>(s,nm,(i:Int),())) (fun j=>if decide ((s.2.1.getD j dB).1=nm)=true then some (some ((j:Int),())) else none) (some (-1,())) (m:=s.2.1.length) rfl (by omega) ?_ ?_).trans ?_
 ·intro L i hi _
  simp only [Int.ofNat_lt,hi,decide_true,if_true,aG hi,Int.toNat_natCast,aR hi (by omega)]
  split <;> rfl
 ·intro L _
  simp
 ·rw [mq.Au (p:=fun b:Bx=>decide (b.1=nm)) (r:=fun j=>some ((j:Int),())) s.2.1.length 0 (by omega)]
  simp only [List.drop_zero,Nat.zero_add]
  unfold AP
  split <;> rfl
theorem box {n:Nat} {s:lK} {nm:List Int} (hb:s.2.1.length≤big) (hn:big<n):jg n s nm=some (AP s nm,()):=by
 unfold jg
 have h:bX n s.2.1 nm=some (_,()):=mq.JU (p:=fun b:Bx=>decide (b.1=nm)) (q:=fun c x=>ru n x c) (d:=dB) (fun _ _=>rfl) (fun _=>rfl) (by unfold big at hb; omega) (by omega)
 rw [h]
 rfl
theorem has {n:Nat} {us:List Int} {x:Int} (hb:us.length≤big) (hn:big<n):mJ n us x=some (us.contains x,()):=
 jI.Pg (fun _ _=>rfl) (by unfold big at hb; omega) (by omega)
theorem contains {n:Nat} {us:List Int} {x:Int} (hb:us.length≤big) (hn:big<n):aV n us x=some (us.contains x,()):=
 mq.Ns (fun _ _=>rfl) (by unfold big at hb; omega) (by omega)
def zJ (b:Bx) (m:mP):Bx:=(b.1,b.2.1,b.2.2.1+1,b.2.2.2.1++[(b.2.2.1,m.2.1,m.2.2.1,m.2.2.2.1,())],())
theorem PZ {n:Nat} {b:Bx} {m:mP} (hm:HY m) (h1:0≤b.2.2.1) (h2:b.2.2.1≤2000) (h3:b.2.2.2.1.length≤2000):mK n b m=some (b.2.2.1,zJ b m,()):=by
 unfold mK
 rw [RI hm]
 simp only [Option.bind_some,List.length_singleton]
 rw [if_pos (by omega),wrap_i64 (by omega) (by omega)]
 rfl
theorem PY {n:Nat} {b:Bx} {m:mP} (hm:HY m) (h1:0≤b.2.2.1) (h2:b.2.2.1≤2000) (h3:b.2.2.2.1.length≤2000):sw n b m=some (b.2.2.1,zJ b m,()):=by
 unfold sw
 rw [clone hm]
 simp only [Option.bind_some,List.length_singleton]
 rw [if_pos ⟨trivial,by omega⟩,wrap_i64 (x:=b.2.2.1+1) (by omega) (by omega),show b.2.2.1+1 - 1=b.2.2.1 by omega,wrap_i64 (by omega) (by omega)]
 rfl
theorem Vp {n:Nat} {b:Bx} {m:mP} (hm:HY m) (h1:0≤b.2.2.1) (h2:b.2.2.1≤2000) (h3:b.2.2.2.1.length≤2000):jS n b m=some (b.2.2.1,zJ b m,()):=PY hm h1 h2 h3
def turn (was mode fl:Int):Int:=
 if mode=2 then IntKind.i64.wrap ((BitVec.ofInt (IntKind.bits .i64) was ||| BitVec.ofInt (IntKind.bits .i64) fl).toNat) else if mode=3 then IntKind.i64.wrap ((BitVec.ofInt (IntKind.bits .i64) was &&& ~~~ BitVec.ofInt (IntKind.bits .i64) fl).toNat) else fl
def l9 (o:OpC) (m:mP):mP:=if o.2.2.2.1.contains m.1=true then (m.1,turn m.2.1 o.2.2.2.2.1 o.2.2.2.2.2.1,m.2.2) else m
def JD (o:OpC) (b:Bx):Bx:=(b.1,b.2.1,b.2.2.1,b.2.2.2.1.map (l9 o),())
def LH (o:OpC) (b:Bx):List Int:=(b.2.2.2.1.filter fun m=>o.2.2.2.1.contains m.1).map (·.1)
theorem flags {n:Nat} (a m f:Int):sP n a m f=some (turn a m f,()):=by
 unfold sP turn
 by_cases h2:m=2
 ·simp [h2]
 ·by_cases h3:m=3 <;> simp [h2,h3]
theorem NP {A:Type} {p:A→Bool} {x:A} (h:p x=false):[x].filter p=[]:=by simp [List.filter_cons,h]
theorem one_pos {A:Type} {p:A→Bool} {x:A} (h:p x=true):[x].filter p=[x]:=by simp [List.filter_cons,h]
theorem Qe {A:Type} {f:A→A} {xs:List A} {i:Nat} (hi:i<xs.length) (h:f xs[i]=xs[i]):(xs.map f).take i++xs.drop i=(xs.map f).take (i+1)++xs.drop (i+1):=by
 have h1:=AL (xs:=xs) (ys:=xs.map f) (by simp) hi xs[i] (by simp [h])
 rw [←h1]
 symm
 have hl:i<((xs.map f).take i++xs.drop i).length:=by simp; omega
 have hg:=ER (xs:=xs) (ys:=xs.map f) (by simp) hi xs[i]
 rw [List.getD_eq_getElem?_getD,List.getElem?_eq_getElem hl] at hg
 simp only [Option.getD_some] at hg
 conv=>lhs; rw [←hg]
 exact List.set_getElem_self hl
theorem UH {n:Nat} {b:Bx} {o:OpC} (hb:b.2.2.2.1.length≤big) (ho:o.2.2.2.1.length≤big) (hn:big<n):uW n b o=some (LH o b,JD o b,()):=by
 have hb':=hb
 unfold big at hb
 unfold uW
 obtain ⟨nm,va,ne,ms,u⟩:=b
 have hb:ms.length≤1048576:=hb
 refine (aQ (fun i=>(o,(i:Int),(nm,va,ne,(ms.map (l9 o)).take i++ms.drop i,()),((ms.take i).filter fun m=>o.2.2.2.1.contains m.1).map (·.1),())) (fun _=>none) (some (LH o (nm,va,ne,ms,()),JD o (nm,va,ne,ms,()),())) (m:=ms.length) (by simp) (by unfold big at hn; omega) ?_ ?_).trans (bK (fun _ _ _=>rfl))
 ·intro L i hi _
  have hy:(ms.map (l9 o)).length=ms.length:=by simp
  have hlen:=CQ (xs:=ms) (ys:=ms.map (l9 o)) hy (Nat.le_of_lt hi)
  have hget:=ER (xs:=ms) (ys:=ms.map (l9 o)) hy hi dM
  have ht:ms.take (i+1)=ms.take i++[ms[i]]:=by simp
  have hl1:(((ms.take i).filter fun m=>o.2.2.2.1.contains m.1).map (·.1)).length≤i:=by
   rw [List.length_map]; exact Nat.le_trans (List.length_filter_le _ _) (by simp; omega)
  simp only [hlen,Int.ofNat_lt,hi,decide_true,if_true,aG hi,Int.toNat_natCast,iR,hget,has ho hn,Option.bind_some,flags,aR hi (by omega)]
  cases hc:o.2.2.2.1.contains ms[i].1 with
  | false=>
   have hf:l9 o ms[i]=ms[i]:=by unfold l9; rw [hc]; rfl
   rw [if_neg Bool.false_ne_true,Qe hi hf,ht,List.filter_append,NP (p:=fun m:mP=>o.2.2.2.1.contains m.1) hc,List.append_nil]
  | true=>
   have hset:=AL (xs:=ms) (ys:=ms.map (l9 o)) hy hi (ms[i].1,turn ms[i].2.1 o.2.2.2.2.1 o.2.2.2.2.2.1,ms[i].2.2) (by rw [List.getElem_map]; unfold l9; rw [if_pos hc])
   have hgs:((ms.map (l9 o)).take (i+1)++ms.drop (i+1)).getD i dM=(ms[i].1,turn ms[i].2.1 o.2.2.2.2.1 o.2.2.2.2.2.1,ms[i].2.2):=by
    rw [←hset,List.getD_eq_getElem?_getD,List.getElem?_set_self (by omega)]; rfl
   simp only [if_true,hset,hgs,List.length_singleton]
   rw [if_pos (by omega),ht,List.filter_append,one_pos (p:=fun m:mP=>o.2.2.2.1.contains m.1) hc,List.map_append]
   rfl
 ·intro L _
  have ht:(ms.map (l9 o)).take ms.length=ms.map (l9 o):=List.take_of_length_le (by simp)
  simp only [ht,List.length_map,Int.lt_irrefl,decide_false,Bool.false_eq_true,if_false,List.take_length,List.drop_length,List.append_nil]
  rfl
theorem UG {n:Nat} {b:Bx} {o:OpC} (hb:b.2.2.2.1.length≤big) (ho:o.2.2.2.1.length≤big) (hn:big<n) (hm:1≤o.2.2.2.2.1∧o.2.2.2.2.1≤3):mE n b o=some (LH o b,JD o b,()):=by
 have hb':=hb
 unfold big at hb
 unfold mE
 obtain ⟨nm,va,ne,ms,u⟩:=b
 have hb:ms.length≤1048576:=hb
 refine (aQ (fun i=>((ms.length:Int),(i:Int),(nm,va,ne,(ms.map (l9 o)).take i++ms.drop i,()),o,((ms.take i).filter fun m=>o.2.2.2.1.contains m.1).map (·.1),())) (fun _=>none) (some (LH o (nm,va,ne,ms,()),JD o (nm,va,ne,ms,()),())) (m:=ms.length) (by simp) (by unfold big at hn; omega) ?_ ?_).trans (bK (fun _ _ _=>rfl))
 ·intro L i hi _
  have hy:(ms.map (l9 o)).length=ms.length:=by simp
  have hlen:=CQ (xs:=ms) (ys:=ms.map (l9 o)) hy (Nat.le_of_lt hi)
  have hget:=ER (xs:=ms) (ys:=ms.map (l9 o)) hy hi dM
  have ht:ms.take (i+1)=ms.take i++[ms[i]]:=by simp
  have hl1:(((ms.take i).filter fun m=>o.2.2.2.1.contains m.1).map (·.1)).length≤i:=by
   rw [List.length_map]; exact Nat.le_trans (List.length_filter_le _ _) (by simp; omega)
  simp only [hlen,Int.ofNat_lt,hi,decide_true,if_true,aG hi,Int.toNat_natCast,iR,hget,contains ho hn,Option.bind_some,aR hi (by omega)]
  cases hc:o.2.2.2.1.contains ms[i].1 with
  | false=>
   have hf:l9 o ms[i]=ms[i]:=by unfold l9; rw [hc]; rfl
   rw [Bool.not_false,if_pos rfl,Qe hi hf,ht,List.filter_append,NP (p:=fun m:mP=>o.2.2.2.1.contains m.1) hc,List.append_nil]
  | true=>
   have hset:=AL (xs:=ms) (ys:=ms.map (l9 o)) hy hi (ms[i].1,turn ms[i].2.1 o.2.2.2.2.1 o.2.2.2.2.2.1,ms[i].2.2) (by rw [List.getElem_map]; unfold l9; rw [if_pos hc])
   rw [Bool.not_true,if_neg Bool.false_ne_true]
   simp only [List.length_singleton]
   rw [if_pos (by omega),ht,List.filter_append,one_pos (p:=fun m:mP=>o.2.2.2.1.contains m.1) hc,List.map_append, ←hset]
   unfold turn
   by_cases h1:o.2.2.2.2.1=1
   ·simp [h1]
   ·by_cases h2:o.2.2.2.2.1=2
    ·simp [h2]
    ·have h3:o.2.2.2.2.1=3:=by omega
     simp [h3]
 ·intro L _
  have ht:(ms.map (l9 o)).take ms.length=ms.map (l9 o):=List.take_of_length_le (by simp)
  simp only [ht,Int.lt_irrefl,decide_false,Bool.false_eq_true,if_false,List.take_length,List.drop_length,List.append_nil]
  rfl
theorem Vn (us:List Int) (u f:Int):jI.pick us 0 u f=us.contains u:=by
 unfold jI.pick
 rw [show BitVec.ofInt (IntKind.bits .i64) f &&& BitVec.ofInt (IntKind.bits .i64) 0=BitVec.ofInt (IntKind.bits .i64) 0 from BitVec.and_zero]
 have:(IntKind.i64.wrap ((BitVec.ofInt (IntKind.bits .i64) 0).toNat:Int))=0:=by decide
 rw [this]
 simp
def WZ (b:Bx):List Int:=(b.2.2.2.1.filter fun m=>jY.del m.2.1).map (·.1)
def XY (b:Bx):Bx:=(b.1,b.2.1,b.2.2.1,b.2.2.2.1.filter (fun m=>!jY.del m.2.1),())
theorem adz {n:Nat} {b:Bx} (hb:b.2.2.2.1.length≤big) (hn:big<n):fV n b=some (WZ b,XY b,()):=by
 unfold big at hb hn
 show jY.y7 n b=_
 unfold jY.y7
 rw [if_pos ⟨by omega,by omega⟩]
 rfl
theorem Vy {n:Nat} {b:Bx} (hb:b.2.2.2.1.length≤big) (hn:big<n):fQ n b [] 8=some (b.2.2.2.1.filter (fun m=>jY.del m.2.1),XY b,()):=by
 unfold big at hb hn
 show jI.Bz jI.pick n b [] 8=_
 unfold jI.Bz
 rw [if_pos ⟨by omega,by omega,by simp,by simp; omega⟩]
 rfl
def dA (o:OpC) (b:Bx):List mP:=b.2.2.2.1.filter fun m=>o.2.2.2.1.contains m.1
def aa0 (o:OpC) (b:Bx):Bx:=(b.1,b.2.1,b.2.2.1,b.2.2.2.1.filter (fun m=>!o.2.2.2.1.contains m.1),())
theorem MF {n:Nat} {b:Bx} {o:OpC} (hb:b.2.2.2.1.length≤big) (ho:o.2.2.2.1.length≤big) (hn:big<n):fQ n b o.2.2.2.1 0=some (dA o b,aa0 o b,()):=by
 have hb':=hb
 have ho':=ho
 unfold big at hb ho hn
 show jI.Bz jI.pick n b o.2.2.2.1 0=_
 unfold jI.Bz
 rw [if_pos ⟨by omega,by omega,by omega,by omega⟩]
 simp only [Vn]
 rfl
def fO (b:Bx) (l:List mP):Bx:=l.foldl zJ b
def yX (b:Bx):Nat→List Int
 | 0=>[]
 | k+1=>yX b k++[b.2.2.1+(k:Int)]
theorem vo (b:Bx):∀k,(yX b k).length=k
 | 0=>rfl
 | k+1=>by simp [yX,vo b k]
theorem PX (b:Bx) (l:List mP) (m:mP):fO b (l++[m])=zJ (fO b l) m:=by simp [fO]
theorem GR (b:Bx):∀l:List mP,(fO b l).2.2.1=b.2.2.1+(l.length:Int)∧(fO b l).2.2.2.1.length=b.2.2.2.1.length+l.length:=by
 intro l
 induction l generalizing b with
 | nil=>simp [fO]
 | cons m l ih=>
  have:=ih (zJ b m)
  simp only [fO,List.foldl_cons,List.length_cons] at this ⊢
  rw [this.1,this.2]
  simp [zJ]
  omega
theorem Mm {l:List mP}:∀{b:Bx},okB b→(∀m∈l,HY m)→b.2.2.2.1.length+l.length≤big→okB (fO b l):=by
 induction l with
 | nil=>intro b h _ _; exact h
 | cons m l ih=>
  intro b h hl hb
  simp only [List.length_cons] at hb
  refine ih (b:=zJ b m) ⟨h.1, ?_, ?_⟩ (fun x hx=>hl x (by simp [hx])) ?_
  ·simp only [zJ,List.length_append,List.length_singleton]; omega
  ·intro x hx
   simp only [zJ,List.mem_append,List.mem_singleton] at hx
   rcases hx with hx | rfl
   ·exact h.2.2 x hx
   ·exact hl m (by simp)
  ·simp only [zJ,List.length_append,List.length_singleton]; omega
theorem Cq {A:Type} {xs:List A} {k:Nat} (h:k<xs.length) (y d:A):(xs.set k y).getD k d=y:=by
 rw [List.getD_eq_getElem?_getD,List.getElem?_set_self h]; rfl
theorem getD_lt {A:Type} {xs:List A} {k:Nat} (h:k<xs.length) (d:A):xs.getD k d=xs[k]:=by
 rw [List.getD_eq_getElem?_getD,List.getElem?_eq_getElem h]; rfl
theorem YB {A:Type} {xs:List A} {k:Nat} (h:k<xs.length) (d:A):xs.set k (xs.getD k d)=xs:=by
 rw [List.getD_eq_getElem?_getD,List.getElem?_eq_getElem h]
 exact List.set_getElem_self h
theorem P5 {s:lK} {k j:Nat} {l:List mP} {b:Bx} (hk:k<s.2.1.length) (hj:j<l.length) :
  ((s.2.1.set k (fO b (l.take j))).set k (zJ (fO b (l.take j)) l[j]))=s.2.1.set k (fO b (l.take (j+1))):=by
 rw [List.set_set, ←PX]
 congr 2
 simp
theorem Jf {n:Nat} {s:lK} {at':Int} {k:Nat} {o:OpC} {part:Bx} {l:List mP} {b:Bx} {fin:Int×OpC×Int×Int×lK×Bx×List mP×List Int×Unit→Option (List Int×Int×lK×Unit)}
  {B:(Int×OpC×Int×Int×lK×Bx×List mP×List Int×Unit→Option (List Int×Int×lK×Unit))→Int×OpC×Int×Int×lK×Bx×List mP×List Int×Unit→Option (List Int×Int×lK×Unit)}
  (hB:∀L v,B L v=(if decide (v.2.2.2.1<(v.2.2.2.2.2.2.1.length:Int))=true then (if aI v.2.2.2.1 v.2.2.2.2.2.2.1.length then ((mK n (v.2.2.2.2.1.2.1.getD v.2.2.1.toNat dB) (v.2.2.2.2.2.2.1.getD v.2.2.2.1.toNat dM)).bind fun r5=>(if (v.2.2.2.2.2.2.2.1.length+[r5.1].length) * 8≤140737488355328 then L (v.1,v.2.1,v.2.2.1,IntKind.i64.wrap (v.2.2.2.1+(1:Int)),(v.2.2.2.2.1.1,v.2.2.2.2.1.2.1.set v.2.2.1.toNat r5.2.1,v.2.2.2.2.1.2.2),v.2.2.2.2.2.1,v.2.2.2.2.2.2.1,v.2.2.2.2.2.2.2.1++[r5.1],()) else none)) else none) else fin v))
  (hk:k<s.2.1.length) (hb:s.2.1.getD k dB=b) (hl:∀m∈l,HY m) (hl6:l.length≤6) (h1:0≤b.2.2.1) (h2:b.2.2.1≤1000) (h3:b.2.2.2.1.length≤6) (hn:big<n) :
  rounds B n (at',o,(k:Int),(0:Int),s,part,l,[],())=fin (at',o,(k:Int),(l.length:Int),(s.1,s.2.1.set k (fO b l),()),part,l,yX b l.length,()):=by
 have hn':1048576<n:=hn
 refine (aQ (fun j=>(at',o,(k:Int),(j:Int),(s.1,s.2.1.set k (fO b (l.take j)),()),part,l,yX b j,())) (fun _=>none) (fin (at',o,(k:Int),(l.length:Int),(s.1,s.2.1.set k (fO b l),()),part,l,yX b l.length,())) (m:=l.length) ?_ (by omega) ?_ ?_).trans (bK (fun _ _ _=>rfl))
 ·rw [List.take_zero]
  show _=(_,_,_,_,(s.1,s.2.1.set k b,()),_,_,[],())
  rw [←hb,YB hk]
  rfl
 ·intro L j hj _
  have hp:=GR b (l.take j)
  have hlt:(l.take j).length=j:=by simp; omega
  rw [hlt] at hp
  have hput:=PZ (n:=n) (b:=fO b (l.take j)) (m:=l[j]) (hl _ (List.getElem_mem hj)) (by rw [hp.1]; omega) (by rw [hp.1]; omega) (by rw [hp.2]; omega)
  simp only [hB,Int.ofNat_lt,hj,decide_true,if_true,aG hj,Int.toNat_natCast,getD_lt hj,Cq hk,hput,Option.bind_some,aR hj (by omega),vo,List.length_singleton,P5 hk hj]
  rw [if_pos (by omega),hp.1]
  rfl
 ·intro L _
  simp only [hB,Int.lt_irrefl,decide_false,Bool.false_eq_true,if_false,List.take_length]
theorem Je {n:Nat} {s:lK} {at':Int} {k:Nat} {o:OpC} {l:List mP} {b:Bx} {fin:Int×Int×Int×Int×lK×OpC×List mP×List Int×Unit→Option (List Int×Int×lK×Unit)}
  {B:(Int×Int×Int×Int×lK×OpC×List mP×List Int×Unit→Option (List Int×Int×lK×Unit))→Int×Int×Int×Int×lK×OpC×List mP×List Int×Unit→Option (List Int×Int×lK×Unit)}
  (hB:∀L v,B L v=(if decide (v.2.2.2.1<v.2.2.1)=true then (if aI v.2.2.2.1 v.2.2.2.2.2.2.1.length then ((jS n (v.2.2.2.2.1.2.1.getD v.2.1.toNat dB) (v.2.2.2.2.2.2.1.getD v.2.2.2.1.toNat dM)).bind fun r6=>(if (v.2.2.2.2.2.2.2.1.length+[r6.1].length) * 8≤140737488355328 then L (v.1,v.2.1,v.2.2.1,IntKind.i64.wrap (v.2.2.2.1+(1:Int)),(v.2.2.2.2.1.1,v.2.2.2.2.1.2.1.set v.2.1.toNat r6.2.1,v.2.2.2.2.1.2.2),v.2.2.2.2.2.1,v.2.2.2.2.2.2.1,v.2.2.2.2.2.2.2.1++[r6.1],()) else none)) else none) else fin v))
  (hk:k<s.2.1.length) (hb:s.2.1.getD k dB=b) (hl:∀m∈l,HY m) (hl6:l.length≤6) (h1:0≤b.2.2.1) (h2:b.2.2.1≤1000) (h3:b.2.2.2.1.length≤6) (hn:big<n) :
  rounds B n (at',(k:Int),(l.length:Int),(0:Int),s,o,l,[],())=fin (at',(k:Int),(l.length:Int),(l.length:Int),(s.1,s.2.1.set k (fO b l),()),o,l,yX b l.length,()):=by
 have hn':1048576<n:=hn
 refine (aQ (fun j=>(at',(k:Int),(l.length:Int),(j:Int),(s.1,s.2.1.set k (fO b (l.take j)),()),o,l,yX b j,())) (fun _=>none) (fin (at',(k:Int),(l.length:Int),(l.length:Int),(s.1,s.2.1.set k (fO b l),()),o,l,yX b l.length,())) (m:=l.length) ?_ (by omega) ?_ ?_).trans (bK (fun _ _ _=>rfl))
 ·rw [List.take_zero]
  show _=(_,_,_,_,(s.1,s.2.1.set k b,()),_,_,[],())
  rw [←hb,YB hk]
  rfl
 ·intro L j hj _
  have hp:=GR b (l.take j)
  have hlt:(l.take j).length=j:=by simp; omega
  rw [hlt] at hp
  have hput:=Vp (n:=n) (b:=fO b (l.take j)) (m:=l[j]) (hl _ (List.getElem_mem hj)) (by rw [hp.1]; omega) (by rw [hp.1]; omega) (by rw [hp.2]; omega)
  simp only [hB,Int.ofNat_lt,hj,decide_true,if_true,aG hj,Int.toNat_natCast,getD_lt hj,Cq hk,hput,Option.bind_some,aR hj (by omega),vo,List.length_singleton,P5 hk hj]
  rw [if_pos (by omega),hp.1]
  rfl
 ·intro L _
  simp only [hB,Int.lt_irrefl,decide_false,Bool.false_eq_true,if_false,List.take_length]
theorem Ma {n:Nat} {ms:List mP} {o:OpC} {a b:Int} {s:lK} {fin:Int×Int×List mP×Int×Int×lK×OpC×List mP×Unit→Option (List Int×Int×lK×Unit)}
  {B:(Int×Int×List mP×Int×Int×lK×OpC×List mP×Unit→Option (List Int×Int×lK×Unit))→Int×Int×List mP×Int×Int×lK×OpC×List mP×Unit→Option (List Int×Int×lK×Unit)}
  (hB:∀L v,B L v=(if decide (v.2.2.2.2.1<v.2.2.2.1)=true then (if aI v.2.2.2.2.1 v.2.2.1.length then ((aV n v.2.2.2.2.2.2.1.2.2.2.1 ((v.2.2.1.getD v.2.2.2.2.1.toNat dM).1)).bind fun r3=>(if r3.1=true then (if (v.2.2.2.2.2.2.2.1.length+[v.2.2.1.getD v.2.2.2.2.1.toNat dM].length) * 48≤140737488355328 then L (v.1,v.2.1,v.2.2.1,v.2.2.2.1,IntKind.i64.wrap (v.2.2.2.2.1+(1:Int)),v.2.2.2.2.2.1,v.2.2.2.2.2.2.1,v.2.2.2.2.2.2.2.1++[v.2.2.1.getD v.2.2.2.2.1.toNat dM],()) else none) else L (v.1,v.2.1,v.2.2.1,v.2.2.2.1,IntKind.i64.wrap (v.2.2.2.2.1+(1:Int)),v.2.2.2.2.2.1,v.2.2.2.2.2.2.1,v.2.2.2.2.2.2.2.1,()))) else none) else fin v))
  (hb:ms.length≤big) (ho:o.2.2.2.1.length≤big) (hn:big<n) :
  rounds B n (a,b,ms,(ms.length:Int),(0:Int),s,o,[],())=fin (a,b,ms,(ms.length:Int),(ms.length:Int),s,o,ms.filter (fun m=>o.2.2.2.1.contains m.1),()):=by
 have hb':ms.length≤1048576:=hb
 refine (aQ (fun i=>(a,b,ms,(ms.length:Int),(i:Int),s,o,(ms.take i).filter (fun m=>o.2.2.2.1.contains m.1),())) (fun _=>none) (fin (a,b,ms,(ms.length:Int),(ms.length:Int),s,o,ms.filter (fun m=>o.2.2.2.1.contains m.1),())) (m:=ms.length) (by simp) (by omega) ?_ ?_).trans (bK (fun _ _ _=>rfl))
 ·intro L i hi _
  have ht:ms.take (i+1)=ms.take i++[ms[i]]:=by simp
  have hl:((ms.take i).filter fun m=>o.2.2.2.1.contains m.1).length≤i:=Nat.le_trans (List.length_filter_le _ _) (by simp; omega)
  simp only [hB,Int.ofNat_lt,hi,decide_true,if_true,aG hi,dV hi,contains ho hn,Option.bind_some,aR hi (by omega),List.length_singleton,ht,List.filter_append]
  cases hc:o.2.2.2.1.contains ms[i].1 with
  | false=>rw [if_neg Bool.false_ne_true,NP (p:=fun m:mP=>o.2.2.2.1.contains m.1) hc,List.append_nil]
  | true=>rw [if_pos rfl,if_pos (by omega),one_pos (p:=fun m:mP=>o.2.2.2.1.contains m.1) hc]
 ·intro L _
  simp only [hB,Int.lt_irrefl,decide_false,Bool.false_eq_true,if_false,List.take_length]
def NZ (b:Bx):Prop:=(0≤b.2.2.1∧b.2.2.1≤1000)∧b.2.2.2.1.length≤6
def Ak (s:lK) (i k:Nat) (o:OpC):List Int×Int×lK×Unit:=
 if (s.2.1.getD k dB).2.2.2.1.length+(dA o (s.2.1.getD i dB)).length>6 then ([],10,s,()) else
 if (s.2.1.getD k dB).2.2.1+((dA o (s.2.1.getD i dB)).length:Int)>1000 then ([],10,s,()) else
 (yX (s.2.1.getD k dB) (dA o (s.2.1.getD i dB)).length,0,(s.1,if o.1=6 then (s.2.1.set k (fO (s.2.1.getD k dB) (dA o (s.2.1.getD i dB)))).set i (aa0 o (s.2.1.getD i dB)) else s.2.1.set k (fO (s.2.1.getD k dB) (dA o (s.2.1.getD i dB))),()),())
def carried (s:lK) (i:Nat) (o:OpC):List Int×Int×lK×Unit:=
 if AP s o.2.2.1<0 then ([],4,s,()) else if o.1=6∧AP s o.2.2.1=(i:Int) then ([],9,s,()) else Ak s i (AP s o.2.2.1).toNat o
theorem eG {A:Type} {xs:List A} {k:Nat} (h:k<xs.length) (d:A):xs.getD k d∈xs:=by
 rw [getD_lt h]; exact List.getElem_mem h
theorem ZV {n:Nat} {s:lK} {i:Nat} {o:OpC} (hs:AO s) (ho:okO o) (hsm:∀b∈s.2.1,NZ b) (hi:i<s.2.1.length) (hn:big<n):sO n s (i:Int) o=some (carried s i o):=by
 unfold sO carried
 rw [adp hs.1 hn]
 simp only [Option.bind_some]
 rcases pO s o.2.2.1 with h | ⟨k,h,hk⟩
 ·rw [h]; rfl
 ·rw [h]
  have h0:¬((k:Int)<0):=by omega
  rw [decide_eq_false h0,if_neg Bool.false_ne_true,if_neg h0]
  have hA:=hsm _ (eG hi dB)
  have hK:=hsm _ (eG hk dB)
  have YU:=hs.2 _ (eG hi dB)
  have hKo:=hs.2 _ (eG hk dB)
  have hT:(dA o (s.2.1.getD i dB)).length≤6:=Nat.le_trans (List.length_filter_le _ _) hA.2
  have hTo:∀m∈dA o (s.2.1.getD i dB),HY m:=fun m hm=>YU.2.2 m (List.mem_filter.1 hm).1
  have hK2:=hK.2
  have hK1:=hK.1
  by_cases h6:o.1=6
  ·rw [decide_eq_true h6,if_pos rfl]
   by_cases he:(k:Int)=(i:Int)
   ·rw [decide_eq_true he,if_pos rfl,if_pos ⟨h6,he⟩]
   ·rw [decide_eq_false he,if_neg Bool.false_ne_true,if_neg (show ¬(o.1=6∧(k:Int)=(i:Int)) from fun h=>he h.2),if_pos (aG hi)]
    simp only [Int.toNat_natCast,Gb YU hn,Option.bind_some,MF YU.2.1 ho.2.2.1 hn,if_pos (aG hk)]
    unfold Ak
    have w1:IntKind.i64.wrap (((s.2.1.getD k dB).2.2.2.1.length:Int)+((dA o (s.2.1.getD i dB)).length:Int))=((s.2.1.getD k dB).2.2.2.1.length:Int)+((dA o (s.2.1.getD i dB)).length:Int):=wrap_i64 (by omega) (by omega)
    have w2:IntKind.i64.wrap ((s.2.1.getD k dB).2.2.1+((dA o (s.2.1.getD i dB)).length:Int))=(s.2.1.getD k dB).2.2.1+((dA o (s.2.1.getD i dB)).length:Int):=wrap_i64 (by omega) (by omega)
    simp only [w1,w2]
    by_cases c1:(s.2.1.getD k dB).2.2.2.1.length+(dA o (s.2.1.getD i dB)).length>6
    ·have c1':((s.2.1.getD k dB).2.2.2.1.length:Int)+((dA o (s.2.1.getD i dB)).length:Int)>6:=by omega
     simp only [c1,c1',decide_true,if_true]
    ·have c1':¬(((s.2.1.getD k dB).2.2.2.1.length:Int)+((dA o (s.2.1.getD i dB)).length:Int)>6):=by omega
     simp only [c1,c1',decide_false,Bool.false_eq_true,if_false]
     by_cases c2:(s.2.1.getD k dB).2.2.1+((dA o (s.2.1.getD i dB)).length:Int)>1000
     ·simp only [c2,decide_true,if_true]
     ·simp only [c2,decide_false,Bool.false_eq_true,if_false]
      refine (Jf (s:=s) (k:=k) (l:=dA o (s.2.1.getD i dB)) (b:=s.2.1.getD k dB) (fun _ _=>rfl) hk rfl hTo hT hK1.1 hK1.2 hK2 hn).trans ?_
      have hi2:i<(s.2.1.set k (fO (s.2.1.getD k dB) (dA o (s.2.1.getD i dB)))).length:=by simpa using hi
      simp only [h6,decide_true,if_true,if_pos (aG hi2),Int.toNat_natCast]
  ·rw [decide_eq_false h6,if_neg Bool.false_ne_true,if_neg (show ¬(o.1=6∧(k:Int)=(i:Int)) from fun h=>h6 h.1),if_pos (aG hi)]
   simp only [Int.toNat_natCast,Gb YU hn,Option.bind_some,MF YU.2.1 ho.2.2.1 hn,if_pos (aG hk)]
   unfold Ak
   have w1:IntKind.i64.wrap (((s.2.1.getD k dB).2.2.2.1.length:Int)+((dA o (s.2.1.getD i dB)).length:Int))=((s.2.1.getD k dB).2.2.2.1.length:Int)+((dA o (s.2.1.getD i dB)).length:Int):=wrap_i64 (by omega) (by omega)
   have w2:IntKind.i64.wrap ((s.2.1.getD k dB).2.2.1+((dA o (s.2.1.getD i dB)).length:Int))=(s.2.1.getD k dB).2.2.1+((dA o (s.2.1.getD i dB)).length:Int):=wrap_i64 (by omega) (by omega)
   simp only [w1,w2]
   by_cases c1:(s.2.1.getD k dB).2.2.2.1.length+(dA o (s.2.1.getD i dB)).length>6
   ·have c1':((s.2.1.getD k dB).2.2.2.1.length:Int)+((dA o (s.2.1.getD i dB)).length:Int)>6:=by omega
    simp only [c1,c1',decide_true,if_true]
   ·have c1':¬(((s.2.1.getD k dB).2.2.2.1.length:Int)+((dA o (s.2.1.getD i dB)).length:Int)>6):=by omega
    simp only [c1,c1',decide_false,Bool.false_eq_true,if_false]
    by_cases c2:(s.2.1.getD k dB).2.2.1+((dA o (s.2.1.getD i dB)).length:Int)>1000
    ·simp only [c2,decide_true,if_true]
    ·simp only [c2,decide_false,Bool.false_eq_true,if_false]
     refine (Jf (s:=s) (k:=k) (l:=dA o (s.2.1.getD i dB)) (b:=s.2.1.getD k dB) (fun _ _=>rfl) hk rfl hTo hT hK1.1 hK1.2 hK2 hn).trans ?_
     simp only [h6,decide_false,Bool.false_eq_true,if_false]
theorem getD_set_ne {A:Type} {xs:List A} {i k:Nat} (h:k≠i) (y d:A):(xs.set k y).getD i d=xs.getD i d:=by
 rw [List.getD_eq_getElem?_getD,List.getD_eq_getElem?_getD,List.getElem?_set_ne h]
theorem Zr {n:Nat} {ms:List mP} {o:OpC} (hb:ms.length≤big) (ho:o.2.2.2.1.length≤big) (hn:big<n) :
  aF n ms o=some (((ms.filter fun m=>!o.2.2.2.1.contains m.1).length:Int),(ms.filter fun m=>!o.2.2.2.1.contains m.1)++List.replicate (ms.length - (ms.filter fun m=>!o.2.2.2.1.contains m.1).length) dM,()):=by
 unfold big at hb ho hn
 show mq.FD n ms o=_
 unfold mq.FD
 rw [if_pos ⟨by omega,by omega,by omega,by omega⟩]
 rfl
theorem copied {n:Nat} {s:lK} {i:Nat} {o:OpC} (hs:AO s) (ho:okO o) (hsm:∀b∈s.2.1,NZ b) (hi:i<s.2.1.length) (hn:big<n):kH n s (i:Int) o=some (carried s i o):=by
 unfold kH carried
 rw [box hs.1 hn]
 simp only [Option.bind_some]
 rcases pO s o.2.2.1 with h | ⟨k,h,hk⟩
 ·rw [h]; rfl
 ·rw [h]
  have h0:¬((k:Int)<0):=by omega
  rw [decide_eq_false h0,if_neg Bool.false_ne_true,if_neg h0]
  have hA:=hsm _ (eG hi dB)
  have hK:=hsm _ (eG hk dB)
  have YU:=hs.2 _ (eG hi dB)
  have hKo:=hs.2 _ (eG hk dB)
  have hT:(dA o (s.2.1.getD i dB)).length≤6:=Nat.le_trans (List.length_filter_le _ _) hA.2
  have hTo:∀m∈dA o (s.2.1.getD i dB),HY m:=fun m hm=>YU.2.2 m (List.mem_filter.1 hm).1
  have hK2:=hK.2
  have hK1:=hK.1
  have w1:IntKind.i64.wrap (((s.2.1.getD k dB).2.2.2.1.length:Int)+((dA o (s.2.1.getD i dB)).length:Int))=((s.2.1.getD k dB).2.2.2.1.length:Int)+((dA o (s.2.1.getD i dB)).length:Int):=wrap_i64 (by omega) (by omega)
  have w2:IntKind.i64.wrap ((s.2.1.getD k dB).2.2.1+((dA o (s.2.1.getD i dB)).length:Int))=(s.2.1.getD k dB).2.2.1+((dA o (s.2.1.getD i dB)).length:Int):=wrap_i64 (by omega) (by omega)
  have hlist:(s.2.1.getD i dB).2.2.2.1.filter (fun m=>o.2.2.2.1.contains m.1)=dA o (s.2.1.getD i dB):=rfl
  by_cases h6:o.1=6
  ·rw [decide_eq_true h6,if_pos rfl]
   by_cases he:(k:Int)=(i:Int)
   ·rw [decide_eq_true he,if_pos rfl,if_pos ⟨h6,he⟩]
   ·rw [decide_eq_false he,if_neg Bool.false_ne_true,if_neg (show ¬(o.1=6∧(k:Int)=(i:Int)) from fun h=>he h.2),if_pos (aG hi)]
    simp only [Int.toNat_natCast]
    refine (Ma (s:=s) (o:=o) (a:=(i:Int)) (b:=(k:Int)) (ms:=(s.2.1.getD i dB).2.2.2.1) (fun _ _=>rfl) YU.2.1 ho.2.2.1 hn).trans ?_
    simp only [if_pos (aG hk),Int.toNat_natCast,hlist,w1]
    unfold Ak
    by_cases c1:(s.2.1.getD k dB).2.2.2.1.length+(dA o (s.2.1.getD i dB)).length>6
    ·have c1':((s.2.1.getD k dB).2.2.2.1.length:Int)+((dA o (s.2.1.getD i dB)).length:Int)>6:=by omega
     simp only [c1,c1',decide_true,if_true]
    ·have c1':¬(((s.2.1.getD k dB).2.2.2.1.length:Int)+((dA o (s.2.1.getD i dB)).length:Int)>6):=by omega
     have hlen:dZ n (dA o (s.2.1.getD i dB))=some (((dA o (s.2.1.getD i dB)).length:Int),()):=rfl
     simp only [c1,c1',decide_false,Bool.false_eq_true,if_false,hlen,Option.bind_some,w2]
     by_cases c2:(s.2.1.getD k dB).2.2.1+((dA o (s.2.1.getD i dB)).length:Int)>1000
     ·simp only [c2,decide_true,if_true]
     ·simp only [c2,decide_false,Bool.false_eq_true,if_false]
      refine (Je (s:=s) (k:=k) (l:=dA o (s.2.1.getD i dB)) (b:=s.2.1.getD k dB) (fun _ _=>rfl) hk rfl hTo hT hK1.1 hK1.2 hK2 hn).trans ?_
      have hki:k≠i:=fun h=>he (by omega)
      have hi2:i<(s.2.1.set k (fO (s.2.1.getD k dB) (dA o (s.2.1.getD i dB)))).length:=by simpa using hi
      simp only [h6,decide_true,if_true,if_pos (aG hi2),Int.toNat_natCast,iR,getD_set_ne hki,Zr YU.2.1 ho.2.2.1 hn,Option.bind_some,List.set_set,Cq hi2,List.take_left']
      rfl
  ·rw [decide_eq_false h6,if_neg Bool.false_ne_true,if_neg (show ¬(o.1=6∧(k:Int)=(i:Int)) from fun h=>h6 h.1),if_pos (aG hi)]
   simp only [Int.toNat_natCast]
   refine (Ma (s:=s) (o:=o) (a:=(i:Int)) (b:=(k:Int)) (ms:=(s.2.1.getD i dB).2.2.2.1) (fun _ _=>rfl) YU.2.1 ho.2.2.1 hn).trans ?_
   simp only [if_pos (aG hk),Int.toNat_natCast,hlist,w1]
   unfold Ak
   by_cases c1:(s.2.1.getD k dB).2.2.2.1.length+(dA o (s.2.1.getD i dB)).length>6
   ·have c1':((s.2.1.getD k dB).2.2.2.1.length:Int)+((dA o (s.2.1.getD i dB)).length:Int)>6:=by omega
    simp only [c1,c1',decide_true,if_true]
   ·have c1':¬(((s.2.1.getD k dB).2.2.2.1.length:Int)+((dA o (s.2.1.getD i dB)).length:Int)>6):=by omega
    have hlen:dZ n (dA o (s.2.1.getD i dB))=some (((dA o (s.2.1.getD i dB)).length:Int),()):=rfl
    simp only [c1,c1',decide_false,Bool.false_eq_true,if_false,hlen,Option.bind_some,w2]
    by_cases c2:(s.2.1.getD k dB).2.2.1+((dA o (s.2.1.getD i dB)).length:Int)>1000
    ·simp only [c2,decide_true,if_true]
    ·simp only [c2,decide_false,Bool.false_eq_true,if_false]
     refine (Je (s:=s) (k:=k) (l:=dA o (s.2.1.getD i dB)) (b:=s.2.1.getD k dB) (fun _ _=>rfl) hk rfl hTo hT hK1.1 hK1.2 hK2 hn).trans ?_
     simp only [h6,decide_false,Bool.false_eq_true,if_false]
abbrev Ac:=Int×List Int×lK×Unit
def bad (c:Int):Ac:=(c,[],(0,[],()),())
def EO (s:lK) (o:OpC):List Int×Int×lK×Unit:=
 if AP s o.2.1≥0 then ([],6,s,()) else if s.2.1.length=3 then ([],10,s,()) else if s.1=1000 then ([],10,s,()) else ([],0,(s.1+1,s.2.1++[(o.2.1,s.1,1,[],())],()),())
def Wt (s:lK) (i:Nat) (o:OpC):List Int×Int×lK×Unit:=
 if (s.2.1.getD i dB).2.2.2.1.length=6 then ([],10,s,()) else if (s.2.1.getD i dB).2.2.1=1000 then ([],10,s,()) else
  ([(s.2.1.getD i dB).2.2.1],0,(s.1,s.2.1.set i (zJ (s.2.1.getD i dB) (0,o.2.2.2.2.2.1,o.2.2.2.2.2.2.1,o.2.2.2.2.2.2.2.1,())),()),())
def P7 (s:lK) (i:Nat) (o:OpC):List Int×Int×lK×Unit:=
 if o.1=2 then ([],0,(s.1,s.2.1.take i++s.2.1.drop (i+1),()),()) else
 if o.1=3 then Wt s i o else
 if o.1=4 then (LH o (s.2.1.getD i dB),0,(s.1,s.2.1.set i (JD o (s.2.1.getD i dB)),()),()) else
 if o.1=7 then (WZ (s.2.1.getD i dB),0,(s.1,s.2.1.set i (XY (s.2.1.getD i dB)),()),()) else carried s i o
def qz (s:lK) (o:OpC):List Int×Int×lK×Unit:=
 if o.1=1 then EO s o else if AP s o.2.1<0 then ([],4,s,()) else P7 s (AP s o.2.1).toNat o
def zK (r:List Int×Int×lK×Unit):Ac:=if r.2.1=0 then (0,r.1,r.2.2.1,()) else bad r.2.1
structure Fit (s:lK) (o:OpC):Prop where
 AO:AO s
 okO:okO o
 val:1≤s.1∧s.1≤1000
 few:s.2.1.length≤3
 small:∀b∈s.2.1,NZ b
 mode:o.1=4→1≤o.2.2.2.2.1∧o.2.2.2.2.1≤3
theorem made {n:Nat} {s:lK} {o:OpC} (h:Fit s o) (hn:big<n):nU n s o.2.1=some ((EO s o).2.1,(EO s o).2.2.1,())∧(EO s o).1=[]:=by
 have hf:=h.few
 have hv:=h.val
 unfold nU EO
 rw [box h.AO.1 hn]
 simp only [Option.bind_some]
 by_cases c0:AP s o.2.1≥0
 ·simp only [c0,decide_true,if_true,and_self]
 ·simp only [c0,decide_false,Bool.false_eq_true,if_false]
  by_cases c1:s.2.1.length=3
  ·simp only [c1,if_true]
   exact ⟨rfl,trivial⟩
  ·have:¬(s.2.1.length:Int)=3:=by omega
   simp only [c1,this,decide_false,Bool.false_eq_true,if_false]
   by_cases c2:s.1=1000
   ·simp only [c2,decide_true,if_true,and_self]
   ·simp only [c2,decide_false,Bool.false_eq_true,if_false,List.length_singleton,and_true]
    rw [if_pos (by omega),wrap_i64 (by omega) (by omega)]
theorem adq {n:Nat} {s:lK} {o:OpC} (h:Fit s o) (hn:big<n):uY n s o=some (zK (EO s o),()):=by
 have hf:=h.few
 have hv:=h.val
 unfold uY EO
 rw [adp h.AO.1 hn]
 simp only [Option.bind_some]
 by_cases c0:AP s o.2.1≥0
 ·simp only [c0,decide_true,if_true]; rfl
 ·simp only [c0,decide_false,Bool.false_eq_true,if_false]
  by_cases c1:s.2.1.length=3
  ·have:(s.2.1.length:Int)≥3:=by omega
   simp only [c1,this,decide_true,if_true]; rfl
  ·have:¬(s.2.1.length:Int)≥3:=by omega
   simp only [c1,this,decide_false,Bool.false_eq_true,if_false]
   by_cases c2:s.1=1000
   ·have:s.1≥1000:=by omega
    simp only [c2,decide_true,if_true]; rfl
   ·have:¬s.1≥1000:=by omega
    simp only [c2,this,decide_false,Bool.false_eq_true,if_false,RJ h.AO hn,Option.bind_some,List.length_singleton]
    rw [if_pos (by omega),wrap_i64 (by omega) (by omega)]
    rfl
theorem RY {o:OpC} (ho:okO o):HY (0,o.2.2.2.2.2.1,o.2.2.2.2.2.2.1,o.2.2.2.2.2.2.2.1,()):=ho.2.2.2
theorem QH {n:Nat} {s:lK} {o:OpC} (h:Fit s o) (hn:big<n):mF n s o=some (qz s o):=by
 unfold mF qz
 by_cases k1:o.1=1
 ·obtain ⟨h1,h2⟩:=made h hn
  simp only [k1,decide_true,if_true,h1,Option.bind_some]
  rw [←h2]
 ·simp only [k1,decide_false,Bool.false_eq_true,if_false,box h.AO.1 hn,Option.bind_some]
  rcases pO s o.2.1 with hp | ⟨i,hp,hi⟩
  ·rw [hp]; rfl
  ·rw [hp]
   have h0:¬((i:Int)<0):=by omega
   simp only [h0,decide_false,Bool.false_eq_true,if_false,if_pos (aG hi),Int.toNat_natCast]
   have hB:=h.small _ (eG hi dB)
   have Ry:=h.AO.2 _ (eG hi dB)
   have hB1:=hB.1
   have hB2:=hB.2
   have hf:=h.few
   unfold P7
   by_cases k2:o.1=2
   ·have hw:IntKind.i64.wrap ((i:Int)+1)=((i+1:Nat):Int):=aR hi (by omega)
    have hdel:bQ n s.2.1 (i:Int) ((i+1:Nat):Int)=some (((s.2.1.length - 1:Nat):Int),s.2.1.take i++s.2.1.drop (i+1)++[dB],()):=by
     show mq.Jn dB s.2.1 (i:Int) ((i+1:Nat):Int)=_
     unfold mq.Jn
     rw [if_pos ⟨by omega,by omega,by omega⟩]
     simp only [Int.toNat_natCast,Nat.add_sub_cancel_left]
     rfl
    have hl:(s.2.1.take i++s.2.1.drop (i+1)).length=s.2.1.length - 1:=by simp; omega
    simp only [k2,decide_true,if_true,hw,hdel,Option.bind_some,Int.toNat_natCast]
    rw [←hl,List.take_left']
    rfl
   ·simp only [k2,decide_false,Bool.false_eq_true,if_false]
    by_cases k3:o.1=3
    ·simp only [k3,decide_true,if_true]
     unfold Wt
     by_cases c1:(s.2.1.getD i dB).2.2.2.1.length=6
     ·simp only [c1,if_true]
      rfl
     ·have:¬((s.2.1.getD i dB).2.2.2.1.length:Int)=6:=by omega
      simp only [c1,this,decide_false,Bool.false_eq_true,if_false]
      by_cases c2:(s.2.1.getD i dB).2.2.1=1000
      ·simp only [c2,decide_true,if_true]
      ·have hput:=PY (n:=n) (b:=s.2.1.getD i dB) (RY h.okO) (by omega) (by omega) (by omega)
       simp only [c2,decide_false,Bool.false_eq_true,if_false,hput,Option.bind_some]
    ·simp only [k3,decide_false,Bool.false_eq_true,if_false]
     by_cases k4:o.1=4
     ·simp only [k4,decide_true,if_true,UG Ry.2.1 h.okO.2.2.1 hn (h.mode k4),Option.bind_some]
     ·simp only [k4,decide_false,Bool.false_eq_true,if_false]
      by_cases k7:o.1=7
      ·simp only [k7,decide_true,if_true,adz Ry.2.1 hn,Option.bind_some]
      ·simp only [k7,decide_false,Bool.false_eq_true,if_false,copied h.AO h.okO h.small hi hn,Option.bind_some]
theorem UK {n:Nat} {ms:List mP} {r0:Ac} {st:lK} {c:Int} {B:(Int×Ac×Ac×List mP×Unit→Option (Ac×Unit))→Int×Ac×Ac×List mP×Unit→Option (Ac×Unit)}
  (hB:∀L v,B L v=(if decide (v.1<(v.2.2.2.1.length:Int))=true then (if aI v.1 v.2.2.2.1.length then (if (v.2.2.1.2.1.length+[(v.2.2.2.1.getD v.1.toNat dM).1].length) * 8≤140737488355328 then L (IntKind.i64.wrap (v.1+(1:Int)),v.2.1,(v.2.2.1.1,v.2.2.1.2.1++[(v.2.2.2.1.getD v.1.toNat dM).1],v.2.2.1.2.2),v.2.2.2.1,()) else none) else none) else some (v.2.2.1,())))
  (hb:ms.length≤big) (hn:big<n):rounds B n ((0:Int),r0,(c,[],st,()),ms,())=some ((c,ms.map (·.1),st,()),()):=by
 have hb':ms.length≤1048576:=hb
 refine (aQ (fun i=>((i:Int),r0,(c,(ms.take i).map (·.1),st,()),ms,())) (fun _=>none) (some ((c,ms.map (·.1),st,()),())) (m:=ms.length) (by simp) (by omega) ?_ ?_).trans (bK (fun _ _ _=>rfl))
 ·intro L i hi _
  have ht:ms.take (i+1)=ms.take i++[ms[i]]:=by simp
  have hl:((ms.take i).map (·.1)).length≤i:=by simp; omega
  simp only [hB,Int.ofNat_lt,hi,decide_true,if_true,aG hi,dV hi,aR hi (by omega),List.length_singleton,ht,List.map_append,List.map_cons,List.map_nil]
  rw [if_pos (by omega)]
 ·intro L _
  simp only [hB,Int.lt_irrefl,decide_false,Bool.false_eq_true,if_false,List.take_length]
theorem QI {n:Nat} {s:lK} {o:OpC} (h:Fit s o) (hn:big<n):sN n s o=some (zK (qz s o),()):=by
 unfold sN qz
 by_cases k1:o.1=1
 ·simp only [k1,decide_true,if_true,adq h hn,Option.bind_some]
 ·simp only [k1,decide_false,Bool.false_eq_true,if_false,adp h.AO.1 hn,Option.bind_some]
  rcases pO s o.2.1 with hp | ⟨i,hp,hi⟩
  ·rw [hp]; rfl
  ·rw [hp]
   have h0:¬((i:Int)<0):=by omega
   simp only [h0,decide_false,Bool.false_eq_true,if_false,RJ h.AO hn,Option.bind_some,if_pos (aG hi),Int.toNat_natCast]
   have hB:=h.small _ (eG hi dB)
   have Ry:=h.AO.2 _ (eG hi dB)
   have hB1:=hB.1
   have hB2:=hB.2
   have hf:=h.few
   unfold P7
   by_cases k2:o.1=2
   ·have hw:IntKind.i64.wrap ((i:Int)+1)=((i+1:Nat):Int):=aR hi (by omega)
    simp only [k2,decide_true,if_true,hw,Int.toNat_natCast]
    rw [if_pos ⟨by omega,by omega⟩,if_pos (by simp; omega),if_pos ⟨by omega,by omega⟩,if_pos (by simp; omega)]
    rfl
   ·simp only [k2,decide_false,Bool.false_eq_true,if_false]
    by_cases k3:o.1=3
    ·simp only [k3,decide_true,if_true]
     unfold Wt
     by_cases c1:(s.2.1.getD i dB).2.2.2.1.length=6
     ·have:((s.2.1.getD i dB).2.2.2.1.length:Int)≥6:=by omega
      simp only [c1,this,decide_true,if_true]; rfl
     ·have:¬((s.2.1.getD i dB).2.2.2.1.length:Int)≥6:=by omega
      simp only [c1,this,decide_false,Bool.false_eq_true,if_false]
      by_cases c2:(s.2.1.getD i dB).2.2.1=1000
      ·have:(s.2.1.getD i dB).2.2.1≥1000:=by omega
       simp only [c2,this,decide_true,if_true]; rfl
      ·have:¬(s.2.1.getD i dB).2.2.1≥1000:=by omega
       have hput:=PZ (n:=n) (b:=s.2.1.getD i dB) (RY h.okO) (by omega) (by omega) (by omega)
       simp only [c2,this,decide_false,Bool.false_eq_true,if_false,hput,Option.bind_some]
       rfl
    ·simp only [k3,decide_false,Bool.false_eq_true,if_false]
     by_cases k4:o.1=4
     ·simp only [k4,decide_true,if_true,UH Ry.2.1 h.okO.2.2.1 hn,Option.bind_some]
      rfl
     ·simp only [k4,decide_false,Bool.false_eq_true,if_false]
      by_cases k7:o.1=7
      ·simp only [k7,decide_true,if_true,Vy Ry.2.1 hn,Option.bind_some]
       exact UK (fun _ _=>rfl) (Nat.le_trans (List.length_filter_le _ _) Ry.2.1) hn
      ·simp only [k7,decide_false,Bool.false_eq_true,if_false,ZV h.AO h.okO h.small hi hn,Option.bind_some]
       unfold zK
       by_cases c:(carried s i o).2.1=0
       ·simp only [c,decide_true,Bool.not_true,Bool.false_eq_true,if_false,if_true]
       ·simp only [c,decide_false,Bool.not_false,if_true,if_false]; rfl
theorem copies {n:Nat} (k:Int):iF n k=some (decide (k=5) || decide (k=6),()):=by
 unfold iF
 cases decide (k=5) <;> rfl
theorem Xg {n:Nat} (o:OpC):nG n o=some (decide (o.1=5) || decide (o.1=6),()):=copies (n:=n) o.1
theorem ZF {n:Nat} (o:OpC):jU n o=some ((decide (o.1=5) || decide (o.1=6)) || decide (o.1=4),()):=by
 unfold jU
 rw [Xg]
 simp only [Option.bind_some]
 cases (decide (o.1=5) || decide (o.1=6)) <;> rfl
theorem acI (k:Nat):decide ((k:Int)>0)=!decide ((k:Int)=0):=by
 by_cases h:k=0
 ·subst h; rfl
 ·rw [decide_eq_true (by omega),decide_eq_false (by omega)]; rfl
def BR (o:OpC):Bool:=(((decide (o.1=5) || decide (o.1=6)) || decide (o.2.2.1=[])) && ((((decide (o.1=5) || decide (o.1=6)) || decide (o.1=4)) || decide ((o.2.2.2.1.length:Int)=0)) && ((decide (o.1=4) || decide (o.2.2.2.2.1=0)) &&
 ((decide (o.1=4) || (decide (o.1=3) || decide (o.2.2.2.2.2.1=0))) && (decide (o.1=3) || (decide (o.2.2.2.2.2.2.1=0) && decide ((o.2.2.2.2.2.2.2.1.length:Int)=0)))))))
set_option maxRecDepth 20000 in
theorem only {n:Nat} (o:OpC):pU n o=some (BR o,()):=by
 unfold pU BR
 simp only [Xg,ZF,Option.bind_some]
 generalize (decide (o.1=5) || decide (o.1=6))=c
 generalize decide (o.2.2.1=[])=b1
 generalize decide (o.1=4)=b2
 generalize decide ((o.2.2.2.1.length:Int)=0)=b3
 generalize decide (o.2.2.2.2.1=0)=b4
 generalize decide (o.1=3)=b5
 generalize decide (o.2.2.2.2.2.1=0)=b6
 generalize decide (o.2.2.2.2.2.2.1=0)=b7
 generalize decide ((o.2.2.2.2.2.2.2.1.length:Int)=0)=b8
 revert c b1 b2 b3 b4 b5 b6 b7 b8
 decide +kernel
set_option maxRecDepth 20000 in
theorem form {n:Nat} (o:OpC):uX n o=some (decide (1≤o.1∧o.1≤7) && BR o,()):=by
 unfold uX BR
 simp only [Ga,copies,Option.bind_some,acI]
 generalize (decide (o.1=5) || decide (o.1=6))=c
 generalize decide (o.2.2.1=[])=b1
 generalize decide (o.1=4)=b2
 generalize decide ((o.2.2.2.1.length:Int)=0)=b3
 generalize decide (o.2.2.2.2.1=0)=b4
 generalize decide (o.1=3)=b5
 generalize decide (o.2.2.2.2.2.1=0)=b6
 generalize decide (o.2.2.2.2.2.2.1=0)=b7
 generalize decide ((o.2.2.2.2.2.2.2.1.length:Int)=0)=b8
 generalize decide (1≤o.1∧o.1≤7)=b9
 revert c b1 b2 b3 b4 b5 b6 b7 b8 b9
 decide +kernel
def I9 (us:List Int) (j:Nat):Bool:=!decide (1≤us.getD j 0∧us.getD j 0≤999) || (decide ((j:Int)>0) && decide (us.getD j 0≤us.getD (j - 1) 0))
theorem VE {n:Nat} {us:List Int} (hb:us.length≤big) (hn:big<n):qE n us=cZ (fun j=>if I9 us j=true then some (some (false,())) else none) (some (true,())) us.length 0:=by
 have hb':us.length≤1048576:=hb
 unfold qE
 refine aQ (fun i=>(us,(i:Int),())) (fun j=>if I9 us j=true then some (some (false,())) else none) (some (true,())) (m:=us.length) rfl (by omega) ?_ ?_
 ·intro L i hi _
  simp only [Int.ofNat_lt,hi,decide_true,if_true,aG hi,Int.toNat_natCast,Ga,Option.bind_some,aR hi (by omega)]
  unfold I9
  cases h1:decide (1≤us.getD i 0∧us.getD i 0≤999) with
  | false=>rfl
  | true=>
   cases i with
   | zero=>rfl
   | succ j=>
    have hj:j<us.length:=by omega
    rw [decide_eq_true (show ((j+1:Nat):Int)>0 by omega),Gs hj (by omega)]
    simp only [aG hj,if_true,Int.toNat_natCast,Nat.add_sub_cancel,Bool.not_true,Bool.false_eq_true,if_false,Bool.false_or,Bool.true_and]
    by_cases hle:us.getD (j+1) 0≤us.getD j 0
    ·simp only [hle,decide_true,if_true]
    ·simp only [hle,decide_false,Bool.false_eq_true,if_false]
 ·intro L _
  simp
theorem VD {n:Nat} {us:List Int} (hb:us.length≤big) (hn:big<n):oV n us=cZ (fun j=>if I9 us j=true then some (some (false,())) else none) (some (true,())) us.length 0:=by
 have hb':us.length≤1048576:=hb
 unfold oV
 refine aQ (fun i=>(us,us,(us.length:Int),(i:Int),())) (fun j=>if I9 us j=true then some (some (false,())) else none) (some (true,())) (m:=us.length) rfl (by omega) ?_ ?_
 ·intro L i hi _
  have hu:pV n (us.getD i 0)=some (decide (1≤us.getD i 0∧us.getD i 0≤999),()):=by
   unfold pV
   rw [rU,Ga]; rfl
  simp only [Int.ofNat_lt,hi,decide_true,if_true,aG hi,Int.toNat_natCast,hu,Option.bind_some,aR hi (by omega)]
  unfold I9
  cases h1:decide (1≤us.getD i 0∧us.getD i 0≤999) with
  | false=>rfl
  | true=>
   cases i with
   | zero=>rfl
   | succ j=>
    have hj:j<us.length:=by omega
    rw [decide_eq_true (show ((j+1:Nat):Int)>0 by omega),Gs hj (by omega)]
    simp only [aG hj,if_true,Int.toNat_natCast,Nat.add_sub_cancel,Bool.not_true,Bool.false_eq_true,if_false,Bool.false_or,Bool.true_and,ge_iff_le]
    cases decide (us.getD (j+1) 0≤us.getD j 0) <;> rfl
 ·intro L _
  simp
def Fb (us:List Int):Bool:=((cZ (fun j=>if I9 us j=true then some (some (false,())) else none) (some (true,())) us.length 0).getD (false,())).1
theorem KG (us:List Int):cZ (fun j=>if I9 us j=true then some (some (false,())) else none) (some (true,())) us.length 0=some (Fb us,()):=by
 unfold Fb
 rcases EE (step:=fun j=>if I9 us j=true then some (some (false,())) else none) (fin:=some (true,())) (r:=some (false,())) (fun j=>by by_cases h:I9 us j=true <;> simp [h]) (m:=us.length) (i:=0) with h | h <;> rw [h] <;> rfl
def iW (o:OpC):Int:=
 if (!(decide (1≤o.1∧o.1≤7) && BR o))=true then 1 else
 if (!decide (rM o.2.1) || ((decide (o.1=5) || decide (o.1=6)) && !decide (rM o.2.2.1)))=true then 5 else
 if decide ((o.2.2.2.1.length:Int)>6)=true then 2 else
 if (!Fb o.2.2.2.1 || (decide (o.1=4) && !decide (1≤o.2.2.2.2.1∧o.2.2.2.2.1≤3)) || !decide (0≤o.2.2.2.2.2.1∧o.2.2.2.2.2.1≤15) || !decide (0≤o.2.2.2.2.2.2.1∧o.2.2.2.2.2.2.1≤9999))=true then 3 else
 if decide ((o.2.2.2.2.2.2.2.1.length:Int)>400)=true then 2 else 0
set_option maxRecDepth 20000 in
theorem DC {n:Nat} {o:OpC} (ho:okO o) (hn:big<n):o8 n o=some (iW o,()):=by
 unfold o8 iW
 simp only [form,(name_eq ho.1 hn).2,(name_eq ho.2.1 hn).2,copies,Ga,VE ho.2.2.1 hn,KG,Option.bind_some]
 generalize (decide (1≤o.1∧o.1≤7) && BR o)=b0
 generalize decide (rM o.2.1)=b1
 generalize (decide (o.1=5) || decide (o.1=6))=b2
 generalize decide (rM o.2.2.1)=b3
 generalize decide ((o.2.2.2.1.length:Int)>6)=b4
 generalize Fb o.2.2.2.1=b5
 generalize decide (o.1=4)=b6
 generalize decide (1≤o.2.2.2.2.1∧o.2.2.2.2.1≤3)=b7
 generalize decide (0≤o.2.2.2.2.2.1∧o.2.2.2.2.2.1≤15)=b8
 generalize decide (0≤o.2.2.2.2.2.2.1∧o.2.2.2.2.2.2.1≤9999)=b9
 generalize decide ((o.2.2.2.2.2.2.2.1.length:Int)>400)=c
 revert b0 b1 b2 b3 b4 b5 b6 b7 b8 b9 c
 decide +kernel
set_option maxRecDepth 20000 in
theorem JA {n:Nat} {o:OpC} (ho:okO o) (hn:big<n):oU n o=some (iW o,()):=by
 have hfl:∀x,fB n x=some (decide (0≤x∧x≤15),()):=fun x=>by unfold fB; rw [rU,Ga]; rfl
 have hda:∀x,gT n x=some (decide (0≤x∧x≤9999),()):=fun x=>by unfold gT; rw [rU,Ga]; rfl
 unfold oU iW
 simp only [only,(name_eq ho.1 hn).1,(name_eq ho.2.1 hn).1,Xg,rU,Ga,VD ho.2.2.1 hn,KG,hfl,hda,Option.bind_some]
 generalize BR o=b0
 generalize decide (1≤o.1∧o.1≤7)=a0
 generalize decide (rM o.2.1)=b1
 generalize (decide (o.1=5) || decide (o.1=6))=b2
 generalize decide (rM o.2.2.1)=b3
 generalize decide ((o.2.2.2.1.length:Int)>6)=b4
 generalize Fb o.2.2.2.1=b5
 generalize decide (o.1=4)=b6
 generalize decide (1≤o.2.2.2.2.1∧o.2.2.2.2.1≤3)=b7
 generalize decide (0≤o.2.2.2.2.2.1∧o.2.2.2.2.2.1≤15)=b8
 generalize decide (0≤o.2.2.2.2.2.2.1∧o.2.2.2.2.2.2.1≤9999)=b9
 generalize decide ((o.2.2.2.2.2.2.2.1.length:Int)>400)=c
 revert a0 b0 b1 b2 b3 b4 b5 b6 b7 b8 b9 c
 decide +kernel
def okR (r:Ac):Prop:=r.2.1.length≤big∧AO r.2.2.1
theorem Ik (c:Int):okR (bad c):=by
 refine ⟨by simp [bad,big],by simp [bad,big],fun b hb=>?_⟩
 simp [bad] at hb
theorem ET {s:lK} {i:Nat} {b:Bx} {v:Int} (hs:AO s) (hb:okB b):AO (v,s.2.1.set i b,()):=by
 refine ⟨by simpa using hs.1,fun x hx=>?_⟩
 rcases List.mem_or_eq_of_mem_set hx with h | rfl
 ·exact hs.2 x h
 ·exact hb
theorem Kc {b:Bx} {p:mP→Bool} (h:okB b):okB (b.1,b.2.1,b.2.2.1,b.2.2.2.1.filter p,()):=
 ⟨h.1,Nat.le_trans (List.length_filter_le _ _) h.2.1,fun m hm=>h.2.2 m (List.mem_filter.1 hm).1⟩
theorem Uq {s:lK} {i k:Nat} {o:OpC} (hs:AO s) (hsm:∀b∈s.2.1,NZ b) (hi:i<s.2.1.length) (hk:k<s.2.1.length):(Ak s i k o).1.length≤big∧AO (Ak s i k o).2.2.1:=by
 have hT:(dA o (s.2.1.getD i dB)).length≤6:=Nat.le_trans (List.length_filter_le _ _) (hsm _ (eG hi dB)).2
 have hK:=(hsm _ (eG hk dB)).2
 unfold Ak
 split
 ·exact ⟨by simp [big],hs⟩
 ·split
  ·exact ⟨by simp [big],hs⟩
  ·have hP:okB (fO (s.2.1.getD k dB) (dA o (s.2.1.getD i dB))):=Mm (hs.2 _ (eG hk dB)) (fun m hm=>(hs.2 _ (eG hi dB)).2.2 m (List.mem_filter.1 hm).1) (by unfold big; omega)
   refine ⟨by rw [vo]; unfold big; omega, ?_⟩
   have h1:AO (s.1,s.2.1.set k (fO (s.2.1.getD k dB) (dA o (s.2.1.getD i dB))),()):=ET hs hP
   by_cases h6:o.1=6
   ·simp only [h6,if_true]
    exact ET (s:=(s.1,s.2.1.set k (fO (s.2.1.getD k dB) (dA o (s.2.1.getD i dB))),())) h1 (Kc (hs.2 _ (eG hi dB)))
   ·simp only [h6,if_false]
    exact h1
theorem Uj {s:lK} {o:OpC} (h:Fit s o):(qz s o).1.length≤big∧AO (qz s o).2.2.1:=by
 have hs:=h.AO
 have hf:=h.few
 unfold qz
 by_cases k1:o.1=1
 ·rw [if_pos k1]
  unfold EO
  split
  ·exact ⟨by simp [big],hs⟩
  ·split
   ·exact ⟨by simp [big],hs⟩
   ·split
    ·exact ⟨by simp [big],hs⟩
    ·refine ⟨by simp [big], ?_,fun b hb=>?_⟩
     ·simp [big]; omega
     ·rcases List.mem_append.1 hb with hb | hb
      ·exact hs.2 b hb
      ·simp only [List.mem_singleton] at hb
       subst hb
       exact ⟨h.okO.1,by simp [big],by simp⟩
 ·rw [if_neg k1]
  rcases pO s o.2.1 with hp | ⟨i,hp,hi⟩
  ·rw [hp,if_pos (by decide)]
   exact ⟨by simp [big],hs⟩
  ·rw [hp,if_neg (by omega),Int.toNat_natCast]
   have hB:=h.small _ (eG hi dB)
   have Ry:=hs.2 _ (eG hi dB)
   have hB2:=hB.2
   unfold P7
   split
   ·refine ⟨by simp [big], ?_,fun b hb=>?_⟩
    ·simp [big]; omega
    ·rcases List.mem_append.1 hb with hb | hb
     ·exact hs.2 b (List.mem_of_mem_take hb)
     ·exact hs.2 b (List.mem_of_mem_drop hb)
   ·split
    ·unfold Wt
     split
     ·exact ⟨by simp [big],hs⟩
     ·split
      ·exact ⟨by simp [big],hs⟩
      ·refine ⟨by simp [big],ET hs (Mm (l:=[_]) Ry (fun m hm=>?_) (by simp only [List.length_singleton]; unfold big; omega))⟩
       simp only [List.mem_singleton] at hm
       subst hm
       exact RY h.okO
    ·split
     ·refine ⟨?_,ET hs ⟨Ry.1,by simpa [JD] using Ry.2.1,fun m hm=>?_⟩⟩
      ·unfold LH
       rw [List.length_map]
       exact Nat.le_trans (List.length_filter_le _ _) Ry.2.1
      ·obtain ⟨x,hx,rfl⟩:=List.mem_map.1 hm
       unfold l9
       split
       ·exact Ry.2.2 x hx
       ·exact Ry.2.2 x hx
     ·split
      ·refine ⟨?_,ET hs (Kc Ry)⟩
       unfold WZ
       rw [List.length_map]
       exact Nat.le_trans (List.length_filter_le _ _) Ry.2.1
      ·unfold carried
       split
       ·exact ⟨by simp [big],hs⟩
       ·split
        ·exact ⟨by simp [big],hs⟩
        ·rename_i hneg _
         rcases pO s o.2.2.1 with hp2 | ⟨k,hp2,hk⟩
         ·rw [hp2] at hneg; exact absurd (by decide) hneg
         ·rw [hp2,Int.toNat_natCast]
          exact Uq hs h.small hi hk
theorem Z7 {s:lK} {o:OpC} (h:Fit s o):okR (zK (qz s o)):=by
 unfold zK
 split
 ·exact Uj h
 ·exact Ik _
theorem fit {s:lK} {o:OpC} (hs:AO s) (ho:okO o) (hg:ym s) (hf:iW o=0):Fit s o:=by
 refine ⟨hs,ho,hg.1,hg.2.1,fun b hb=>?_,fun h4=>?_⟩
 ·obtain ⟨i,hi,rfl⟩:=List.mem_iff_getElem.1 hb
  have:=(hg.2.2 i hi).1
  rw [getD_lt hi] at this
  obtain ⟨_,_,h3,h4,_⟩:=this
  exact ⟨⟨by omega,h3.2⟩,h4⟩
 ·unfold iW at hf
  split at hf
  ·omega
  ·split at hf
   ·omega
   ·split at hf
    ·omega
    ·split at hf
     ·omega
     ·rename_i hc
      rw [decide_eq_true h4] at hc
      simp only [Bool.not_eq_true,Bool.or_eq_false_iff,Bool.true_and] at hc
      have:=hc.1.1.2
      simpa using this
theorem M8 {n:Nat} {s:lK} {o:OpC} (hs:AO s) (ho:okO o) (hg:ym s) (hn:big<n):∃r:Ac,sM n s o=some (r,())∧sD n s o=some (r,())∧okR r∧
  ((iW o=0∧r=zK (qz s o))∨(iW o≠0∧r=bad (iW o))):=by
 obtain ⟨he,c,hc,hgc⟩:=Jz hs hn
 have h0:=hgc.2 hg
 unfold sM sD
 rw [hc]
 simp only [Option.bind_some,h0,decide_true,Bool.not_true,Bool.false_eq_true,if_false,DC ho hn,JA ho hn]
 by_cases h1:iW o=0
 ·have hF:=fit hs ho hg h1
  simp only [h1,decide_true,Bool.not_true,Bool.false_eq_true,if_false,QI hF hn,own hs hn,QH hF hn,Option.bind_some]
  refine ⟨zK (qz s o),rfl, ?_,Z7 hF, .inl ⟨trivial,rfl⟩⟩
  unfold zK
  by_cases h2:(qz s o).2.1=0
  ·simp only [h2,decide_true,Bool.not_true,Bool.false_eq_true,if_false,if_true]
  ·simp only [h2,decide_false,Bool.not_false,if_true,if_false]
   rfl
 ·refine ⟨bad (iW o), ?_, ?_,Ik _, .inr ⟨h1,rfl⟩⟩
  ·simp only [h1,decide_false,Bool.not_false,if_true]; rfl
  ·simp only [h1,decide_false,Bool.not_false,if_true]; rfl
end Go.Proofs.YtailcbngagacaabGreat.mQ
