/- Ops on stores: what the printed functions of both sides come to. -/
import Derived.Test.YtailcbngagacaabGreatOwF
import Derived.Test.YtailcbngagacaabGreatLoopLib
import Derived.Test.YtailcbngagacaabGreatCutLib
import Derived.Test.YtailcbngagacaabGreatTakeLib
import Derived.Test.YtailcbngagacaabGreatStoreMath
import Derived.Test.YtailcbngagacaabGreatWriteF
set_option linter.unusedSectionVars false
set_option linter.unusedVariables false
set_option linter.unusedSimpArgs false
namespace Go.Proofs.YtailcbngagacaabGreat.jI
open Go Go.Proofs.YtailcbngagacaabGreat.Ow Go.Proofs.YtailcbngagacaabGreat.oC Go.Proofs.YtailcbngagacaabGreat.kN Go.Proofs.YtailcbngagacaabGreat.gV
abbrev OpC:=Int×List Int×List Int×List Int×Int×Int×Int×List Int×Unit
def okO (o:OpC):Prop:=o.2.1.length≤big∧o.2.2.1.length≤big∧o.2.2.2.1.length≤big∧o.2.2.2.2.2.2.2.1.length≤big
theorem NU {n:Nat} {bs:List Int} (h:bs.length≤big):kg n bs=some (bs,()):=by
 unfold big at h
 unfold kg
 rw [if_pos (by simp; omega)]
 rfl
theorem clone {n:Nat} {bs:List Int} (h:bs.length≤big):cu n bs=some (bs,()):=by
 unfold big at h
 unfold cu
 have hc:(([]:List Int).length+bs.length) * 1≤140737488355328:=by simp; omega
 simp only [if_pos hc]
 cases bs with
 | nil=>exact (if_pos (show ([]:List Int).isEmpty=true from rfl)).trans (WK (ks:=[.sl 5 (.int .u8)]) (some (([]:List Int),())))
 | cons b bs=>rfl
theorem Sb {n:Nat} {ms:List mG} (hb:ms.length≤big) (h:∀m∈ms,HZ m) (hn:big<n):nN n ms=some (ms,()):=by
 have hb':=hb
 unfold big at hb
 unfold nN
 refine (aS (fun i=>(ms,(i:Int),ms.take i,())) (fun _=>none) (some (ms,())) (m:=ms.length) (by simp) (by omega) ?_ ?_).trans (bM (fun _ _ _=>rfl))
 ·intro L i hi _
  have ht:ms.take (i+1)=ms.take i++[ms[i]]:=by simp
  have hl:(ms.take i).length≤i:=by simp; omega
  simp only [anJ,hi,decide_true,if_true,aH hi,fu hi,aT hi (by omega),NU (h ms[i] (anL hi)),ani,anD,ht]
  rw [if_pos (by omega)]
 ·intro L _
  simp
theorem FW {n:Nat} {b:Bx} (h:okB b) (hn:big<n):ji n b=some (b,()):=by
 unfold ji
 rw [Sb h.2.1 h.2.2 hn]
 rfl
theorem NV {n:Nat} {s:lH} (h:zI s) (hn:big<n):ko n s=some (s,()):=by
 have hb:=h.1
 unfold big at hb
 unfold ko
 refine (aS (fun i=>((i:Int),s,(0,[],()),(s.1,s.2.1.take i,()),())) (fun _=>none) (some (s,())) (m:=s.2.1.length) (by simp) (by have:=h.1; omega) ?_ ?_).trans (bM (fun _ _ _=>rfl))
 ·intro L i hi _
  have ht:s.2.1.take (i+1)=s.2.1.take i++[s.2.1[i]]:=by simp
  have hl:(s.2.1.take i).length≤i:=by simp; omega
  simp only [anJ,hi,decide_true,if_true,aH hi,fu hi,aT hi (by omega),FW (h.2 _ (anL hi)) hn,ani,anD,ht]
  rw [if_pos (by omega)]
 ·intro L _
  simp
theorem own {n:Nat} {s:lH} (h:zI s) (hn:big<n):kU n s=some (s,()):=by
 have hb:=h.1
 unfold big at hb
 unfold kU
 refine (aS (fun i=>(s.2.1,(s.2.1.length:Int),(i:Int),(0,[],()),(s.1,s.2.1.take i,()),())) (fun _=>none) (some (s,())) (m:=s.2.1.length) (by simp) (by have:=h.1; omega) ?_ ?_).trans (bM (fun _ _ _=>rfl))
 ·intro L i hi _
  have ht:s.2.1.take (i+1)=s.2.1.take i++[s.2.1[i]]:=by simp
  have hl:(s.2.1.take i).length≤i:=by simp; omega
  simp only [anJ,hi,decide_true,if_true,aH hi,fu hi]
  have hB:=h.2 _ (anL hi)
  generalize s.2.1[i]=b at hB ht ⊢
  have hb2:=hB.2.1
  unfold big at hb2
  refine (aS (fun j=>(s.2.1,(s.2.1.length:Int),(i:Int),b.2.2.2.1,(b.2.2.2.1.length:Int),(j:Int),(0,[],()),(s.1,s.2.1.take i,()),(b.1,b.2.1,b.2.2.1,b.2.2.2.1.take j,()),())) (fun _=>none) (L (s.2.1,(s.2.1.length:Int),((i+1:Nat):Int),(0,[],()),(s.1,s.2.1.take (i+1),()),())) (m:=b.2.2.2.1.length) (by simp) (by have:=hB.2.1; omega) ?_ ?_).trans (bM (fun _ _ _=>rfl))
  ·intro L2 j hj _
   have htj:b.2.2.2.1.take (j+1)=b.2.2.2.1.take j++[b.2.2.2.1[j]]:=by simp
   have hlj:(b.2.2.2.1.take j).length≤j:=by simp; omega
   simp only [anJ,hj,decide_true,if_true,aH hj,fu hj,aT hj (by omega),clone (hB.2.2 _ (anL hj)),ani,anD,htj]
   rw [if_pos (by omega)]
  ·intro L2 _
   simp only [Int.lt_irrefl,decide_false,ank,if_false,List.take_length,anD,aT hi (by omega),ht]
   rw [if_pos (by omega)]
 ·intro L _
  simp
def zJ (s:lH) (nm:List Int):Int:=if s.2.1.findIdx (fun b=>decide (b.1=nm))<s.2.1.length then ((s.2.1.findIdx (fun b=>decide (b.1=nm)):Nat):Int) else -1
theorem oO (s:lH) (nm:List Int):zJ s nm=-1∨∃i:Nat,zJ s nm=(i:Int)∧i<s.2.1.length:=by
 unfold zJ
 split
 ·exact .inr ⟨_,rfl,by assumption⟩
 ·exact .inl rfl
theorem ac4 {n:Nat} {s:lH} {nm:List Int} (hb:s.2.1.length≤big) (hn:big<n):qC n s nm=some (zJ s nm,()):=by
 have hb':=hb
 unfold big at hb
 unfold qC
 refine (aS (fun i=>(s,nm,(i:Int),())) (fun j=>if decide ((s.2.1.getD j dB).1=nm)=true then some (some ((j:Int),())) else none) (some (-1,())) (m:=s.2.1.length) rfl (by omega) ?_ ?_).trans ?_
 ·intro L i hi _
  simp only [anJ,hi,decide_true,if_true,aH hi,anr,aT hi (by omega)]
  split <;> rfl
 ·intro L _
  simp
 ·rw [lZ.zu (p:=fun b:Bx=>decide (b.1=nm)) (r:=fun j=>some ((j:Int),())) s.2.1.length 0 (by omega)]
  simp only [List.drop_zero,Nat.zero_add]
  unfold zJ
  split <;> rfl
theorem box {n:Nat} {s:lH} {nm:List Int} (hb:s.2.1.length≤big) (hn:big<n):jg n s nm=some (zJ s nm,()):=by
 unfold jg
 have h:bY n s.2.1 nm=some (_,()):=lZ.Kb (p:=fun b:Bx=>decide (b.1=nm)) (q:=fun c x=>qm n x c) (d:=dB) (fun _ _=>rfl) (fun _=>rfl) (by unfold big at hb; omega) (by omega)
 rw [h]
 rfl
theorem has {n:Nat} {us:List Int} {x:Int} (hb:us.length≤big) (hn:big<n):mD n us x=some (us.contains x,()):=
 jJ.PN (fun _ _=>rfl) (by unfold big at hb; omega) (by omega)
theorem contains {n:Nat} {us:List Int} {x:Int} (hb:us.length≤big) (hn:big<n):aW n us x=some (us.contains x,()):=
 lZ.NJ (fun _ _=>rfl) (by unfold big at hb; omega) (by omega)
def yM (b:Bx) (m:mG):Bx:=(b.1,b.2.1,b.2.2.1+1,b.2.2.2.1++[(b.2.2.1,m.2.1,m.2.2.1,m.2.2.2.1,())],())
theorem Qq {n:Nat} {b:Bx} {m:mG} (hm:HZ m) (h1:0≤b.2.2.1) (h2:b.2.2.1≤2000) (h3:b.2.2.2.1.length≤2000):mE n b m=some (b.2.2.1,yM b m,()):=by
 unfold mE
 rw [NU hm]
 simp only [ani,anD]
 rw [if_pos (by omega),wrap_i64 (by omega) (by omega)]
 rfl
theorem Qp {n:Nat} {b:Bx} {m:mG} (hm:HZ m) (h1:0≤b.2.2.1) (h2:b.2.2.1≤2000) (h3:b.2.2.2.1.length≤2000):qR n b m=some (b.2.2.1,yM b m,()):=by
 unfold qR
 rw [clone hm]
 simp only [ani,anD]
 rw [if_pos ⟨trivial,by omega⟩,wrap_i64 (x:=b.2.2.1+1) (by omega) (by omega),show b.2.2.1+1 - 1=b.2.2.1 by omega,wrap_i64 (by omega) (by omega)]
 rfl
theorem VM {n:Nat} {b:Bx} {m:mG} (hm:HZ m) (h1:0≤b.2.2.1) (h2:b.2.2.1≤2000) (h3:b.2.2.2.1.length≤2000):jS n b m=some (b.2.2.1,yM b m,()):=Qp hm h1 h2 h3
def turn (was mode fl:Int):Int:=
 if mode=2 then IntKind.i64.wrap ((BitVec.ofInt (IntKind.bits .i64) was ||| BitVec.ofInt (IntKind.bits .i64) fl).toNat) else if mode=3 then IntKind.i64.wrap ((BitVec.ofInt (IntKind.bits .i64) was &&& ~~~ BitVec.ofInt (IntKind.bits .i64) fl).toNat) else fl
def lX (o:OpC) (m:mG):mG:=if o.2.2.2.1.contains m.1=true then (m.1,turn m.2.1 o.2.2.2.2.1 o.2.2.2.2.2.1,m.2.2) else m
def JQ (o:OpC) (b:Bx):Bx:=(b.1,b.2.1,b.2.2.1,b.2.2.2.1.map (lX o),())
def Mo (o:OpC) (b:Bx):List Int:=(b.2.2.2.1.filter fun m=>o.2.2.2.1.contains m.1).map (·.1)
theorem flags {n:Nat} (a m f:Int):ru n a m f=some (turn a m f,()):=by
 unfold ru turn
 by_cases h2:m=2
 ·simp [h2]
 ·by_cases h3:m=3 <;> simp [h2,h3]
theorem Od {A:Type} {p:A→Bool} {x:A} (h:p x=false):[x].filter p=[]:=by simp [List.filter_cons,h]
theorem one_pos {A:Type} {p:A→Bool} {x:A} (h:p x=true):[x].filter p=[x]:=by simp [List.filter_cons,h]
theorem QA {A:Type} {f:A→A} {xs:List A} {i:Nat} (hi:i<xs.length) (h:f xs[i]=xs[i]):(xs.map f).take i++xs.drop i=(xs.map f).take (i+1)++xs.drop (i+1):=by
 have h1:=zH (xs:=xs) (ys:=xs.map f) (by simp) hi xs[i] (by simp [h])
 rw [←h1]
 symm
 have hl:i<((xs.map f).take i++xs.drop i).length:=by simp; omega
 have hg:=Ej (xs:=xs) (ys:=xs.map f) (by simp) hi xs[i]
 rw [anv,anw hl] at hg
 simp only [Option.getD_some] at hg
 conv=>lhs; rw [←hg]
 exact List.set_getElem_self hl
theorem U2 {n:Nat} {b:Bx} {o:OpC} (hb:b.2.2.2.1.length≤big) (ho:o.2.2.2.1.length≤big) (hn:big<n):tO n b o=some (Mo o b,JQ o b,()):=by
 have hb':=hb
 unfold big at hb
 unfold tO
 obtain ⟨nm,va,ne,ms,u⟩:=b
 have hb:ms.length≤1048576:=hb
 refine (aS (fun i=>(o,(i:Int),(nm,va,ne,(ms.map (lX o)).take i++ms.drop i,()),((ms.take i).filter fun m=>o.2.2.2.1.contains m.1).map (·.1),())) (fun _=>none) (some (Mo o (nm,va,ne,ms,()),JQ o (nm,va,ne,ms,()),())) (m:=ms.length) (by simp) (by unfold big at hn; omega) ?_ ?_).trans (bM (fun _ _ _=>rfl))
 ·intro L i hi _
  have hy:(ms.map (lX o)).length=ms.length:=by simp
  have hlen:=BO (xs:=ms) (ys:=ms.map (lX o)) hy (Nat.le_of_lt hi)
  have hget:=Ej (xs:=ms) (ys:=ms.map (lX o)) hy hi dM
  have ht:ms.take (i+1)=ms.take i++[ms[i]]:=by simp
  have hl1:(((ms.take i).filter fun m=>o.2.2.2.1.contains m.1).map (·.1)).length≤i:=by
   rw [List.length_map]; exact Nat.le_trans (List.length_filter_le _ _) (by simp; omega)
  simp only [hlen,anJ,hi,decide_true,if_true,aH hi,anr,iR,hget,has ho hn,ani,flags,aT hi (by omega)]
  cases hc:o.2.2.2.1.contains ms[i].1 with
  | false=>
   have hf:lX o ms[i]=ms[i]:=by unfold lX; rw [hc]; rfl
   rw [if_neg Bool.false_ne_true,QA hi hf,ht,List.filter_append,Od (p:=fun m:mG=>o.2.2.2.1.contains m.1) hc,anM]
  | true=>
   have hset:=zH (xs:=ms) (ys:=ms.map (lX o)) hy hi (ms[i].1,turn ms[i].2.1 o.2.2.2.2.1 o.2.2.2.2.2.1,ms[i].2.2) (by rw [List.getElem_map]; unfold lX; rw [if_pos hc])
   have hgs:((ms.map (lX o)).take (i+1)++ms.drop (i+1)).getD i dM=(ms[i].1,turn ms[i].2.1 o.2.2.2.2.1 o.2.2.2.2.2.1,ms[i].2.2):=by
    rw [←hset,anv,List.getElem?_set_self (by omega)]; rfl
   simp only [if_true,hset,hgs,anD]
   rw [if_pos (by omega),ht,List.filter_append,one_pos (p:=fun m:mG=>o.2.2.2.1.contains m.1) hc,List.map_append]
   rfl
 ·intro L _
  have ht:(ms.map (lX o)).take ms.length=ms.map (lX o):=List.take_of_length_le (by simp)
  simp only [ht,List.length_map,Int.lt_irrefl,decide_false,ank,if_false,List.take_length,List.drop_length,anM]
  rfl
theorem U1 {n:Nat} {b:Bx} {o:OpC} (hb:b.2.2.2.1.length≤big) (ho:o.2.2.2.1.length≤big) (hn:big<n) (hm:1≤o.2.2.2.2.1∧o.2.2.2.2.1≤3):mg n b o=some (Mo o b,JQ o b,()):=by
 have hb':=hb
 unfold big at hb
 unfold mg
 obtain ⟨nm,va,ne,ms,u⟩:=b
 have hb:ms.length≤1048576:=hb
 refine (aS (fun i=>((ms.length:Int),(i:Int),(nm,va,ne,(ms.map (lX o)).take i++ms.drop i,()),o,((ms.take i).filter fun m=>o.2.2.2.1.contains m.1).map (·.1),())) (fun _=>none) (some (Mo o (nm,va,ne,ms,()),JQ o (nm,va,ne,ms,()),())) (m:=ms.length) (by simp) (by unfold big at hn; omega) ?_ ?_).trans (bM (fun _ _ _=>rfl))
 ·intro L i hi _
  have hy:(ms.map (lX o)).length=ms.length:=by simp
  have hlen:=BO (xs:=ms) (ys:=ms.map (lX o)) hy (Nat.le_of_lt hi)
  have hget:=Ej (xs:=ms) (ys:=ms.map (lX o)) hy hi dM
  have ht:ms.take (i+1)=ms.take i++[ms[i]]:=by simp
  have hl1:(((ms.take i).filter fun m=>o.2.2.2.1.contains m.1).map (·.1)).length≤i:=by
   rw [List.length_map]; exact Nat.le_trans (List.length_filter_le _ _) (by simp; omega)
  simp only [hlen,anJ,hi,decide_true,if_true,aH hi,anr,iR,hget,contains ho hn,ani,aT hi (by omega)]
  cases hc:o.2.2.2.1.contains ms[i].1 with
  | false=>
   have hf:lX o ms[i]=ms[i]:=by unfold lX; rw [hc]; rfl
   rw [anV,if_pos rfl,QA hi hf,ht,List.filter_append,Od (p:=fun m:mG=>o.2.2.2.1.contains m.1) hc,anM]
  | true=>
   have hset:=zH (xs:=ms) (ys:=ms.map (lX o)) hy hi (ms[i].1,turn ms[i].2.1 o.2.2.2.2.1 o.2.2.2.2.2.1,ms[i].2.2) (by rw [List.getElem_map]; unfold lX; rw [if_pos hc])
   rw [anK,if_neg Bool.false_ne_true]
   simp only [anD]
   rw [if_pos (by omega),ht,List.filter_append,one_pos (p:=fun m:mG=>o.2.2.2.1.contains m.1) hc,List.map_append, ←hset]
   unfold turn
   by_cases h1:o.2.2.2.2.1=1
   ·simp [h1]
   ·by_cases h2:o.2.2.2.2.1=2
    ·simp [h2]
    ·have h3:o.2.2.2.2.1=3:=by omega
     simp [h3]
 ·intro L _
  have ht:(ms.map (lX o)).take ms.length=ms.map (lX o):=List.take_of_length_le (by simp)
  simp only [ht,Int.lt_irrefl,decide_false,ank,if_false,List.take_length,List.drop_length,anM]
  rfl
theorem VK (us:List Int) (u f:Int):jJ.pick us 0 u f=us.contains u:=by
 unfold jJ.pick
 rw [show BitVec.ofInt (IntKind.bits .i64) f &&& BitVec.ofInt (IntKind.bits .i64) 0=BitVec.ofInt (IntKind.bits .i64) 0 from BitVec.and_zero]
 have:(IntKind.i64.wrap ((BitVec.ofInt (IntKind.bits .i64) 0).toNat:Int))=0:=by decide
 rw [this]
 simp
def Xk (b:Bx):List Int:=(b.2.2.2.1.filter fun m=>jZ.del m.2.1).map (·.1)
def X8 (b:Bx):Bx:=(b.1,b.2.1,b.2.2.1,b.2.2.2.1.filter (fun m=>!jZ.del m.2.1),())
theorem adj {n:Nat} {b:Bx} (hb:b.2.2.2.1.length≤big) (hn:big<n):gB n b=some (Xk b,X8 b,()):=by
 unfold big at hb hn
 show jZ.yg n b=_
 unfold jZ.yg
 rw [if_pos ⟨by omega,by omega⟩]
 rfl
theorem VW {n:Nat} {b:Bx} (hb:b.2.2.2.1.length≤big) (hn:big<n):gy n b [] 8=some (b.2.2.2.1.filter (fun m=>jZ.del m.2.1),X8 b,()):=by
 unfold big at hb hn
 show jJ.Au jJ.pick n b [] 8=_
 unfold jJ.Au
 rw [if_pos ⟨by omega,by omega,by simp,by simp; omega⟩]
 rfl
def dF (o:OpC) (b:Bx):List mG:=b.2.2.2.1.filter fun m=>o.2.2.2.1.contains m.1
def abj (o:OpC) (b:Bx):Bx:=(b.1,b.2.1,b.2.2.1,b.2.2.2.1.filter (fun m=>!o.2.2.2.1.contains m.1),())
theorem M6 {n:Nat} {b:Bx} {o:OpC} (hb:b.2.2.2.1.length≤big) (ho:o.2.2.2.1.length≤big) (hn:big<n):gy n b o.2.2.2.1 0=some (dF o b,abj o b,()):=by
 have hb':=hb
 have ho':=ho
 unfold big at hb ho hn
 show jJ.Au jJ.pick n b o.2.2.2.1 0=_
 unfold jJ.Au
 rw [if_pos ⟨by omega,by omega,by omega,by omega⟩]
 simp only [VK]
 rfl
def gu (b:Bx) (l:List mG):Bx:=l.foldl yM b
def xW (b:Bx):Nat→List Int
 | 0=>[]
 | k+1=>xW b k++[b.2.2.1+(k:Int)]
theorem tY (b:Bx):∀k,(xW b k).length=k
 | 0=>rfl
 | k+1=>by simp [xW,tY b k]
theorem Qo (b:Bx) (l:List mG) (m:mG):gu b (l++[m])=yM (gu b l) m:=by simp [gu]
theorem GN (b:Bx):∀l:List mG,(gu b l).2.2.1=b.2.2.1+(l.length:Int)∧(gu b l).2.2.2.1.length=b.2.2.2.1.length+l.length:=by
 intro l
 induction l generalizing b with
 | nil=>simp [gu]
 | cons m l ih=>
  have:=ih (yM b m)
  simp only [gu,List.foldl_cons,anG] at this ⊢
  rw [this.1,this.2]
  simp [yM]
  omega
theorem MP {l:List mG}:∀{b:Bx},okB b→(∀m∈l,HZ m)→b.2.2.2.1.length+l.length≤big→okB (gu b l):=by
 induction l with
 | nil=>intro b h _ _; exact h
 | cons m l ih=>
  intro b h hl hb
  simp only [anG] at hb
  refine ih (b:=yM b m) ⟨h.1, ?_, ?_⟩ (fun x hx=>hl x (by simp [hx])) ?_
  ·simp only [yM,anp,anD]; omega
  ·intro x hx
   simp only [yM,anq,anC] at hx
   rcases hx with hx | rfl
   ·exact h.2.2 x hx
   ·exact hl m (by simp)
  ·simp only [yM,anp,anD]; omega
theorem Bt {A:Type} {xs:List A} {k:Nat} (h:k<xs.length) (y d:A):(xs.set k y).getD k d=y:=by
 rw [anv,List.getElem?_set_self h]; rfl
theorem getD_lt {A:Type} {xs:List A} {k:Nat} (h:k<xs.length) (d:A):xs.getD k d=xs[k]:=by
 rw [anv,anw h]; rfl
theorem YK {A:Type} {xs:List A} {k:Nat} (h:k<xs.length) (d:A):xs.set k (xs.getD k d)=xs:=by
 rw [anv,anw h]
 exact List.set_getElem_self h
theorem Qr {s:lH} {k j:Nat} {l:List mG} {b:Bx} (hk:k<s.2.1.length) (hj:j<l.length) :
  ((s.2.1.set k (gu b (l.take j))).set k (yM (gu b (l.take j)) l[j]))=s.2.1.set k (gu b (l.take (j+1))):=by
 rw [List.set_set, ←Qo]
 congr 2
 simp
theorem Jt {n:Nat} {s:lH} {at':Int} {k:Nat} {o:OpC} {part:Bx} {l:List mG} {b:Bx} {fin:Int×OpC×Int×Int×lH×Bx×List mG×List Int×Unit→Option (List Int×Int×lH×Unit)}
  {B:(Int×OpC×Int×Int×lH×Bx×List mG×List Int×Unit→Option (List Int×Int×lH×Unit))→Int×OpC×Int×Int×lH×Bx×List mG×List Int×Unit→Option (List Int×Int×lH×Unit)}
  (hB:∀L v,B L v=(if decide (v.2.2.2.1<(v.2.2.2.2.2.2.1.length:Int))=true then (if aJ v.2.2.2.1 v.2.2.2.2.2.2.1.length then ((mE n (v.2.2.2.2.1.2.1.getD v.2.2.1.toNat dB) (v.2.2.2.2.2.2.1.getD v.2.2.2.1.toNat dM)).bind fun r5=>(if (v.2.2.2.2.2.2.2.1.length+[r5.1].length) * 8≤140737488355328 then L (v.1,v.2.1,v.2.2.1,IntKind.i64.wrap (v.2.2.2.1+(1:Int)),(v.2.2.2.2.1.1,v.2.2.2.2.1.2.1.set v.2.2.1.toNat r5.2.1,v.2.2.2.2.1.2.2),v.2.2.2.2.2.1,v.2.2.2.2.2.2.1,v.2.2.2.2.2.2.2.1++[r5.1],()) else none)) else none) else fin v))
  (hk:k<s.2.1.length) (hb:s.2.1.getD k dB=b) (hl:∀m∈l,HZ m) (hl6:l.length≤6) (h1:0≤b.2.2.1) (h2:b.2.2.1≤1000) (h3:b.2.2.2.1.length≤6) (hn:big<n) :
  rounds B n (at',o,(k:Int),(0:Int),s,part,l,[],())=fin (at',o,(k:Int),(l.length:Int),(s.1,s.2.1.set k (gu b l),()),part,l,xW b l.length,()):=by
 have hn':1048576<n:=hn
 refine (aS (fun j=>(at',o,(k:Int),(j:Int),(s.1,s.2.1.set k (gu b (l.take j)),()),part,l,xW b j,())) (fun _=>none) (fin (at',o,(k:Int),(l.length:Int),(s.1,s.2.1.set k (gu b l),()),part,l,xW b l.length,())) (m:=l.length) ?_ (by omega) ?_ ?_).trans (bM (fun _ _ _=>rfl))
 ·rw [List.take_zero]
  show _=(_,_,_,_,(s.1,s.2.1.set k b,()),_,_,[],())
  rw [←hb,YK hk]
  rfl
 ·intro L j hj _
  have hp:=GN b (l.take j)
  have hlt:(l.take j).length=j:=by simp; omega
  rw [hlt] at hp
  have hput:=Qq (n:=n) (b:=gu b (l.take j)) (m:=l[j]) (hl _ (anL hj)) (by rw [hp.1]; omega) (by rw [hp.1]; omega) (by rw [hp.2]; omega)
  simp only [hB,anJ,hj,decide_true,if_true,aH hj,anr,getD_lt hj,Bt hk,hput,ani,aT hj (by omega),tY,anD,Qr hk hj]
  rw [if_pos (by omega),hp.1]
  rfl
 ·intro L _
  simp only [hB,Int.lt_irrefl,decide_false,ank,if_false,List.take_length]
theorem Js {n:Nat} {s:lH} {at':Int} {k:Nat} {o:OpC} {l:List mG} {b:Bx} {fin:Int×Int×Int×Int×lH×OpC×List mG×List Int×Unit→Option (List Int×Int×lH×Unit)}
  {B:(Int×Int×Int×Int×lH×OpC×List mG×List Int×Unit→Option (List Int×Int×lH×Unit))→Int×Int×Int×Int×lH×OpC×List mG×List Int×Unit→Option (List Int×Int×lH×Unit)}
  (hB:∀L v,B L v=(if decide (v.2.2.2.1<v.2.2.1)=true then (if aJ v.2.2.2.1 v.2.2.2.2.2.2.1.length then ((jS n (v.2.2.2.2.1.2.1.getD v.2.1.toNat dB) (v.2.2.2.2.2.2.1.getD v.2.2.2.1.toNat dM)).bind fun r6=>(if (v.2.2.2.2.2.2.2.1.length+[r6.1].length) * 8≤140737488355328 then L (v.1,v.2.1,v.2.2.1,IntKind.i64.wrap (v.2.2.2.1+(1:Int)),(v.2.2.2.2.1.1,v.2.2.2.2.1.2.1.set v.2.1.toNat r6.2.1,v.2.2.2.2.1.2.2),v.2.2.2.2.2.1,v.2.2.2.2.2.2.1,v.2.2.2.2.2.2.2.1++[r6.1],()) else none)) else none) else fin v))
  (hk:k<s.2.1.length) (hb:s.2.1.getD k dB=b) (hl:∀m∈l,HZ m) (hl6:l.length≤6) (h1:0≤b.2.2.1) (h2:b.2.2.1≤1000) (h3:b.2.2.2.1.length≤6) (hn:big<n) :
  rounds B n (at',(k:Int),(l.length:Int),(0:Int),s,o,l,[],())=fin (at',(k:Int),(l.length:Int),(l.length:Int),(s.1,s.2.1.set k (gu b l),()),o,l,xW b l.length,()):=by
 have hn':1048576<n:=hn
 refine (aS (fun j=>(at',(k:Int),(l.length:Int),(j:Int),(s.1,s.2.1.set k (gu b (l.take j)),()),o,l,xW b j,())) (fun _=>none) (fin (at',(k:Int),(l.length:Int),(l.length:Int),(s.1,s.2.1.set k (gu b l),()),o,l,xW b l.length,())) (m:=l.length) ?_ (by omega) ?_ ?_).trans (bM (fun _ _ _=>rfl))
 ·rw [List.take_zero]
  show _=(_,_,_,_,(s.1,s.2.1.set k b,()),_,_,[],())
  rw [←hb,YK hk]
  rfl
 ·intro L j hj _
  have hp:=GN b (l.take j)
  have hlt:(l.take j).length=j:=by simp; omega
  rw [hlt] at hp
  have hput:=VM (n:=n) (b:=gu b (l.take j)) (m:=l[j]) (hl _ (anL hj)) (by rw [hp.1]; omega) (by rw [hp.1]; omega) (by rw [hp.2]; omega)
  simp only [hB,anJ,hj,decide_true,if_true,aH hj,anr,getD_lt hj,Bt hk,hput,ani,aT hj (by omega),tY,anD,Qr hk hj]
  rw [if_pos (by omega),hp.1]
  rfl
 ·intro L _
  simp only [hB,Int.lt_irrefl,decide_false,ank,if_false,List.take_length]
theorem MF {n:Nat} {ms:List mG} {o:OpC} {a b:Int} {s:lH} {fin:Int×Int×List mG×Int×Int×lH×OpC×List mG×Unit→Option (List Int×Int×lH×Unit)}
  {B:(Int×Int×List mG×Int×Int×lH×OpC×List mG×Unit→Option (List Int×Int×lH×Unit))→Int×Int×List mG×Int×Int×lH×OpC×List mG×Unit→Option (List Int×Int×lH×Unit)}
  (hB:∀L v,B L v=(if decide (v.2.2.2.2.1<v.2.2.2.1)=true then (if aJ v.2.2.2.2.1 v.2.2.1.length then ((aW n v.2.2.2.2.2.2.1.2.2.2.1 ((v.2.2.1.getD v.2.2.2.2.1.toNat dM).1)).bind fun r3=>(if r3.1=true then (if (v.2.2.2.2.2.2.2.1.length+[v.2.2.1.getD v.2.2.2.2.1.toNat dM].length) * 48≤140737488355328 then L (v.1,v.2.1,v.2.2.1,v.2.2.2.1,IntKind.i64.wrap (v.2.2.2.2.1+(1:Int)),v.2.2.2.2.2.1,v.2.2.2.2.2.2.1,v.2.2.2.2.2.2.2.1++[v.2.2.1.getD v.2.2.2.2.1.toNat dM],()) else none) else L (v.1,v.2.1,v.2.2.1,v.2.2.2.1,IntKind.i64.wrap (v.2.2.2.2.1+(1:Int)),v.2.2.2.2.2.1,v.2.2.2.2.2.2.1,v.2.2.2.2.2.2.2.1,()))) else none) else fin v))
  (hb:ms.length≤big) (ho:o.2.2.2.1.length≤big) (hn:big<n) :
  rounds B n (a,b,ms,(ms.length:Int),(0:Int),s,o,[],())=fin (a,b,ms,(ms.length:Int),(ms.length:Int),s,o,ms.filter (fun m=>o.2.2.2.1.contains m.1),()):=by
 have hb':ms.length≤1048576:=hb
 refine (aS (fun i=>(a,b,ms,(ms.length:Int),(i:Int),s,o,(ms.take i).filter (fun m=>o.2.2.2.1.contains m.1),())) (fun _=>none) (fin (a,b,ms,(ms.length:Int),(ms.length:Int),s,o,ms.filter (fun m=>o.2.2.2.1.contains m.1),())) (m:=ms.length) (by simp) (by omega) ?_ ?_).trans (bM (fun _ _ _=>rfl))
 ·intro L i hi _
  have ht:ms.take (i+1)=ms.take i++[ms[i]]:=by simp
  have hl:((ms.take i).filter fun m=>o.2.2.2.1.contains m.1).length≤i:=Nat.le_trans (List.length_filter_le _ _) (by simp; omega)
  simp only [hB,anJ,hi,decide_true,if_true,aH hi,fu hi,contains ho hn,ani,aT hi (by omega),anD,ht,List.filter_append]
  cases hc:o.2.2.2.1.contains ms[i].1 with
  | false=>rw [if_neg Bool.false_ne_true,Od (p:=fun m:mG=>o.2.2.2.1.contains m.1) hc,anM]
  | true=>rw [if_pos rfl,if_pos (by omega),one_pos (p:=fun m:mG=>o.2.2.2.1.contains m.1) hc]
 ·intro L _
  simp only [hB,Int.lt_irrefl,decide_false,ank,if_false,List.take_length]
def Ox (b:Bx):Prop:=(0≤b.2.2.1∧b.2.2.1≤1000)∧b.2.2.2.1.length≤6
def zh (s:lH) (i k:Nat) (o:OpC):List Int×Int×lH×Unit:=
 if (s.2.1.getD k dB).2.2.2.1.length+(dF o (s.2.1.getD i dB)).length>6 then ([],10,s,()) else
 if (s.2.1.getD k dB).2.2.1+((dF o (s.2.1.getD i dB)).length:Int)>1000 then ([],10,s,()) else
 (xW (s.2.1.getD k dB) (dF o (s.2.1.getD i dB)).length,0,(s.1,if o.1=6 then (s.2.1.set k (gu (s.2.1.getD k dB) (dF o (s.2.1.getD i dB)))).set i (abj o (s.2.1.getD i dB)) else s.2.1.set k (gu (s.2.1.getD k dB) (dF o (s.2.1.getD i dB))),()),())
def carried (s:lH) (i:Nat) (o:OpC):List Int×Int×lH×Unit:=
 if zJ s o.2.2.1<0 then ([],4,s,()) else if o.1=6∧zJ s o.2.2.1=(i:Int) then ([],9,s,()) else zh s i (zJ s o.2.2.1).toNat o
theorem eO {A:Type} {xs:List A} {k:Nat} (h:k<xs.length) (d:A):xs.getD k d∈xs:=by
 rw [getD_lt h]; exact anL h
theorem aae {n:Nat} {s:lH} {i:Nat} {o:OpC} (hs:zI s) (ho:okO o) (hsm:∀b∈s.2.1,Ox b) (hi:i<s.2.1.length) (hn:big<n):rq n s (i:Int) o=some (carried s i o):=by
 unfold rq carried
 rw [ac4 hs.1 hn]
 simp only [ani]
 rcases oO s o.2.2.1 with h | ⟨k,h,hk⟩
 ·rw [h]; rfl
 ·rw [h]
  have h0:¬((k:Int)<0):=by omega
  rw [decide_eq_false h0,if_neg Bool.false_ne_true,if_neg h0]
  have hA:=hsm _ (eO hi dB)
  have hK:=hsm _ (eO hk dB)
  have Y8:=hs.2 _ (eO hi dB)
  have hKo:=hs.2 _ (eO hk dB)
  have hT:(dF o (s.2.1.getD i dB)).length≤6:=Nat.le_trans (List.length_filter_le _ _) hA.2
  have hTo:∀m∈dF o (s.2.1.getD i dB),HZ m:=fun m hm=>Y8.2.2 m (anA.1 hm).1
  have hK2:=hK.2
  have hK1:=hK.1
  by_cases h6:o.1=6
  ·rw [decide_eq_true h6,if_pos rfl]
   by_cases he:(k:Int)=(i:Int)
   ·rw [decide_eq_true he,if_pos rfl,if_pos ⟨h6,he⟩]
   ·rw [decide_eq_false he,if_neg Bool.false_ne_true,if_neg (show ¬(o.1=6∧(k:Int)=(i:Int)) from fun h=>he h.2),if_pos (aH hi)]
    simp only [anr,FW Y8 hn,ani,M6 Y8.2.1 ho.2.2.1 hn,if_pos (aH hk)]
    unfold zh
    have w1:IntKind.i64.wrap (((s.2.1.getD k dB).2.2.2.1.length:Int)+((dF o (s.2.1.getD i dB)).length:Int))=((s.2.1.getD k dB).2.2.2.1.length:Int)+((dF o (s.2.1.getD i dB)).length:Int):=wrap_i64 (by omega) (by omega)
    have w2:IntKind.i64.wrap ((s.2.1.getD k dB).2.2.1+((dF o (s.2.1.getD i dB)).length:Int))=(s.2.1.getD k dB).2.2.1+((dF o (s.2.1.getD i dB)).length:Int):=wrap_i64 (by omega) (by omega)
    simp only [w1,w2]
    by_cases c1:(s.2.1.getD k dB).2.2.2.1.length+(dF o (s.2.1.getD i dB)).length>6
    ·have c1':((s.2.1.getD k dB).2.2.2.1.length:Int)+((dF o (s.2.1.getD i dB)).length:Int)>6:=by omega
     simp only [c1,c1',decide_true,if_true]
    ·have c1':¬(((s.2.1.getD k dB).2.2.2.1.length:Int)+((dF o (s.2.1.getD i dB)).length:Int)>6):=by omega
     simp only [c1,c1',decide_false,ank,if_false]
     by_cases c2:(s.2.1.getD k dB).2.2.1+((dF o (s.2.1.getD i dB)).length:Int)>1000
     ·simp only [c2,decide_true,if_true]
     ·simp only [c2,decide_false,ank,if_false]
      refine (Jt (s:=s) (k:=k) (l:=dF o (s.2.1.getD i dB)) (b:=s.2.1.getD k dB) (fun _ _=>rfl) hk rfl hTo hT hK1.1 hK1.2 hK2 hn).trans ?_
      have hi2:i<(s.2.1.set k (gu (s.2.1.getD k dB) (dF o (s.2.1.getD i dB)))).length:=by simpa using hi
      simp only [h6,decide_true,if_true,if_pos (aH hi2),anr]
  ·rw [decide_eq_false h6,if_neg Bool.false_ne_true,if_neg (show ¬(o.1=6∧(k:Int)=(i:Int)) from fun h=>h6 h.1),if_pos (aH hi)]
   simp only [anr,FW Y8 hn,ani,M6 Y8.2.1 ho.2.2.1 hn,if_pos (aH hk)]
   unfold zh
   have w1:IntKind.i64.wrap (((s.2.1.getD k dB).2.2.2.1.length:Int)+((dF o (s.2.1.getD i dB)).length:Int))=((s.2.1.getD k dB).2.2.2.1.length:Int)+((dF o (s.2.1.getD i dB)).length:Int):=wrap_i64 (by omega) (by omega)
   have w2:IntKind.i64.wrap ((s.2.1.getD k dB).2.2.1+((dF o (s.2.1.getD i dB)).length:Int))=(s.2.1.getD k dB).2.2.1+((dF o (s.2.1.getD i dB)).length:Int):=wrap_i64 (by omega) (by omega)
   simp only [w1,w2]
   by_cases c1:(s.2.1.getD k dB).2.2.2.1.length+(dF o (s.2.1.getD i dB)).length>6
   ·have c1':((s.2.1.getD k dB).2.2.2.1.length:Int)+((dF o (s.2.1.getD i dB)).length:Int)>6:=by omega
    simp only [c1,c1',decide_true,if_true]
   ·have c1':¬(((s.2.1.getD k dB).2.2.2.1.length:Int)+((dF o (s.2.1.getD i dB)).length:Int)>6):=by omega
    simp only [c1,c1',decide_false,ank,if_false]
    by_cases c2:(s.2.1.getD k dB).2.2.1+((dF o (s.2.1.getD i dB)).length:Int)>1000
    ·simp only [c2,decide_true,if_true]
    ·simp only [c2,decide_false,ank,if_false]
     refine (Jt (s:=s) (k:=k) (l:=dF o (s.2.1.getD i dB)) (b:=s.2.1.getD k dB) (fun _ _=>rfl) hk rfl hTo hT hK1.1 hK1.2 hK2 hn).trans ?_
     simp only [h6,decide_false,ank,if_false]
theorem getD_set_ne {A:Type} {xs:List A} {i k:Nat} (h:k≠i) (y d:A):(xs.set k y).getD i d=xs.getD i d:=by
 rw [anv,anv,List.getElem?_set_ne h]
theorem ZF {n:Nat} {ms:List mG} {o:OpC} (hb:ms.length≤big) (ho:o.2.2.2.1.length≤big) (hn:big<n) :
  aF n ms o=some (((ms.filter fun m=>!o.2.2.2.1.contains m.1).length:Int),(ms.filter fun m=>!o.2.2.2.1.contains m.1)++List.replicate (ms.length - (ms.filter fun m=>!o.2.2.2.1.contains m.1).length) dM,()):=by
 unfold big at hb ho hn
 show lZ.EW n ms o=_
 unfold lZ.EW
 rw [if_pos ⟨by omega,by omega,by omega,by omega⟩]
 rfl
theorem copied {n:Nat} {s:lH} {i:Nat} {o:OpC} (hs:zI s) (ho:okO o) (hsm:∀b∈s.2.1,Ox b) (hi:i<s.2.1.length) (hn:big<n):kI n s (i:Int) o=some (carried s i o):=by
 unfold kI carried
 rw [box hs.1 hn]
 simp only [ani]
 rcases oO s o.2.2.1 with h | ⟨k,h,hk⟩
 ·rw [h]; rfl
 ·rw [h]
  have h0:¬((k:Int)<0):=by omega
  rw [decide_eq_false h0,if_neg Bool.false_ne_true,if_neg h0]
  have hA:=hsm _ (eO hi dB)
  have hK:=hsm _ (eO hk dB)
  have Y8:=hs.2 _ (eO hi dB)
  have hKo:=hs.2 _ (eO hk dB)
  have hT:(dF o (s.2.1.getD i dB)).length≤6:=Nat.le_trans (List.length_filter_le _ _) hA.2
  have hTo:∀m∈dF o (s.2.1.getD i dB),HZ m:=fun m hm=>Y8.2.2 m (anA.1 hm).1
  have hK2:=hK.2
  have hK1:=hK.1
  have w1:IntKind.i64.wrap (((s.2.1.getD k dB).2.2.2.1.length:Int)+((dF o (s.2.1.getD i dB)).length:Int))=((s.2.1.getD k dB).2.2.2.1.length:Int)+((dF o (s.2.1.getD i dB)).length:Int):=wrap_i64 (by omega) (by omega)
  have w2:IntKind.i64.wrap ((s.2.1.getD k dB).2.2.1+((dF o (s.2.1.getD i dB)).length:Int))=(s.2.1.getD k dB).2.2.1+((dF o (s.2.1.getD i dB)).length:Int):=wrap_i64 (by omega) (by omega)
  have hlist:(s.2.1.getD i dB).2.2.2.1.filter (fun m=>o.2.2.2.1.contains m.1)=dF o (s.2.1.getD i dB):=rfl
  by_cases h6:o.1=6
  ·rw [decide_eq_true h6,if_pos rfl]
   by_cases he:(k:Int)=(i:Int)
   ·rw [decide_eq_true he,if_pos rfl,if_pos ⟨h6,he⟩]
   ·rw [decide_eq_false he,if_neg Bool.false_ne_true,if_neg (show ¬(o.1=6∧(k:Int)=(i:Int)) from fun h=>he h.2),if_pos (aH hi)]
    simp only [anr]
    refine (MF (s:=s) (o:=o) (a:=(i:Int)) (b:=(k:Int)) (ms:=(s.2.1.getD i dB).2.2.2.1) (fun _ _=>rfl) Y8.2.1 ho.2.2.1 hn).trans ?_
    simp only [if_pos (aH hk),anr,hlist,w1]
    unfold zh
    by_cases c1:(s.2.1.getD k dB).2.2.2.1.length+(dF o (s.2.1.getD i dB)).length>6
    ·have c1':((s.2.1.getD k dB).2.2.2.1.length:Int)+((dF o (s.2.1.getD i dB)).length:Int)>6:=by omega
     simp only [c1,c1',decide_true,if_true]
    ·have c1':¬(((s.2.1.getD k dB).2.2.2.1.length:Int)+((dF o (s.2.1.getD i dB)).length:Int)>6):=by omega
     have hlen:eB n (dF o (s.2.1.getD i dB))=some (((dF o (s.2.1.getD i dB)).length:Int),()):=rfl
     simp only [c1,c1',decide_false,ank,if_false,hlen,ani,w2]
     by_cases c2:(s.2.1.getD k dB).2.2.1+((dF o (s.2.1.getD i dB)).length:Int)>1000
     ·simp only [c2,decide_true,if_true]
     ·simp only [c2,decide_false,ank,if_false]
      refine (Js (s:=s) (k:=k) (l:=dF o (s.2.1.getD i dB)) (b:=s.2.1.getD k dB) (fun _ _=>rfl) hk rfl hTo hT hK1.1 hK1.2 hK2 hn).trans ?_
      have hki:k≠i:=fun h=>he (by omega)
      have hi2:i<(s.2.1.set k (gu (s.2.1.getD k dB) (dF o (s.2.1.getD i dB)))).length:=by simpa using hi
      simp only [h6,decide_true,if_true,if_pos (aH hi2),anr,iR,getD_set_ne hki,ZF Y8.2.1 ho.2.2.1 hn,ani,List.set_set,Bt hi2,List.take_left']
      rfl
  ·rw [decide_eq_false h6,if_neg Bool.false_ne_true,if_neg (show ¬(o.1=6∧(k:Int)=(i:Int)) from fun h=>h6 h.1),if_pos (aH hi)]
   simp only [anr]
   refine (MF (s:=s) (o:=o) (a:=(i:Int)) (b:=(k:Int)) (ms:=(s.2.1.getD i dB).2.2.2.1) (fun _ _=>rfl) Y8.2.1 ho.2.2.1 hn).trans ?_
   simp only [if_pos (aH hk),anr,hlist,w1]
   unfold zh
   by_cases c1:(s.2.1.getD k dB).2.2.2.1.length+(dF o (s.2.1.getD i dB)).length>6
   ·have c1':((s.2.1.getD k dB).2.2.2.1.length:Int)+((dF o (s.2.1.getD i dB)).length:Int)>6:=by omega
    simp only [c1,c1',decide_true,if_true]
   ·have c1':¬(((s.2.1.getD k dB).2.2.2.1.length:Int)+((dF o (s.2.1.getD i dB)).length:Int)>6):=by omega
    have hlen:eB n (dF o (s.2.1.getD i dB))=some (((dF o (s.2.1.getD i dB)).length:Int),()):=rfl
    simp only [c1,c1',decide_false,ank,if_false,hlen,ani,w2]
    by_cases c2:(s.2.1.getD k dB).2.2.1+((dF o (s.2.1.getD i dB)).length:Int)>1000
    ·simp only [c2,decide_true,if_true]
    ·simp only [c2,decide_false,ank,if_false]
     refine (Js (s:=s) (k:=k) (l:=dF o (s.2.1.getD i dB)) (b:=s.2.1.getD k dB) (fun _ _=>rfl) hk rfl hTo hT hK1.1 hK1.2 hK2 hn).trans ?_
     simp only [h6,decide_false,ank,if_false]
abbrev y8:=Int×List Int×lH×Unit
def bad (c:Int):y8:=(c,[],(0,[],()),())
def Eh (s:lH) (o:OpC):List Int×Int×lH×Unit:=
 if zJ s o.2.1≥0 then ([],6,s,()) else if s.2.1.length=3 then ([],10,s,()) else if s.1=1000 then ([],10,s,()) else ([],0,(s.1+1,s.2.1++[(o.2.1,s.1,1,[],())],()),())
def WJ (s:lH) (i:Nat) (o:OpC):List Int×Int×lH×Unit:=
 if (s.2.1.getD i dB).2.2.2.1.length=6 then ([],10,s,()) else if (s.2.1.getD i dB).2.2.1=1000 then ([],10,s,()) else
  ([(s.2.1.getD i dB).2.2.1],0,(s.1,s.2.1.set i (yM (s.2.1.getD i dB) (0,o.2.2.2.2.2.1,o.2.2.2.2.2.2.1,o.2.2.2.2.2.2.2.1,())),()),())
def Qt (s:lH) (i:Nat) (o:OpC):List Int×Int×lH×Unit:=
 if o.1=2 then ([],0,(s.1,s.2.1.take i++s.2.1.drop (i+1),()),()) else
 if o.1=3 then WJ s i o else
 if o.1=4 then (Mo o (s.2.1.getD i dB),0,(s.1,s.2.1.set i (JQ o (s.2.1.getD i dB)),()),()) else
 if o.1=7 then (Xk (s.2.1.getD i dB),0,(s.1,s.2.1.set i (X8 (s.2.1.getD i dB)),()),()) else carried s i o
def pK (s:lH) (o:OpC):List Int×Int×lH×Unit:=
 if o.1=1 then Eh s o else if zJ s o.2.1<0 then ([],4,s,()) else Qt s (zJ s o.2.1).toNat o
def yN (r:List Int×Int×lH×Unit):y8:=if r.2.1=0 then (0,r.1,r.2.2.1,()) else bad r.2.1
structure Fit (s:lH) (o:OpC):Prop where
 zI:zI s
 okO:okO o
 val:1≤s.1∧s.1≤1000
 few:s.2.1.length≤3
 small:∀b∈s.2.1,Ox b
 mode:o.1=4→1≤o.2.2.2.2.1∧o.2.2.2.2.1≤3
theorem made {n:Nat} {s:lH} {o:OpC} (h:Fit s o) (hn:big<n):nH n s o.2.1=some ((Eh s o).2.1,(Eh s o).2.2.1,())∧(Eh s o).1=[]:=by
 have hf:=h.few
 have hv:=h.val
 unfold nH Eh
 rw [box h.zI.1 hn]
 simp only [ani]
 by_cases c0:zJ s o.2.1≥0
 ·simp only [c0,decide_true,if_true,and_self]
 ·simp only [c0,decide_false,ank,if_false]
  by_cases c1:s.2.1.length=3
  ·simp only [c1,if_true]
   exact ⟨rfl,trivial⟩
  ·have:¬(s.2.1.length:Int)=3:=by omega
   simp only [c1,this,decide_false,ank,if_false]
   by_cases c2:s.1=1000
   ·simp only [c2,decide_true,if_true,and_self]
   ·simp only [c2,decide_false,ank,if_false,anD,and_true]
    rw [if_pos (by omega),wrap_i64 (by omega) (by omega)]
theorem ac5 {n:Nat} {s:lH} {o:OpC} (h:Fit s o) (hn:big<n):tT n s o=some (yN (Eh s o),()):=by
 have hf:=h.few
 have hv:=h.val
 unfold tT Eh
 rw [ac4 h.zI.1 hn]
 simp only [ani]
 by_cases c0:zJ s o.2.1≥0
 ·simp only [c0,decide_true,if_true]; rfl
 ·simp only [c0,decide_false,ank,if_false]
  by_cases c1:s.2.1.length=3
  ·have:(s.2.1.length:Int)≥3:=by omega
   simp only [c1,this,decide_true,if_true]; rfl
  ·have:¬(s.2.1.length:Int)≥3:=by omega
   simp only [c1,this,decide_false,ank,if_false]
   by_cases c2:s.1=1000
   ·have:s.1≥1000:=by omega
    simp only [c2,decide_true,if_true]; rfl
   ·have:¬s.1≥1000:=by omega
    simp only [c2,this,decide_false,ank,if_false,NV h.zI hn,ani,anD]
    rw [if_pos (by omega),wrap_i64 (by omega) (by omega)]
    rfl
theorem Sl {o:OpC} (ho:okO o):HZ (0,o.2.2.2.2.2.1,o.2.2.2.2.2.2.1,o.2.2.2.2.2.2.2.1,()):=ho.2.2.2
theorem Q9 {n:Nat} {s:lH} {o:OpC} (h:Fit s o) (hn:big<n):mh n s o=some (pK s o):=by
 unfold mh pK
 by_cases k1:o.1=1
 ·obtain ⟨h1,h2⟩:=made h hn
  simp only [k1,decide_true,if_true,h1,ani]
  rw [←h2]
 ·simp only [k1,decide_false,ank,if_false,box h.zI.1 hn,ani]
  rcases oO s o.2.1 with hp | ⟨i,hp,hi⟩
  ·rw [hp]; rfl
  ·rw [hp]
   have h0:¬((i:Int)<0):=by omega
   simp only [h0,decide_false,ank,if_false,if_pos (aH hi),anr]
   have hB:=h.small _ (eO hi dB)
   have RZ:=h.zI.2 _ (eO hi dB)
   have hB1:=hB.1
   have hB2:=hB.2
   have hf:=h.few
   unfold Qt
   by_cases k2:o.1=2
   ·have hw:IntKind.i64.wrap ((i:Int)+1)=((i+1:Nat):Int):=aT hi (by omega)
    have hdel:bQ n s.2.1 (i:Int) ((i+1:Nat):Int)=some (((s.2.1.length - 1:Nat):Int),s.2.1.take i++s.2.1.drop (i+1)++[dB],()):=by
     show lZ.JC dB s.2.1 (i:Int) ((i+1:Nat):Int)=_
     unfold lZ.JC
     rw [if_pos ⟨by omega,by omega,by omega⟩]
     simp only [anr,Nat.add_sub_cancel_left]
     rfl
    have hl:(s.2.1.take i++s.2.1.drop (i+1)).length=s.2.1.length - 1:=by simp; omega
    simp only [k2,decide_true,if_true,hw,hdel,ani,anr]
    rw [←hl,List.take_left']
    rfl
   ·simp only [k2,decide_false,ank,if_false]
    by_cases k3:o.1=3
    ·simp only [k3,decide_true,if_true]
     unfold WJ
     by_cases c1:(s.2.1.getD i dB).2.2.2.1.length=6
     ·simp only [c1,if_true]
      rfl
     ·have:¬((s.2.1.getD i dB).2.2.2.1.length:Int)=6:=by omega
      simp only [c1,this,decide_false,ank,if_false]
      by_cases c2:(s.2.1.getD i dB).2.2.1=1000
      ·simp only [c2,decide_true,if_true]
      ·have hput:=Qp (n:=n) (b:=s.2.1.getD i dB) (Sl h.okO) (by omega) (by omega) (by omega)
       simp only [c2,decide_false,ank,if_false,hput,ani]
    ·simp only [k3,decide_false,ank,if_false]
     by_cases k4:o.1=4
     ·simp only [k4,decide_true,if_true,U1 RZ.2.1 h.okO.2.2.1 hn (h.mode k4),ani]
     ·simp only [k4,decide_false,ank,if_false]
      by_cases k7:o.1=7
      ·simp only [k7,decide_true,if_true,adj RZ.2.1 hn,ani]
      ·simp only [k7,decide_false,ank,if_false,copied h.zI h.okO h.small hi hn,ani]
theorem U5 {n:Nat} {ms:List mG} {r0:y8} {st:lH} {c:Int} {B:(Int×y8×y8×List mG×Unit→Option (y8×Unit))→Int×y8×y8×List mG×Unit→Option (y8×Unit)}
  (hB:∀L v,B L v=(if decide (v.1<(v.2.2.2.1.length:Int))=true then (if aJ v.1 v.2.2.2.1.length then (if (v.2.2.1.2.1.length+[(v.2.2.2.1.getD v.1.toNat dM).1].length) * 8≤140737488355328 then L (IntKind.i64.wrap (v.1+(1:Int)),v.2.1,(v.2.2.1.1,v.2.2.1.2.1++[(v.2.2.2.1.getD v.1.toNat dM).1],v.2.2.1.2.2),v.2.2.2.1,()) else none) else none) else some (v.2.2.1,())))
  (hb:ms.length≤big) (hn:big<n):rounds B n ((0:Int),r0,(c,[],st,()),ms,())=some ((c,ms.map (·.1),st,()),()):=by
 have hb':ms.length≤1048576:=hb
 refine (aS (fun i=>((i:Int),r0,(c,(ms.take i).map (·.1),st,()),ms,())) (fun _=>none) (some ((c,ms.map (·.1),st,()),())) (m:=ms.length) (by simp) (by omega) ?_ ?_).trans (bM (fun _ _ _=>rfl))
 ·intro L i hi _
  have ht:ms.take (i+1)=ms.take i++[ms[i]]:=by simp
  have hl:((ms.take i).map (·.1)).length≤i:=by simp; omega
  simp only [hB,anJ,hi,decide_true,if_true,aH hi,fu hi,aT hi (by omega),anD,ht,List.map_append,List.map_cons,List.map_nil]
  rw [if_pos (by omega)]
 ·intro L _
  simp only [hB,Int.lt_irrefl,decide_false,ank,if_false,List.take_length]
theorem Ra {n:Nat} {s:lH} {o:OpC} (h:Fit s o) (hn:big<n):q9 n s o=some (yN (pK s o),()):=by
 unfold q9 pK
 by_cases k1:o.1=1
 ·simp only [k1,decide_true,if_true,ac5 h hn,ani]
 ·simp only [k1,decide_false,ank,if_false,ac4 h.zI.1 hn,ani]
  rcases oO s o.2.1 with hp | ⟨i,hp,hi⟩
  ·rw [hp]; rfl
  ·rw [hp]
   have h0:¬((i:Int)<0):=by omega
   simp only [h0,decide_false,ank,if_false,NV h.zI hn,ani,if_pos (aH hi),anr]
   have hB:=h.small _ (eO hi dB)
   have RZ:=h.zI.2 _ (eO hi dB)
   have hB1:=hB.1
   have hB2:=hB.2
   have hf:=h.few
   unfold Qt
   by_cases k2:o.1=2
   ·have hw:IntKind.i64.wrap ((i:Int)+1)=((i+1:Nat):Int):=aT hi (by omega)
    simp only [k2,decide_true,if_true,hw,anr]
    rw [if_pos ⟨by omega,by omega⟩,if_pos (by simp; omega),if_pos ⟨by omega,by omega⟩,if_pos (by simp; omega)]
    rfl
   ·simp only [k2,decide_false,ank,if_false]
    by_cases k3:o.1=3
    ·simp only [k3,decide_true,if_true]
     unfold WJ
     by_cases c1:(s.2.1.getD i dB).2.2.2.1.length=6
     ·have:((s.2.1.getD i dB).2.2.2.1.length:Int)≥6:=by omega
      simp only [c1,this,decide_true,if_true]; rfl
     ·have:¬((s.2.1.getD i dB).2.2.2.1.length:Int)≥6:=by omega
      simp only [c1,this,decide_false,ank,if_false]
      by_cases c2:(s.2.1.getD i dB).2.2.1=1000
      ·have:(s.2.1.getD i dB).2.2.1≥1000:=by omega
       simp only [c2,this,decide_true,if_true]; rfl
      ·have:¬(s.2.1.getD i dB).2.2.1≥1000:=by omega
       have hput:=Qq (n:=n) (b:=s.2.1.getD i dB) (Sl h.okO) (by omega) (by omega) (by omega)
       simp only [c2,this,decide_false,ank,if_false,hput,ani]
       rfl
    ·simp only [k3,decide_false,ank,if_false]
     by_cases k4:o.1=4
     ·simp only [k4,decide_true,if_true,U2 RZ.2.1 h.okO.2.2.1 hn,ani]
      rfl
     ·simp only [k4,decide_false,ank,if_false]
      by_cases k7:o.1=7
      ·simp only [k7,decide_true,if_true,VW RZ.2.1 hn,ani]
       exact U5 (fun _ _=>rfl) (Nat.le_trans (List.length_filter_le _ _) RZ.2.1) hn
      ·simp only [k7,decide_false,ank,if_false,aae h.zI h.okO h.small hi hn,ani]
       unfold yN
       by_cases c:(carried s i o).2.1=0
       ·simp only [c,decide_true,anK,ank,if_false,if_true]
       ·simp only [c,decide_false,anV,if_true,if_false]; rfl
theorem copies {n:Nat} (k:Int):iE n k=some (decide (k=5) || decide (k=6),()):=by
 unfold iE
 cases decide (k=5) <;> rfl
theorem Xq {n:Nat} (o:OpC):mU n o=some (decide (o.1=5) || decide (o.1=6),()):=copies (n:=n) o.1
theorem ZU {n:Nat} (o:OpC):jT n o=some ((decide (o.1=5) || decide (o.1=6)) || decide (o.1=4),()):=by
 unfold jT
 rw [Xq]
 simp only [ani]
 cases (decide (o.1=5) || decide (o.1=6)) <;> rfl
theorem acn (k:Nat):decide ((k:Int)>0)=!decide ((k:Int)=0):=by
 by_cases h:k=0
 ·subst h; rfl
 ·rw [decide_eq_true (by omega),decide_eq_false (by omega)]; rfl
def AP (o:OpC):Bool:=(((decide (o.1=5) || decide (o.1=6)) || decide (o.2.2.1=[])) && ((((decide (o.1=5) || decide (o.1=6)) || decide (o.1=4)) || decide ((o.2.2.2.1.length:Int)=0)) && ((decide (o.1=4) || decide (o.2.2.2.2.1=0)) &&
 ((decide (o.1=4) || (decide (o.1=3) || decide (o.2.2.2.2.2.1=0))) && (decide (o.1=3) || (decide (o.2.2.2.2.2.2.1=0) && decide ((o.2.2.2.2.2.2.2.1.length:Int)=0)))))))
set_option maxRecDepth 20000 in
theorem only {n:Nat} (o:OpC):oU n o=some (AP o,()):=by
 unfold oU AP
 simp only [Xq,ZU,ani]
 generalize (decide (o.1=5) || decide (o.1=6))=c
 generalize decide (o.2.2.1=[])=b1
 generalize decide (o.1=4)=b2
 generalize decide ((o.2.2.2.1.length:Int)=0)=b3
 generalize decide (o.2.2.2.2.1=0)=b4
 generalize decide (o.1=3)=b5
 generalize decide (o.2.2.2.2.2.1=0)=b6
 generalize decide (o.2.2.2.2.2.2.1=0)=b7
 generalize decide ((o.2.2.2.2.2.2.2.1.length:Int)=0)=b8
 revert c b1 b2 b3 b4 b5 b6 b7 b8
 decide +kernel
set_option maxRecDepth 20000 in
theorem form {n:Nat} (o:OpC):tQ n o=some (decide (1≤o.1∧o.1≤7) && AP o,()):=by
 unfold tQ AP
 simp only [HY,copies,ani,acn]
 generalize (decide (o.1=5) || decide (o.1=6))=c
 generalize decide (o.2.2.1=[])=b1
 generalize decide (o.1=4)=b2
 generalize decide ((o.2.2.2.1.length:Int)=0)=b3
 generalize decide (o.2.2.2.2.1=0)=b4
 generalize decide (o.1=3)=b5
 generalize decide (o.2.2.2.2.2.1=0)=b6
 generalize decide (o.2.2.2.2.2.2.1=0)=b7
 generalize decide ((o.2.2.2.2.2.2.2.1.length:Int)=0)=b8
 generalize decide (1≤o.1∧o.1≤7)=b9
 revert c b1 b2 b3 b4 b5 b6 b7 b8 b9
 decide +kernel
def Jk (us:List Int) (j:Nat):Bool:=!decide (1≤us.getD j 0∧us.getD j 0≤999) || (decide ((j:Int)>0) && decide (us.getD j 0≤us.getD (j - 1) 0))
theorem V4 {n:Nat} {us:List Int} (hb:us.length≤big) (hn:big<n):pW n us=dm (fun j=>if Jk us j=true then some (some (false,())) else none) (some (true,())) us.length 0:=by
 have hb':us.length≤1048576:=hb
 unfold pW
 refine aS (fun i=>(us,(i:Int),())) (fun j=>if Jk us j=true then some (some (false,())) else none) (some (true,())) (m:=us.length) rfl (by omega) ?_ ?_
 ·intro L i hi _
  simp only [anJ,hi,decide_true,if_true,aH hi,anr,HY,ani,aT hi (by omega)]
  unfold Jk
  cases h1:decide (1≤us.getD i 0∧us.getD i 0≤999) with
  | false=>rfl
  | true=>
   cases i with
   | zero=>rfl
   | succ j=>
    have hj:j<us.length:=by omega
    rw [decide_eq_true (show ((j+1:Nat):Int)>0 by omega),Gl hj (by omega)]
    simp only [aH hj,if_true,anr,Nat.add_sub_cancel,anK,ank,if_false,Bool.false_or,Bool.true_and]
    by_cases hle:us.getD (j+1) 0≤us.getD j 0
    ·simp only [hle,decide_true,if_true]
    ·simp only [hle,decide_false,ank,if_false]
 ·intro L _
  simp
theorem V3 {n:Nat} {us:List Int} (hb:us.length≤big) (hn:big<n):og n us=dm (fun j=>if Jk us j=true then some (some (false,())) else none) (some (true,())) us.length 0:=by
 have hb':us.length≤1048576:=hb
 unfold og
 refine aS (fun i=>(us,us,(us.length:Int),(i:Int),())) (fun j=>if Jk us j=true then some (some (false,())) else none) (some (true,())) (m:=us.length) rfl (by omega) ?_ ?_
 ·intro L i hi _
  have hu:oV n (us.getD i 0)=some (decide (1≤us.getD i 0∧us.getD i 0≤999),()):=by
   unfold oV
   rw [tq,HY]; rfl
  simp only [anJ,hi,decide_true,if_true,aH hi,anr,hu,ani,aT hi (by omega)]
  unfold Jk
  cases h1:decide (1≤us.getD i 0∧us.getD i 0≤999) with
  | false=>rfl
  | true=>
   cases i with
   | zero=>rfl
   | succ j=>
    have hj:j<us.length:=by omega
    rw [decide_eq_true (show ((j+1:Nat):Int)>0 by omega),Gl hj (by omega)]
    simp only [aH hj,if_true,anr,Nat.add_sub_cancel,anK,ank,if_false,Bool.false_or,Bool.true_and,ge_iff_le]
    cases decide (us.getD (j+1) 0≤us.getD j 0) <;> rfl
 ·intro L _
  simp
def EP (us:List Int):Bool:=((dm (fun j=>if Jk us j=true then some (some (false,())) else none) (some (true,())) us.length 0).getD (false,())).1
theorem K3 (us:List Int):dm (fun j=>if Jk us j=true then some (some (false,())) else none) (some (true,())) us.length 0=some (EP us,()):=by
 unfold EP
 rcases D6 (step:=fun j=>if Jk us j=true then some (some (false,())) else none) (fin:=some (true,())) (r:=some (false,())) (fun j=>by by_cases h:Jk us j=true <;> simp [h]) (m:=us.length) (i:=0) with h | h <;> rw [h] <;> rfl
def iG (o:OpC):Int:=
 if (!(decide (1≤o.1∧o.1≤7) && AP o))=true then 1 else
 if (!decide (qG o.2.1) || ((decide (o.1=5) || decide (o.1=6)) && !decide (qG o.2.2.1)))=true then 5 else
 if decide ((o.2.2.2.1.length:Int)>6)=true then 2 else
 if (!EP o.2.2.2.1 || (decide (o.1=4) && !decide (1≤o.2.2.2.2.1∧o.2.2.2.2.1≤3)) || !decide (0≤o.2.2.2.2.2.1∧o.2.2.2.2.2.1≤15) || !decide (0≤o.2.2.2.2.2.2.1∧o.2.2.2.2.2.2.1≤9999))=true then 3 else
 if decide ((o.2.2.2.2.2.2.2.1.length:Int)>400)=true then 2 else 0
set_option maxRecDepth 20000 in
theorem CG {n:Nat} {o:OpC} (ho:okO o) (hn:big<n):ou n o=some (iG o,()):=by
 unfold ou iG
 simp only [form,(name_eq ho.1 hn).2,(name_eq ho.2.1 hn).2,copies,HY,V4 ho.2.2.1 hn,K3,ani]
 generalize (decide (1≤o.1∧o.1≤7) && AP o)=b0
 generalize decide (qG o.2.1)=b1
 generalize (decide (o.1=5) || decide (o.1=6))=b2
 generalize decide (qG o.2.2.1)=b3
 generalize decide ((o.2.2.2.1.length:Int)>6)=b4
 generalize EP o.2.2.2.1=b5
 generalize decide (o.1=4)=b6
 generalize decide (1≤o.2.2.2.2.1∧o.2.2.2.2.1≤3)=b7
 generalize decide (0≤o.2.2.2.2.2.1∧o.2.2.2.2.2.1≤15)=b8
 generalize decide (0≤o.2.2.2.2.2.2.1∧o.2.2.2.2.2.2.1≤9999)=b9
 generalize decide ((o.2.2.2.2.2.2.2.1.length:Int)>400)=c
 revert b0 b1 b2 b3 b4 b5 b6 b7 b8 b9 c
 decide +kernel
set_option maxRecDepth 20000 in
theorem JN {n:Nat} {o:OpC} (ho:okO o) (hn:big<n):nY n o=some (iG o,()):=by
 have hfl:∀x,fH n x=some (decide (0≤x∧x≤15),()):=fun x=>by unfold fH; rw [tq,HY]; rfl
 have hda:∀x,gX n x=some (decide (0≤x∧x≤9999),()):=fun x=>by unfold gX; rw [tq,HY]; rfl
 unfold nY iG
 simp only [only,(name_eq ho.1 hn).1,(name_eq ho.2.1 hn).1,Xq,tq,HY,V3 ho.2.2.1 hn,K3,hfl,hda,ani]
 generalize AP o=b0
 generalize decide (1≤o.1∧o.1≤7)=a0
 generalize decide (qG o.2.1)=b1
 generalize (decide (o.1=5) || decide (o.1=6))=b2
 generalize decide (qG o.2.2.1)=b3
 generalize decide ((o.2.2.2.1.length:Int)>6)=b4
 generalize EP o.2.2.2.1=b5
 generalize decide (o.1=4)=b6
 generalize decide (1≤o.2.2.2.2.1∧o.2.2.2.2.1≤3)=b7
 generalize decide (0≤o.2.2.2.2.2.1∧o.2.2.2.2.2.1≤15)=b8
 generalize decide (0≤o.2.2.2.2.2.2.1∧o.2.2.2.2.2.2.1≤9999)=b9
 generalize decide ((o.2.2.2.2.2.2.2.1.length:Int)>400)=c
 revert a0 b0 b1 b2 b3 b4 b5 b6 b7 b8 b9 c
 decide +kernel
def okR (r:y8):Prop:=r.2.1.length≤big∧zI r.2.2.1
theorem Iz (c:Int):okR (bad c):=by
 refine ⟨by simp [bad,big],by simp [bad,big],fun b hb=>?_⟩
 simp [bad] at hb
theorem En {s:lH} {i:Nat} {b:Bx} {v:Int} (hs:zI s) (hb:okB b):zI (v,s.2.1.set i b,()):=by
 refine ⟨by simpa using hs.1,fun x hx=>?_⟩
 rcases List.mem_or_eq_of_mem_set hx with h | rfl
 ·exact hs.2 x h
 ·exact hb
theorem Kv {b:Bx} {p:mG→Bool} (h:okB b):okB (b.1,b.2.1,b.2.2.1,b.2.2.2.1.filter p,()):=
 ⟨h.1,Nat.le_trans (List.length_filter_le _ _) h.2.1,fun m hm=>h.2.2 m (anA.1 hm).1⟩
theorem UI {s:lH} {i k:Nat} {o:OpC} (hs:zI s) (hsm:∀b∈s.2.1,Ox b) (hi:i<s.2.1.length) (hk:k<s.2.1.length):(zh s i k o).1.length≤big∧zI (zh s i k o).2.2.1:=by
 have hT:(dF o (s.2.1.getD i dB)).length≤6:=Nat.le_trans (List.length_filter_le _ _) (hsm _ (eO hi dB)).2
 have hK:=(hsm _ (eO hk dB)).2
 unfold zh
 split
 ·exact ⟨by simp [big],hs⟩
 ·split
  ·exact ⟨by simp [big],hs⟩
  ·have hP:okB (gu (s.2.1.getD k dB) (dF o (s.2.1.getD i dB))):=MP (hs.2 _ (eO hk dB)) (fun m hm=>(hs.2 _ (eO hi dB)).2.2 m (anA.1 hm).1) (by unfold big; omega)
   refine ⟨by rw [tY]; unfold big; omega, ?_⟩
   have h1:zI (s.1,s.2.1.set k (gu (s.2.1.getD k dB) (dF o (s.2.1.getD i dB))),()):=En hs hP
   by_cases h6:o.1=6
   ·simp only [h6,if_true]
    exact En (s:=(s.1,s.2.1.set k (gu (s.2.1.getD k dB) (dF o (s.2.1.getD i dB))),())) h1 (Kv (hs.2 _ (eO hi dB)))
   ·simp only [h6,if_false]
    exact h1
theorem UC {s:lH} {o:OpC} (h:Fit s o):(pK s o).1.length≤big∧zI (pK s o).2.2.1:=by
 have hs:=h.zI
 have hf:=h.few
 unfold pK
 by_cases k1:o.1=1
 ·rw [if_pos k1]
  unfold Eh
  split
  ·exact ⟨by simp [big],hs⟩
  ·split
   ·exact ⟨by simp [big],hs⟩
   ·split
    ·exact ⟨by simp [big],hs⟩
    ·refine ⟨by simp [big], ?_,fun b hb=>?_⟩
     ·simp [big]; omega
     ·rcases anq.1 hb with hb | hb
      ·exact hs.2 b hb
      ·simp only [anC] at hb
       subst hb
       exact ⟨h.okO.1,by simp [big],by simp⟩
 ·rw [if_neg k1]
  rcases oO s o.2.1 with hp | ⟨i,hp,hi⟩
  ·rw [hp,if_pos (by decide)]
   exact ⟨by simp [big],hs⟩
  ·rw [hp,if_neg (by omega),anr]
   have hB:=h.small _ (eO hi dB)
   have RZ:=hs.2 _ (eO hi dB)
   have hB2:=hB.2
   unfold Qt
   split
   ·refine ⟨by simp [big], ?_,fun b hb=>?_⟩
    ·simp [big]; omega
    ·rcases anq.1 hb with hb | hb
     ·exact hs.2 b (List.mem_of_mem_take hb)
     ·exact hs.2 b (List.mem_of_mem_drop hb)
   ·split
    ·unfold WJ
     split
     ·exact ⟨by simp [big],hs⟩
     ·split
      ·exact ⟨by simp [big],hs⟩
      ·refine ⟨by simp [big],En hs (MP (l:=[_]) RZ (fun m hm=>?_) (by simp only [anD]; unfold big; omega))⟩
       simp only [anC] at hm
       subst hm
       exact Sl h.okO
    ·split
     ·refine ⟨?_,En hs ⟨RZ.1,by simpa [JQ] using RZ.2.1,fun m hm=>?_⟩⟩
      ·unfold Mo
       rw [List.length_map]
       exact Nat.le_trans (List.length_filter_le _ _) RZ.2.1
      ·obtain ⟨x,hx,rfl⟩:=anT.1 hm
       unfold lX
       split
       ·exact RZ.2.2 x hx
       ·exact RZ.2.2 x hx
     ·split
      ·refine ⟨?_,En hs (Kv RZ)⟩
       unfold Xk
       rw [List.length_map]
       exact Nat.le_trans (List.length_filter_le _ _) RZ.2.1
      ·unfold carried
       split
       ·exact ⟨by simp [big],hs⟩
       ·split
        ·exact ⟨by simp [big],hs⟩
        ·rename_i hneg _
         rcases oO s o.2.2.1 with hp2 | ⟨k,hp2,hk⟩
         ·rw [hp2] at hneg; exact absurd (by decide) hneg
         ·rw [hp2,anr]
          exact UI hs h.small hi hk
theorem aan {s:lH} {o:OpC} (h:Fit s o):okR (yN (pK s o)):=by
 unfold yN
 split
 ·exact UC h
 ·exact Iz _
theorem fit {s:lH} {o:OpC} (hs:zI s) (ho:okO o) (hg:xe s) (hf:iG o=0):Fit s o:=by
 refine ⟨hs,ho,hg.1,hg.2.1,fun b hb=>?_,fun h4=>?_⟩
 ·obtain ⟨i,hi,rfl⟩:=List.mem_iff_getElem.1 hb
  have:=(hg.2.2 i hi).1
  rw [getD_lt hi] at this
  obtain ⟨_,_,h3,h4,_⟩:=this
  exact ⟨⟨by omega,h3.2⟩,h4⟩
 ·unfold iG at hf
  split at hf
  ·omega
  ·split at hf
   ·omega
   ·split at hf
    ·omega
    ·split at hf
     ·omega
     ·rename_i hc
      rw [decide_eq_true h4] at hc
      simp only [Bool.not_eq_true,Bool.or_eq_false_iff,Bool.true_and] at hc
      have:=hc.1.1.2
      simpa using this
theorem DR {n:Nat} {s:lH} {o:OpC} (hs:zI s) (ho:okO o) (hg:xe s) (hn:big<n):∃r:y8,oq n s o=some (r,())∧nZ n s o=some (r,())∧okR r∧
  ((iG o=0∧r=yN (pK s o))∨(iG o≠0∧r=bad (iG o))):=by
 obtain ⟨he,c,hc,hgc⟩:=JM hs hn
 have h0:=hgc.2 hg
 unfold oq nZ
 rw [hc]
 simp only [ani,h0,decide_true,anK,ank,if_false,CG ho hn,JN ho hn]
 by_cases h1:iG o=0
 ·have hF:=fit hs ho hg h1
  simp only [h1,decide_true,anK,ank,if_false,Ra hF hn,own hs hn,Q9 hF hn,ani]
  refine ⟨yN (pK s o),rfl, ?_,aan hF, .inl ⟨trivial,rfl⟩⟩
  unfold yN
  by_cases h2:(pK s o).2.1=0
  ·simp only [h2,decide_true,anK,ank,if_false,if_true]
  ·simp only [h2,decide_false,anV,if_true,if_false]
   rfl
 ·refine ⟨bad (iG o), ?_, ?_,Iz _, .inr ⟨h1,rfl⟩⟩
  ·simp only [h1,decide_false,anV,if_true]; rfl
  ·simp only [h1,decide_false,anV,if_true]; rfl
end Go.Proofs.YtailcbngagacaabGreat.jI
