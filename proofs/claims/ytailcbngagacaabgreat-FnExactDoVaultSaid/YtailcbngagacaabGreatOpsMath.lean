/- Ops on stores: what the printed functions of both sides come to. -/
import Derived.Test.YtailcbngagacaabGreatOwF
import Derived.Test.YtailcbngagacaabGreatLoopLib
import Derived.Test.YtailcbngagacaabGreatCutLib
import Derived.Test.YtailcbngagacaabGreatTakeLib
import Derived.Test.YtailcbngagacaabGreatStoreMath
import Derived.Test.YtailcbngagacaabGreatDoF
set_option linter.unusedSectionVars false
set_option linter.unusedVariables false
set_option linter.unusedSimpArgs false
namespace Go.Proofs.YtailcbngagacaabGreat.jc
open Go Go.Proofs.YtailcbngagacaabGreat.Ow Go.Proofs.YtailcbngagacaabGreat.Nr Go.Proofs.YtailcbngagacaabGreat.jO Go.Proofs.YtailcbngagacaabGreat.gp
abbrev OpC:=Int×List Int×List Int×List Int×Int×Int×Int×List Int×Unit
def okO (o:OpC):Prop:=o.2.1.length≤big∧o.2.2.1.length≤big∧o.2.2.2.1.length≤big∧o.2.2.2.2.2.2.2.1.length≤big
theorem F8 {n:Nat} {bs:List Int} (h:bs.length≤big):kD n bs=some (bs,()):=by
 unfold big at h
 unfold kD
 rw [if_pos (by simp; omega)]
 rfl
theorem clone {n:Nat} {bs:List Int} (h:bs.length≤big):cu n bs=some (bs,()):=by
 unfold big at h
 unfold cu
 have hc:(([]:List Int).length+bs.length) * 1≤140737488355328:=by simp; omega
 simp only [if_pos hc]
 cases bs with
 | nil=>exact (if_pos (show ([]:List Int).isEmpty=true from rfl)).trans (Xf (ks:=[.sl 5 (.int .u8)]) (some (([]:List Int),())))
 | cons b bs=>rfl
theorem Sz {n:Nat} {ms:List mH} (hb:ms.length≤big) (h:∀m∈ms,Ii m) (hn:big<n):nO n ms=some (ms,()):=by
 have hb':=hb
 unfold big at hb
 unfold nO
 refine (aQ (fun i=>(ms,(i:Int),ms.take i,())) (fun _=>none) (some (ms,())) (m:=ms.length) (by simp) (by omega) ?_ ?_).trans (bL (fun _ _ _=>rfl))
 ·intro L i hi _
  have ht:ms.take (i+1)=ms.take i++[ms[i]]:=by simp
  have hl:(ms.take i).length≤i:=by simp; omega
  simp only [aon,hi,decide_true,if_true,aH hi,dW hi,aR hi (by omega),F8 (h ms[i] (aop hi)),anY,aoh,ht]
  rw [if_pos (by omega)]
 ·intro L _
  simp
theorem F9 {n:Nat} {b:Bx} (h:okB b) (hn:big<n):jr n b=some (b,()):=by
 unfold jr
 rw [Sz h.2.1 h.2.2 hn]
 rfl
theorem Kw {n:Nat} {s:lK} (h:zQ s) (hn:big<n):kE n s=some (s,()):=by
 have hb:=h.1
 unfold big at hb
 unfold kE
 refine (aQ (fun i=>((i:Int),s,(0,[],()),(s.1,s.2.1.take i,()),())) (fun _=>none) (some (s,())) (m:=s.2.1.length) (by simp) (by have:=h.1; omega) ?_ ?_).trans (bL (fun _ _ _=>rfl))
 ·intro L i hi _
  have ht:s.2.1.take (i+1)=s.2.1.take i++[s.2.1[i]]:=by simp
  have hl:(s.2.1.take i).length≤i:=by simp; omega
  simp only [aon,hi,decide_true,if_true,aH hi,dW hi,aR hi (by omega),F9 (h.2 _ (aop hi)) hn,anY,aoh,ht]
  rw [if_pos (by omega)]
 ·intro L _
  simp
theorem own {n:Nat} {s:lK} (h:zQ s) (hn:big<n):jo n s=some (s,()):=by
 have hb:=h.1
 unfold big at hb
 unfold jo
 refine (aQ (fun i=>(s.2.1,(s.2.1.length:Int),(i:Int),(0,[],()),(s.1,s.2.1.take i,()),())) (fun _=>none) (some (s,())) (m:=s.2.1.length) (by simp) (by have:=h.1; omega) ?_ ?_).trans (bL (fun _ _ _=>rfl))
 ·intro L i hi _
  have ht:s.2.1.take (i+1)=s.2.1.take i++[s.2.1[i]]:=by simp
  have hl:(s.2.1.take i).length≤i:=by simp; omega
  simp only [aon,hi,decide_true,if_true,aH hi,dW hi]
  have hB:=h.2 _ (aop hi)
  generalize s.2.1[i]=b at hB ht ⊢
  have hb2:=hB.2.1
  unfold big at hb2
  refine (aQ (fun j=>(s.2.1,(s.2.1.length:Int),(i:Int),b.2.2.2.1,(b.2.2.2.1.length:Int),(j:Int),(0,[],()),(s.1,s.2.1.take i,()),(b.1,b.2.1,b.2.2.1,b.2.2.2.1.take j,()),())) (fun _=>none) (L (s.2.1,(s.2.1.length:Int),((i+1:Nat):Int),(0,[],()),(s.1,s.2.1.take (i+1),()),())) (m:=b.2.2.2.1.length) (by simp) (by have:=hB.2.1; omega) ?_ ?_).trans (bL (fun _ _ _=>rfl))
  ·intro L2 j hj _
   have htj:b.2.2.2.1.take (j+1)=b.2.2.2.1.take j++[b.2.2.2.1[j]]:=by simp
   have hlj:(b.2.2.2.1.take j).length≤j:=by simp; omega
   simp only [aon,hj,decide_true,if_true,aH hj,dW hj,aR hj (by omega),clone (hB.2.2 _ (aop hj)),anY,aoh,htj]
   rw [if_pos (by omega)]
  ·intro L2 _
   simp only [Int.lt_irrefl,decide_false,an0,if_false,List.take_length,aoh,aR hi (by omega),ht]
   rw [if_pos (by omega)]
 ·intro L _
  simp
def zR (s:lK) (nm:List Int):Int:=if s.2.1.findIdx (fun b=>decide (b.1=nm))<s.2.1.length then ((s.2.1.findIdx (fun b=>decide (b.1=nm)):Nat):Int) else -1
theorem oU (s:lK) (nm:List Int):zR s nm=-1∨∃i:Nat,zR s nm=(i:Int)∧i<s.2.1.length:=by
 unfold zR
 split
 ·exact .inr ⟨_,rfl,by assumption⟩
 ·exact .inl rfl
theorem adA {n:Nat} {s:lK} {nm:List Int} (hb:s.2.1.length≤big) (hn:big<n):qF n s nm=some (zR s nm,()):=by
 have hb':=hb
 unfold big at hb
 unfold qF
 refine (aQ (fun i=>(s,nm,(i:Int),())) (fun j=>if decide ((s.2.1.getD j dB).1=nm)=true then some (some ((j:Int),())) else none) (some (-1,())) (m:=s.2.1.length) rfl (by omega) ?_ ?_).trans ?_
 ·intro L i hi _
  simp only [aon,hi,decide_true,if_true,aH hi,an7,aR hi (by omega)]
  split <;> rfl
 ·intro L _
  simp
 ·rw [l9.zC (p:=fun b:Bx=>decide (b.1=nm)) (r:=fun j=>some ((j:Int),())) s.2.1.length 0 (by omega)]
  simp only [List.drop_zero,Nat.zero_add]
  unfold zR
  split <;> rfl
theorem box {n:Nat} {s:lK} {nm:List Int} (hb:s.2.1.length≤big) (hn:big<n):jm n s nm=some (zR s nm,()):=by
 unfold jm
 have h:bY n s.2.1 nm=some (_,()):=l9.Ko (p:=fun b:Bx=>decide (b.1=nm)) (q:=fun c x=>qy n x c) (d:=dB) (fun _ _=>rfl) (fun _=>rfl) (by unfold big at hb; omega) (by omega)
 rw [h]
 rfl
theorem has {n:Nat} {us:List Int} {x:Int} (hb:us.length≤big) (hn:big<n):mE n us x=some (us.contains x,()):=
 jQ.Qa (fun _ _=>rfl) (by unfold big at hb; omega) (by omega)
theorem contains {n:Nat} {us:List Int} {x:Int} (hb:us.length≤big) (hn:big<n):aW n us x=some (us.contains x,()):=
 l9.N7 (fun _ _=>rfl) (by unfold big at hb; omega) (by omega)
def yQ (b:Bx) (m:mH):Bx:=(b.1,b.2.1,b.2.2.1+1,b.2.2.2.1++[(b.2.2.1,m.2.1,m.2.2.1,m.2.2.2.1,())],())
theorem QG {n:Nat} {b:Bx} {m:mH} (hm:Ii m) (h1:0≤b.2.2.1) (h2:b.2.2.1≤2000) (h3:b.2.2.2.1.length≤2000):mF n b m=some (b.2.2.1,yQ b m,()):=by
 unfold mF
 rw [F8 hm]
 simp only [anY,aoh]
 rw [if_pos (by omega),wrap_i64 (by omega) (by omega)]
 rfl
theorem QF {n:Nat} {b:Bx} {m:mH} (hm:Ii m) (h1:0≤b.2.2.1) (h2:b.2.2.1≤2000) (h3:b.2.2.2.1.length≤2000):qX n b m=some (b.2.2.1,yQ b m,()):=by
 unfold qX
 rw [clone hm]
 simp only [anY,aoh]
 rw [if_pos ⟨trivial,by omega⟩,wrap_i64 (x:=b.2.2.1+1) (by omega) (by omega),show b.2.2.1+1 - 1=b.2.2.1 by omega,wrap_i64 (by omega) (by omega)]
 rfl
theorem Wd {n:Nat} {b:Bx} {m:mH} (hm:Ii m) (h1:0≤b.2.2.1) (h2:b.2.2.1≤2000) (h3:b.2.2.2.1.length≤2000):jZ n b m=some (b.2.2.1,yQ b m,()):=QF hm h1 h2 h3
def turn (was mode fl:Int):Int:=
 if mode=2 then IntKind.i64.wrap ((BitVec.ofInt (IntKind.bits .i64) was ||| BitVec.ofInt (IntKind.bits .i64) fl).toNat) else if mode=3 then IntKind.i64.wrap ((BitVec.ofInt (IntKind.bits .i64) was &&& ~~~ BitVec.ofInt (IntKind.bits .i64) fl).toNat) else fl
def lY (o:OpC) (m:mH):mH:=if o.2.2.2.1.contains m.1=true then (m.1,turn m.2.1 o.2.2.2.2.1 o.2.2.2.2.2.1,m.2.2) else m
def J3 (o:OpC) (b:Bx):Bx:=(b.1,b.2.1,b.2.2.1,b.2.2.2.1.map (lY o),())
def ME (o:OpC) (b:Bx):List Int:=(b.2.2.2.1.filter fun m=>o.2.2.2.1.contains m.1).map (·.1)
theorem flags {n:Nat} (a m f:Int):rF n a m f=some (turn a m f,()):=by
 unfold rF turn
 by_cases h2:m=2
 ·simp [h2]
 ·by_cases h3:m=3 <;> simp [h2,h3]
theorem Ox {A:Type} {p:A→Bool} {x:A} (h:p x=false):[x].filter p=[]:=by simp [List.filter_cons,h]
theorem one_pos {A:Type} {p:A→Bool} {x:A} (h:p x=true):[x].filter p=[x]:=by simp [List.filter_cons,h]
theorem QU {A:Type} {f:A→A} {xs:List A} {i:Nat} (hi:i<xs.length) (h:f xs[i]=xs[i]):(xs.map f).take i++xs.drop i=(xs.map f).take (i+1)++xs.drop (i+1):=by
 have h1:=zP (xs:=xs) (ys:=xs.map f) (by simp) hi xs[i] (by simp [h])
 rw [←h1]
 symm
 have hl:i<((xs.map f).take i++xs.drop i).length:=by simp; omega
 have hg:=EA (xs:=xs) (ys:=xs.map f) (by simp) hi xs[i]
 rw [aoa,aob hl] at hg
 simp only [Option.getD_some] at hg
 conv=>lhs; rw [←hg]
 exact List.set_getElem_self hl
theorem Vm {n:Nat} {b:Bx} {o:OpC} (hb:b.2.2.2.1.length≤big) (ho:o.2.2.2.1.length≤big) (hn:big<n):uf n b o=some (ME o b,J3 o b,()):=by
 have hb':=hb
 unfold big at hb
 unfold uf
 obtain ⟨nm,va,ne,ms,u⟩:=b
 have hb:ms.length≤1048576:=hb
 refine (aQ (fun i=>(o,(i:Int),(nm,va,ne,(ms.map (lY o)).take i++ms.drop i,()),((ms.take i).filter fun m=>o.2.2.2.1.contains m.1).map (·.1),())) (fun _=>none) (some (ME o (nm,va,ne,ms,()),J3 o (nm,va,ne,ms,()),())) (m:=ms.length) (by simp) (by unfold big at hn; omega) ?_ ?_).trans (bL (fun _ _ _=>rfl))
 ·intro L i hi _
  have hy:(ms.map (lY o)).length=ms.length:=by simp
  have hlen:=Ca (xs:=ms) (ys:=ms.map (lY o)) hy (Nat.le_of_lt hi)
  have hget:=EA (xs:=ms) (ys:=ms.map (lY o)) hy hi dM
  have ht:ms.take (i+1)=ms.take i++[ms[i]]:=by simp
  have hl1:(((ms.take i).filter fun m=>o.2.2.2.1.contains m.1).map (·.1)).length≤i:=by
   rw [List.length_map]; exact Nat.le_trans (List.length_filter_le _ _) (by simp; omega)
  simp only [hlen,aon,hi,decide_true,if_true,aH hi,an7,iY,hget,has ho hn,anY,flags,aR hi (by omega)]
  cases hc:o.2.2.2.1.contains ms[i].1 with
  | false=>
   have hf:lY o ms[i]=ms[i]:=by unfold lY; rw [hc]; rfl
   rw [if_neg Bool.false_ne_true,QU hi hf,ht,List.filter_append,Ox (p:=fun m:mH=>o.2.2.2.1.contains m.1) hc,aoq]
  | true=>
   have hset:=zP (xs:=ms) (ys:=ms.map (lY o)) hy hi (ms[i].1,turn ms[i].2.1 o.2.2.2.2.1 o.2.2.2.2.2.1,ms[i].2.2) (by rw [List.getElem_map]; unfold lY; rw [if_pos hc])
   have hgs:((ms.map (lY o)).take (i+1)++ms.drop (i+1)).getD i dM=(ms[i].1,turn ms[i].2.1 o.2.2.2.2.1 o.2.2.2.2.2.1,ms[i].2.2):=by
    rw [←hset,aoa,List.getElem?_set_self (by omega)]; rfl
   simp only [if_true,hset,hgs,aoh]
   rw [if_pos (by omega),ht,List.filter_append,one_pos (p:=fun m:mH=>o.2.2.2.1.contains m.1) hc,List.map_append]
   rfl
 ·intro L _
  have ht:(ms.map (lY o)).take ms.length=ms.map (lY o):=List.take_of_length_le (by simp)
  simp only [ht,List.length_map,Int.lt_irrefl,decide_false,an0,if_false,List.take_length,List.drop_length,aoq]
  rfl
theorem Vl {n:Nat} {b:Bx} {o:OpC} (hb:b.2.2.2.1.length≤big) (ho:o.2.2.2.1.length≤big) (hn:big<n) (hm:1≤o.2.2.2.2.1∧o.2.2.2.2.1≤3):mh n b o=some (ME o b,J3 o b,()):=by
 have hb':=hb
 unfold big at hb
 unfold mh
 obtain ⟨nm,va,ne,ms,u⟩:=b
 have hb:ms.length≤1048576:=hb
 refine (aQ (fun i=>((ms.length:Int),(i:Int),(nm,va,ne,(ms.map (lY o)).take i++ms.drop i,()),o,((ms.take i).filter fun m=>o.2.2.2.1.contains m.1).map (·.1),())) (fun _=>none) (some (ME o (nm,va,ne,ms,()),J3 o (nm,va,ne,ms,()),())) (m:=ms.length) (by simp) (by unfold big at hn; omega) ?_ ?_).trans (bL (fun _ _ _=>rfl))
 ·intro L i hi _
  have hy:(ms.map (lY o)).length=ms.length:=by simp
  have hlen:=Ca (xs:=ms) (ys:=ms.map (lY o)) hy (Nat.le_of_lt hi)
  have hget:=EA (xs:=ms) (ys:=ms.map (lY o)) hy hi dM
  have ht:ms.take (i+1)=ms.take i++[ms[i]]:=by simp
  have hl1:(((ms.take i).filter fun m=>o.2.2.2.1.contains m.1).map (·.1)).length≤i:=by
   rw [List.length_map]; exact Nat.le_trans (List.length_filter_le _ _) (by simp; omega)
  simp only [hlen,aon,hi,decide_true,if_true,aH hi,an7,iY,hget,contains ho hn,anY,aR hi (by omega)]
  cases hc:o.2.2.2.1.contains ms[i].1 with
  | false=>
   have hf:lY o ms[i]=ms[i]:=by unfold lY; rw [hc]; rfl
   rw [aoz,if_pos rfl,QU hi hf,ht,List.filter_append,Ox (p:=fun m:mH=>o.2.2.2.1.contains m.1) hc,aoq]
  | true=>
   have hset:=zP (xs:=ms) (ys:=ms.map (lY o)) hy hi (ms[i].1,turn ms[i].2.1 o.2.2.2.2.1 o.2.2.2.2.2.1,ms[i].2.2) (by rw [List.getElem_map]; unfold lY; rw [if_pos hc])
   rw [aoo,if_neg Bool.false_ne_true]
   simp only [aoh]
   rw [if_pos (by omega),ht,List.filter_append,one_pos (p:=fun m:mH=>o.2.2.2.1.contains m.1) hc,List.map_append, ←hset]
   unfold turn
   by_cases h1:o.2.2.2.2.1=1
   ·simp [h1]
   ·by_cases h2:o.2.2.2.2.1=2
    ·simp [h2]
    ·have h3:o.2.2.2.2.1=3:=by omega
     simp [h3]
 ·intro L _
  have ht:(ms.map (lY o)).take ms.length=ms.map (lY o):=List.take_of_length_le (by simp)
  simp only [ht,Int.lt_irrefl,decide_false,an0,if_false,List.take_length,List.drop_length,aoq]
  rfl
theorem V8 (us:List Int) (u f:Int):jQ.pick us 0 u f=us.contains u:=by
 unfold jQ.pick
 rw [show BitVec.ofInt (IntKind.bits .i64) f &&& BitVec.ofInt (IntKind.bits .i64) 0=BitVec.ofInt (IntKind.bits .i64) 0 from BitVec.and_zero]
 have:(IntKind.i64.wrap ((BitVec.ofInt (IntKind.bits .i64) 0).toNat:Int))=0:=by decide
 rw [this]
 simp
def XG (b:Bx):List Int:=(b.2.2.2.1.filter fun m=>kr.del m.2.1).map (·.1)
def Yu (b:Bx):Bx:=(b.1,b.2.1,b.2.2.1,b.2.2.2.1.filter (fun m=>!kr.del m.2.1),())
theorem adN {n:Nat} {b:Bx} (hb:b.2.2.2.1.length≤big) (hn:big<n):gF n b=some (XG b,Yu b,()):=by
 unfold big at hb hn
 show kr.ym n b=_
 unfold kr.ym
 rw [if_pos ⟨by omega,by omega⟩]
 rfl
theorem Wp {n:Nat} {b:Bx} (hb:b.2.2.2.1.length≤big) (hn:big<n):gB n b [] 8=some (b.2.2.2.1.filter (fun m=>kr.del m.2.1),Yu b,()):=by
 unfold big at hb hn
 show jQ.AO jQ.pick n b [] 8=_
 unfold jQ.AO
 rw [if_pos ⟨by omega,by omega,by simp,by simp; omega⟩]
 rfl
def dG (o:OpC) (b:Bx):List mH:=b.2.2.2.1.filter fun m=>o.2.2.2.1.contains m.1
def abM (o:OpC) (b:Bx):Bx:=(b.1,b.2.1,b.2.2.1,b.2.2.2.1.filter (fun m=>!o.2.2.2.1.contains m.1),())
theorem Nj {n:Nat} {b:Bx} {o:OpC} (hb:b.2.2.2.1.length≤big) (ho:o.2.2.2.1.length≤big) (hn:big<n):gB n b o.2.2.2.1 0=some (dG o b,abM o b,()):=by
 have hb':=hb
 have ho':=ho
 unfold big at hb ho hn
 show jQ.AO jQ.pick n b o.2.2.2.1 0=_
 unfold jQ.AO
 rw [if_pos ⟨by omega,by omega,by omega,by omega⟩]
 simp only [V8]
 rfl
def gz (b:Bx) (l:List mH):Bx:=l.foldl yQ b
def x8 (b:Bx):Nat→List Int
 | 0=>[]
 | k+1=>x8 b k++[b.2.2.1+(k:Int)]
theorem uo (b:Bx):∀k,(x8 b k).length=k
 | 0=>rfl
 | k+1=>by simp [x8,uo b k]
theorem QE (b:Bx) (l:List mH) (m:mH):gz b (l++[m])=yQ (gz b l) m:=by simp [gz]
theorem G7 (b:Bx):∀l:List mH,(gz b l).2.2.1=b.2.2.1+(l.length:Int)∧(gz b l).2.2.2.1.length=b.2.2.2.1.length+l.length:=by
 intro l
 induction l generalizing b with
 | nil=>simp [gz]
 | cons m l ih=>
  have:=ih (yQ b m)
  simp only [gz,List.foldl_cons,aok] at this ⊢
  rw [this.1,this.2]
  simp [yQ]
  omega
theorem M4 {l:List mH}:∀{b:Bx},okB b→(∀m∈l,Ii m)→b.2.2.2.1.length+l.length≤big→okB (gz b l):=by
 induction l with
 | nil=>intro b h _ _; exact h
 | cons m l ih=>
  intro b h hl hb
  simp only [aok] at hb
  refine ih (b:=yQ b m) ⟨h.1, ?_, ?_⟩ (fun x hx=>hl x (by simp [hx])) ?_
  ·simp only [yQ,an5,aoh]; omega
  ·intro x hx
   simp only [yQ,an6,aog] at hx
   rcases hx with hx | rfl
   ·exact h.2.2 x hx
   ·exact hl m (by simp)
  ·simp only [yQ,an5,aoh]; omega
theorem BD {A:Type} {xs:List A} {k:Nat} (h:k<xs.length) (y d:A):(xs.set k y).getD k d=y:=by
 rw [aoa,List.getElem?_set_self h]; rfl
theorem getD_lt {A:Type} {xs:List A} {k:Nat} (h:k<xs.length) (d:A):xs.getD k d=xs[k]:=by
 rw [aoa,aob h]; rfl
theorem Y6 {A:Type} {xs:List A} {k:Nat} (h:k<xs.length) (d:A):xs.set k (xs.getD k d)=xs:=by
 rw [aoa,aob h]
 exact List.set_getElem_self h
theorem QH {s:lK} {k j:Nat} {l:List mH} {b:Bx} (hk:k<s.2.1.length) (hj:j<l.length) :
  ((s.2.1.set k (gz b (l.take j))).set k (yQ (gz b (l.take j)) l[j]))=s.2.1.set k (gz b (l.take (j+1))):=by
 rw [List.set_set, ←QE]
 congr 2
 simp
theorem JE {n:Nat} {s:lK} {at':Int} {k:Nat} {o:OpC} {part:Bx} {l:List mH} {b:Bx} {fin:Int×OpC×Int×Int×lK×Bx×List mH×List Int×Unit→Option (List Int×Int×lK×Unit)}
  {B:(Int×OpC×Int×Int×lK×Bx×List mH×List Int×Unit→Option (List Int×Int×lK×Unit))→Int×OpC×Int×Int×lK×Bx×List mH×List Int×Unit→Option (List Int×Int×lK×Unit)}
  (hB:∀L v,B L v=(if decide (v.2.2.2.1<(v.2.2.2.2.2.2.1.length:Int))=true then (if aK v.2.2.2.1 v.2.2.2.2.2.2.1.length then ((mF n (v.2.2.2.2.1.2.1.getD v.2.2.1.toNat dB) (v.2.2.2.2.2.2.1.getD v.2.2.2.1.toNat dM)).bind fun r5=>(if (v.2.2.2.2.2.2.2.1.length+[r5.1].length) * 8≤140737488355328 then L (v.1,v.2.1,v.2.2.1,IntKind.i64.wrap (v.2.2.2.1+(1:Int)),(v.2.2.2.2.1.1,v.2.2.2.2.1.2.1.set v.2.2.1.toNat r5.2.1,v.2.2.2.2.1.2.2),v.2.2.2.2.2.1,v.2.2.2.2.2.2.1,v.2.2.2.2.2.2.2.1++[r5.1],()) else none)) else none) else fin v))
  (hk:k<s.2.1.length) (hb:s.2.1.getD k dB=b) (hl:∀m∈l,Ii m) (hl6:l.length≤6) (h1:0≤b.2.2.1) (h2:b.2.2.1≤1000) (h3:b.2.2.2.1.length≤6) (hn:big<n) :
  rounds B n (at',o,(k:Int),(0:Int),s,part,l,[],())=fin (at',o,(k:Int),(l.length:Int),(s.1,s.2.1.set k (gz b l),()),part,l,x8 b l.length,()):=by
 have hn':1048576<n:=hn
 refine (aQ (fun j=>(at',o,(k:Int),(j:Int),(s.1,s.2.1.set k (gz b (l.take j)),()),part,l,x8 b j,())) (fun _=>none) (fin (at',o,(k:Int),(l.length:Int),(s.1,s.2.1.set k (gz b l),()),part,l,x8 b l.length,())) (m:=l.length) ?_ (by omega) ?_ ?_).trans (bL (fun _ _ _=>rfl))
 ·rw [List.take_zero]
  show _=(_,_,_,_,(s.1,s.2.1.set k b,()),_,_,[],())
  rw [←hb,Y6 hk]
  rfl
 ·intro L j hj _
  have hp:=G7 b (l.take j)
  have hlt:(l.take j).length=j:=by simp; omega
  rw [hlt] at hp
  have hput:=QG (n:=n) (b:=gz b (l.take j)) (m:=l[j]) (hl _ (aop hj)) (by rw [hp.1]; omega) (by rw [hp.1]; omega) (by rw [hp.2]; omega)
  simp only [hB,aon,hj,decide_true,if_true,aH hj,an7,getD_lt hj,BD hk,hput,anY,aR hj (by omega),uo,aoh,QH hk hj]
  rw [if_pos (by omega),hp.1]
  rfl
 ·intro L _
  simp only [hB,Int.lt_irrefl,decide_false,an0,if_false,List.take_length]
theorem JD {n:Nat} {s:lK} {at':Int} {k:Nat} {o:OpC} {l:List mH} {b:Bx} {fin:Int×Int×Int×Int×lK×OpC×List mH×List Int×Unit→Option (List Int×Int×lK×Unit)}
  {B:(Int×Int×Int×Int×lK×OpC×List mH×List Int×Unit→Option (List Int×Int×lK×Unit))→Int×Int×Int×Int×lK×OpC×List mH×List Int×Unit→Option (List Int×Int×lK×Unit)}
  (hB:∀L v,B L v=(if decide (v.2.2.2.1<v.2.2.1)=true then (if aK v.2.2.2.1 v.2.2.2.2.2.2.1.length then ((jZ n (v.2.2.2.2.1.2.1.getD v.2.1.toNat dB) (v.2.2.2.2.2.2.1.getD v.2.2.2.1.toNat dM)).bind fun r6=>(if (v.2.2.2.2.2.2.2.1.length+[r6.1].length) * 8≤140737488355328 then L (v.1,v.2.1,v.2.2.1,IntKind.i64.wrap (v.2.2.2.1+(1:Int)),(v.2.2.2.2.1.1,v.2.2.2.2.1.2.1.set v.2.1.toNat r6.2.1,v.2.2.2.2.1.2.2),v.2.2.2.2.2.1,v.2.2.2.2.2.2.1,v.2.2.2.2.2.2.2.1++[r6.1],()) else none)) else none) else fin v))
  (hk:k<s.2.1.length) (hb:s.2.1.getD k dB=b) (hl:∀m∈l,Ii m) (hl6:l.length≤6) (h1:0≤b.2.2.1) (h2:b.2.2.1≤1000) (h3:b.2.2.2.1.length≤6) (hn:big<n) :
  rounds B n (at',(k:Int),(l.length:Int),(0:Int),s,o,l,[],())=fin (at',(k:Int),(l.length:Int),(l.length:Int),(s.1,s.2.1.set k (gz b l),()),o,l,x8 b l.length,()):=by
 have hn':1048576<n:=hn
 refine (aQ (fun j=>(at',(k:Int),(l.length:Int),(j:Int),(s.1,s.2.1.set k (gz b (l.take j)),()),o,l,x8 b j,())) (fun _=>none) (fin (at',(k:Int),(l.length:Int),(l.length:Int),(s.1,s.2.1.set k (gz b l),()),o,l,x8 b l.length,())) (m:=l.length) ?_ (by omega) ?_ ?_).trans (bL (fun _ _ _=>rfl))
 ·rw [List.take_zero]
  show _=(_,_,_,_,(s.1,s.2.1.set k b,()),_,_,[],())
  rw [←hb,Y6 hk]
  rfl
 ·intro L j hj _
  have hp:=G7 b (l.take j)
  have hlt:(l.take j).length=j:=by simp; omega
  rw [hlt] at hp
  have hput:=Wd (n:=n) (b:=gz b (l.take j)) (m:=l[j]) (hl _ (aop hj)) (by rw [hp.1]; omega) (by rw [hp.1]; omega) (by rw [hp.2]; omega)
  simp only [hB,aon,hj,decide_true,if_true,aH hj,an7,getD_lt hj,BD hk,hput,anY,aR hj (by omega),uo,aoh,QH hk hj]
  rw [if_pos (by omega),hp.1]
  rfl
 ·intro L _
  simp only [hB,Int.lt_irrefl,decide_false,an0,if_false,List.take_length]
theorem MQ {n:Nat} {ms:List mH} {o:OpC} {a b:Int} {s:lK} {fin:Int×Int×List mH×Int×Int×lK×OpC×List mH×Unit→Option (List Int×Int×lK×Unit)}
  {B:(Int×Int×List mH×Int×Int×lK×OpC×List mH×Unit→Option (List Int×Int×lK×Unit))→Int×Int×List mH×Int×Int×lK×OpC×List mH×Unit→Option (List Int×Int×lK×Unit)}
  (hB:∀L v,B L v=(if decide (v.2.2.2.2.1<v.2.2.2.1)=true then (if aK v.2.2.2.2.1 v.2.2.1.length then ((aW n v.2.2.2.2.2.2.1.2.2.2.1 ((v.2.2.1.getD v.2.2.2.2.1.toNat dM).1)).bind fun r3=>(if r3.1=true then (if (v.2.2.2.2.2.2.2.1.length+[v.2.2.1.getD v.2.2.2.2.1.toNat dM].length) * 48≤140737488355328 then L (v.1,v.2.1,v.2.2.1,v.2.2.2.1,IntKind.i64.wrap (v.2.2.2.2.1+(1:Int)),v.2.2.2.2.2.1,v.2.2.2.2.2.2.1,v.2.2.2.2.2.2.2.1++[v.2.2.1.getD v.2.2.2.2.1.toNat dM],()) else none) else L (v.1,v.2.1,v.2.2.1,v.2.2.2.1,IntKind.i64.wrap (v.2.2.2.2.1+(1:Int)),v.2.2.2.2.2.1,v.2.2.2.2.2.2.1,v.2.2.2.2.2.2.2.1,()))) else none) else fin v))
  (hb:ms.length≤big) (ho:o.2.2.2.1.length≤big) (hn:big<n) :
  rounds B n (a,b,ms,(ms.length:Int),(0:Int),s,o,[],())=fin (a,b,ms,(ms.length:Int),(ms.length:Int),s,o,ms.filter (fun m=>o.2.2.2.1.contains m.1),()):=by
 have hb':ms.length≤1048576:=hb
 refine (aQ (fun i=>(a,b,ms,(ms.length:Int),(i:Int),s,o,(ms.take i).filter (fun m=>o.2.2.2.1.contains m.1),())) (fun _=>none) (fin (a,b,ms,(ms.length:Int),(ms.length:Int),s,o,ms.filter (fun m=>o.2.2.2.1.contains m.1),())) (m:=ms.length) (by simp) (by omega) ?_ ?_).trans (bL (fun _ _ _=>rfl))
 ·intro L i hi _
  have ht:ms.take (i+1)=ms.take i++[ms[i]]:=by simp
  have hl:((ms.take i).filter fun m=>o.2.2.2.1.contains m.1).length≤i:=Nat.le_trans (List.length_filter_le _ _) (by simp; omega)
  simp only [hB,aon,hi,decide_true,if_true,aH hi,dW hi,contains ho hn,anY,aR hi (by omega),aoh,ht,List.filter_append]
  cases hc:o.2.2.2.1.contains ms[i].1 with
  | false=>rw [if_neg Bool.false_ne_true,Ox (p:=fun m:mH=>o.2.2.2.1.contains m.1) hc,aoq]
  | true=>rw [if_pos rfl,if_pos (by omega),one_pos (p:=fun m:mH=>o.2.2.2.1.contains m.1) hc]
 ·intro L _
  simp only [hB,Int.lt_irrefl,decide_false,an0,if_false,List.take_length]
def OM (b:Bx):Prop:=(0≤b.2.2.1∧b.2.2.1≤1000)∧b.2.2.2.1.length≤6
def zo (s:lK) (i k:Nat) (o:OpC):List Int×Int×lK×Unit:=
 if (s.2.1.getD k dB).2.2.2.1.length+(dG o (s.2.1.getD i dB)).length>6 then ([],10,s,()) else
 if (s.2.1.getD k dB).2.2.1+((dG o (s.2.1.getD i dB)).length:Int)>1000 then ([],10,s,()) else
 (x8 (s.2.1.getD k dB) (dG o (s.2.1.getD i dB)).length,0,(s.1,if o.1=6 then (s.2.1.set k (gz (s.2.1.getD k dB) (dG o (s.2.1.getD i dB)))).set i (abM o (s.2.1.getD i dB)) else s.2.1.set k (gz (s.2.1.getD k dB) (dG o (s.2.1.getD i dB))),()),())
def carried (s:lK) (i:Nat) (o:OpC):List Int×Int×lK×Unit:=
 if zR s o.2.2.1<0 then ([],4,s,()) else if o.1=6∧zR s o.2.2.1=(i:Int) then ([],9,s,()) else zo s i (zR s o.2.2.1).toNat o
theorem eO {A:Type} {xs:List A} {k:Nat} (h:k<xs.length) (d:A):xs.getD k d∈xs:=by
 rw [getD_lt h]; exact aop h
theorem aaA {n:Nat} {s:lK} {i:Nat} {o:OpC} (hs:zQ s) (ho:okO o) (hsm:∀b∈s.2.1,OM b) (hi:i<s.2.1.length) (hn:big<n):rE n s (i:Int) o=some (carried s i o):=by
 unfold rE carried
 rw [adA hs.1 hn]
 simp only [anY]
 rcases oU s o.2.2.1 with h | ⟨k,h,hk⟩
 ·rw [h]; rfl
 ·rw [h]
  have h0:¬((k:Int)<0):=by omega
  rw [decide_eq_false h0,if_neg Bool.false_ne_true,if_neg h0]
  have hA:=hsm _ (eO hi dB)
  have hK:=hsm _ (eO hk dB)
  have Zu:=hs.2 _ (eO hi dB)
  have hKo:=hs.2 _ (eO hk dB)
  have hT:(dG o (s.2.1.getD i dB)).length≤6:=Nat.le_trans (List.length_filter_le _ _) hA.2
  have hTo:∀m∈dG o (s.2.1.getD i dB),Ii m:=fun m hm=>Zu.2.2 m (aoe.1 hm).1
  have hK2:=hK.2
  have hK1:=hK.1
  by_cases h6:o.1=6
  ·rw [decide_eq_true h6,if_pos rfl]
   by_cases he:(k:Int)=(i:Int)
   ·rw [decide_eq_true he,if_pos rfl,if_pos ⟨h6,he⟩]
   ·rw [decide_eq_false he,if_neg Bool.false_ne_true,if_neg (show ¬(o.1=6∧(k:Int)=(i:Int)) from fun h=>he h.2),if_pos (aH hi)]
    simp only [an7,F9 Zu hn,anY,Nj Zu.2.1 ho.2.2.1 hn,if_pos (aH hk)]
    unfold zo
    have w1:IntKind.i64.wrap (((s.2.1.getD k dB).2.2.2.1.length:Int)+((dG o (s.2.1.getD i dB)).length:Int))=((s.2.1.getD k dB).2.2.2.1.length:Int)+((dG o (s.2.1.getD i dB)).length:Int):=wrap_i64 (by omega) (by omega)
    have w2:IntKind.i64.wrap ((s.2.1.getD k dB).2.2.1+((dG o (s.2.1.getD i dB)).length:Int))=(s.2.1.getD k dB).2.2.1+((dG o (s.2.1.getD i dB)).length:Int):=wrap_i64 (by omega) (by omega)
    simp only [w1,w2]
    by_cases c1:(s.2.1.getD k dB).2.2.2.1.length+(dG o (s.2.1.getD i dB)).length>6
    ·have c1':((s.2.1.getD k dB).2.2.2.1.length:Int)+((dG o (s.2.1.getD i dB)).length:Int)>6:=by omega
     simp only [c1,c1',decide_true,if_true]
    ·have c1':¬(((s.2.1.getD k dB).2.2.2.1.length:Int)+((dG o (s.2.1.getD i dB)).length:Int)>6):=by omega
     simp only [c1,c1',decide_false,an0,if_false]
     by_cases c2:(s.2.1.getD k dB).2.2.1+((dG o (s.2.1.getD i dB)).length:Int)>1000
     ·simp only [c2,decide_true,if_true]
     ·simp only [c2,decide_false,an0,if_false]
      refine (JE (s:=s) (k:=k) (l:=dG o (s.2.1.getD i dB)) (b:=s.2.1.getD k dB) (fun _ _=>rfl) hk rfl hTo hT hK1.1 hK1.2 hK2 hn).trans ?_
      have hi2:i<(s.2.1.set k (gz (s.2.1.getD k dB) (dG o (s.2.1.getD i dB)))).length:=by simpa using hi
      simp only [h6,decide_true,if_true,if_pos (aH hi2),an7]
  ·rw [decide_eq_false h6,if_neg Bool.false_ne_true,if_neg (show ¬(o.1=6∧(k:Int)=(i:Int)) from fun h=>h6 h.1),if_pos (aH hi)]
   simp only [an7,F9 Zu hn,anY,Nj Zu.2.1 ho.2.2.1 hn,if_pos (aH hk)]
   unfold zo
   have w1:IntKind.i64.wrap (((s.2.1.getD k dB).2.2.2.1.length:Int)+((dG o (s.2.1.getD i dB)).length:Int))=((s.2.1.getD k dB).2.2.2.1.length:Int)+((dG o (s.2.1.getD i dB)).length:Int):=wrap_i64 (by omega) (by omega)
   have w2:IntKind.i64.wrap ((s.2.1.getD k dB).2.2.1+((dG o (s.2.1.getD i dB)).length:Int))=(s.2.1.getD k dB).2.2.1+((dG o (s.2.1.getD i dB)).length:Int):=wrap_i64 (by omega) (by omega)
   simp only [w1,w2]
   by_cases c1:(s.2.1.getD k dB).2.2.2.1.length+(dG o (s.2.1.getD i dB)).length>6
   ·have c1':((s.2.1.getD k dB).2.2.2.1.length:Int)+((dG o (s.2.1.getD i dB)).length:Int)>6:=by omega
    simp only [c1,c1',decide_true,if_true]
   ·have c1':¬(((s.2.1.getD k dB).2.2.2.1.length:Int)+((dG o (s.2.1.getD i dB)).length:Int)>6):=by omega
    simp only [c1,c1',decide_false,an0,if_false]
    by_cases c2:(s.2.1.getD k dB).2.2.1+((dG o (s.2.1.getD i dB)).length:Int)>1000
    ·simp only [c2,decide_true,if_true]
    ·simp only [c2,decide_false,an0,if_false]
     refine (JE (s:=s) (k:=k) (l:=dG o (s.2.1.getD i dB)) (b:=s.2.1.getD k dB) (fun _ _=>rfl) hk rfl hTo hT hK1.1 hK1.2 hK2 hn).trans ?_
     simp only [h6,decide_false,an0,if_false]
theorem getD_set_ne {A:Type} {xs:List A} {i k:Nat} (h:k≠i) (y d:A):(xs.set k y).getD i d=xs.getD i d:=by
 rw [aoa,aoa,List.getElem?_set_ne h]
theorem Z4 {n:Nat} {ms:List mH} {o:OpC} (hb:ms.length≤big) (ho:o.2.2.2.1.length≤big) (hn:big<n) :
  aF n ms o=some (((ms.filter fun m=>!o.2.2.2.1.contains m.1).length:Int),(ms.filter fun m=>!o.2.2.2.1.contains m.1)++List.replicate (ms.length - (ms.filter fun m=>!o.2.2.2.1.contains m.1).length) dM,()):=by
 unfold big at hb ho hn
 show l9.Fh n ms o=_
 unfold l9.Fh
 rw [if_pos ⟨by omega,by omega,by omega,by omega⟩]
 rfl
theorem copied {n:Nat} {s:lK} {i:Nat} {o:OpC} (hs:zQ s) (ho:okO o) (hsm:∀b∈s.2.1,OM b) (hi:i<s.2.1.length) (hn:big<n):kQ n s (i:Int) o=some (carried s i o):=by
 unfold kQ carried
 rw [box hs.1 hn]
 simp only [anY]
 rcases oU s o.2.2.1 with h | ⟨k,h,hk⟩
 ·rw [h]; rfl
 ·rw [h]
  have h0:¬((k:Int)<0):=by omega
  rw [decide_eq_false h0,if_neg Bool.false_ne_true,if_neg h0]
  have hA:=hsm _ (eO hi dB)
  have hK:=hsm _ (eO hk dB)
  have Zu:=hs.2 _ (eO hi dB)
  have hKo:=hs.2 _ (eO hk dB)
  have hT:(dG o (s.2.1.getD i dB)).length≤6:=Nat.le_trans (List.length_filter_le _ _) hA.2
  have hTo:∀m∈dG o (s.2.1.getD i dB),Ii m:=fun m hm=>Zu.2.2 m (aoe.1 hm).1
  have hK2:=hK.2
  have hK1:=hK.1
  have w1:IntKind.i64.wrap (((s.2.1.getD k dB).2.2.2.1.length:Int)+((dG o (s.2.1.getD i dB)).length:Int))=((s.2.1.getD k dB).2.2.2.1.length:Int)+((dG o (s.2.1.getD i dB)).length:Int):=wrap_i64 (by omega) (by omega)
  have w2:IntKind.i64.wrap ((s.2.1.getD k dB).2.2.1+((dG o (s.2.1.getD i dB)).length:Int))=(s.2.1.getD k dB).2.2.1+((dG o (s.2.1.getD i dB)).length:Int):=wrap_i64 (by omega) (by omega)
  have hlist:(s.2.1.getD i dB).2.2.2.1.filter (fun m=>o.2.2.2.1.contains m.1)=dG o (s.2.1.getD i dB):=rfl
  by_cases h6:o.1=6
  ·rw [decide_eq_true h6,if_pos rfl]
   by_cases he:(k:Int)=(i:Int)
   ·rw [decide_eq_true he,if_pos rfl,if_pos ⟨h6,he⟩]
   ·rw [decide_eq_false he,if_neg Bool.false_ne_true,if_neg (show ¬(o.1=6∧(k:Int)=(i:Int)) from fun h=>he h.2),if_pos (aH hi)]
    simp only [an7]
    refine (MQ (s:=s) (o:=o) (a:=(i:Int)) (b:=(k:Int)) (ms:=(s.2.1.getD i dB).2.2.2.1) (fun _ _=>rfl) Zu.2.1 ho.2.2.1 hn).trans ?_
    simp only [if_pos (aH hk),an7,hlist,w1]
    unfold zo
    by_cases c1:(s.2.1.getD k dB).2.2.2.1.length+(dG o (s.2.1.getD i dB)).length>6
    ·have c1':((s.2.1.getD k dB).2.2.2.1.length:Int)+((dG o (s.2.1.getD i dB)).length:Int)>6:=by omega
     simp only [c1,c1',decide_true,if_true]
    ·have c1':¬(((s.2.1.getD k dB).2.2.2.1.length:Int)+((dG o (s.2.1.getD i dB)).length:Int)>6):=by omega
     have hlen:eB n (dG o (s.2.1.getD i dB))=some (((dG o (s.2.1.getD i dB)).length:Int),()):=rfl
     simp only [c1,c1',decide_false,an0,if_false,hlen,anY,w2]
     by_cases c2:(s.2.1.getD k dB).2.2.1+((dG o (s.2.1.getD i dB)).length:Int)>1000
     ·simp only [c2,decide_true,if_true]
     ·simp only [c2,decide_false,an0,if_false]
      refine (JD (s:=s) (k:=k) (l:=dG o (s.2.1.getD i dB)) (b:=s.2.1.getD k dB) (fun _ _=>rfl) hk rfl hTo hT hK1.1 hK1.2 hK2 hn).trans ?_
      have hki:k≠i:=fun h=>he (by omega)
      have hi2:i<(s.2.1.set k (gz (s.2.1.getD k dB) (dG o (s.2.1.getD i dB)))).length:=by simpa using hi
      simp only [h6,decide_true,if_true,if_pos (aH hi2),an7,iY,getD_set_ne hki,Z4 Zu.2.1 ho.2.2.1 hn,anY,List.set_set,BD hi2,List.take_left']
      rfl
  ·rw [decide_eq_false h6,if_neg Bool.false_ne_true,if_neg (show ¬(o.1=6∧(k:Int)=(i:Int)) from fun h=>h6 h.1),if_pos (aH hi)]
   simp only [an7]
   refine (MQ (s:=s) (o:=o) (a:=(i:Int)) (b:=(k:Int)) (ms:=(s.2.1.getD i dB).2.2.2.1) (fun _ _=>rfl) Zu.2.1 ho.2.2.1 hn).trans ?_
   simp only [if_pos (aH hk),an7,hlist,w1]
   unfold zo
   by_cases c1:(s.2.1.getD k dB).2.2.2.1.length+(dG o (s.2.1.getD i dB)).length>6
   ·have c1':((s.2.1.getD k dB).2.2.2.1.length:Int)+((dG o (s.2.1.getD i dB)).length:Int)>6:=by omega
    simp only [c1,c1',decide_true,if_true]
   ·have c1':¬(((s.2.1.getD k dB).2.2.2.1.length:Int)+((dG o (s.2.1.getD i dB)).length:Int)>6):=by omega
    have hlen:eB n (dG o (s.2.1.getD i dB))=some (((dG o (s.2.1.getD i dB)).length:Int),()):=rfl
    simp only [c1,c1',decide_false,an0,if_false,hlen,anY,w2]
    by_cases c2:(s.2.1.getD k dB).2.2.1+((dG o (s.2.1.getD i dB)).length:Int)>1000
    ·simp only [c2,decide_true,if_true]
    ·simp only [c2,decide_false,an0,if_false]
     refine (JD (s:=s) (k:=k) (l:=dG o (s.2.1.getD i dB)) (b:=s.2.1.getD k dB) (fun _ _=>rfl) hk rfl hTo hT hK1.1 hK1.2 hK2 hn).trans ?_
     simp only [h6,decide_false,an0,if_false]
abbrev zf:=Int×List Int×lK×Unit
def bad (c:Int):zf:=(c,[],(0,[],()),())
def Ew (s:lK) (o:OpC):List Int×Int×lK×Unit:=
 if zR s o.2.1≥0 then ([],6,s,()) else if s.2.1.length=3 then ([],10,s,()) else if s.1=1000 then ([],10,s,()) else ([],0,(s.1+1,s.2.1++[(o.2.1,s.1,1,[],())],()),())
def Xe (s:lK) (i:Nat) (o:OpC):List Int×Int×lK×Unit:=
 if (s.2.1.getD i dB).2.2.2.1.length=6 then ([],10,s,()) else if (s.2.1.getD i dB).2.2.1=1000 then ([],10,s,()) else
  ([(s.2.1.getD i dB).2.2.1],0,(s.1,s.2.1.set i (yQ (s.2.1.getD i dB) (0,o.2.2.2.2.2.1,o.2.2.2.2.2.2.1,o.2.2.2.2.2.2.2.1,())),()),())
def QJ (s:lK) (i:Nat) (o:OpC):List Int×Int×lK×Unit:=
 if o.1=2 then ([],0,(s.1,s.2.1.take i++s.2.1.drop (i+1),()),()) else
 if o.1=3 then Xe s i o else
 if o.1=4 then (ME o (s.2.1.getD i dB),0,(s.1,s.2.1.set i (J3 o (s.2.1.getD i dB)),()),()) else
 if o.1=7 then (XG (s.2.1.getD i dB),0,(s.1,s.2.1.set i (Yu (s.2.1.getD i dB)),()),()) else carried s i o
def pR (s:lK) (o:OpC):List Int×Int×lK×Unit:=
 if o.1=1 then Ew s o else if zR s o.2.1<0 then ([],4,s,()) else QJ s (zR s o.2.1).toNat o
def yR (r:List Int×Int×lK×Unit):zf:=if r.2.1=0 then (0,r.1,r.2.2.1,()) else bad r.2.1
structure Fit (s:lK) (o:OpC):Prop where
 zQ:zQ s
 okO:okO o
 val:1≤s.1∧s.1≤1000
 few:s.2.1.length≤3
 small:∀b∈s.2.1,OM b
 mode:o.1=4→1≤o.2.2.2.2.1∧o.2.2.2.2.1≤3
theorem made {n:Nat} {s:lK} {o:OpC} (h:Fit s o) (hn:big<n):nJ n s o.2.1=some ((Ew s o).2.1,(Ew s o).2.2.1,())∧(Ew s o).1=[]:=by
 have hf:=h.few
 have hv:=h.val
 unfold nJ Ew
 rw [box h.zQ.1 hn]
 simp only [anY]
 by_cases c0:zR s o.2.1≥0
 ·simp only [c0,decide_true,if_true,and_self]
 ·simp only [c0,decide_false,an0,if_false]
  by_cases c1:s.2.1.length=3
  ·simp only [c1,if_true]
   exact ⟨rfl,trivial⟩
  ·have:¬(s.2.1.length:Int)=3:=by omega
   simp only [c1,this,decide_false,an0,if_false]
   by_cases c2:s.1=1000
   ·simp only [c2,decide_true,if_true,and_self]
   ·simp only [c2,decide_false,an0,if_false,aoh,and_true]
    rw [if_pos (by omega),wrap_i64 (by omega) (by omega)]
theorem adB {n:Nat} {s:lK} {o:OpC} (h:Fit s o) (hn:big<n):uh n s o=some (yR (Ew s o),()):=by
 have hf:=h.few
 have hv:=h.val
 unfold uh Ew
 rw [adA h.zQ.1 hn]
 simp only [anY]
 by_cases c0:zR s o.2.1≥0
 ·simp only [c0,decide_true,if_true]; rfl
 ·simp only [c0,decide_false,an0,if_false]
  by_cases c1:s.2.1.length=3
  ·have:(s.2.1.length:Int)≥3:=by omega
   simp only [c1,this,decide_true,if_true]; rfl
  ·have:¬(s.2.1.length:Int)≥3:=by omega
   simp only [c1,this,decide_false,an0,if_false]
   by_cases c2:s.1=1000
   ·have:s.1≥1000:=by omega
    simp only [c2,decide_true,if_true]; rfl
   ·have:¬s.1≥1000:=by omega
    simp only [c2,this,decide_false,an0,if_false,Kw h.zQ hn,anY,aoh]
    rw [if_pos (by omega),wrap_i64 (by omega) (by omega)]
    rfl
theorem SH {o:OpC} (ho:okO o):Ii (0,o.2.2.2.2.2.1,o.2.2.2.2.2.2.1,o.2.2.2.2.2.2.2.1,()):=ho.2.2.2
theorem Ru {n:Nat} {s:lK} {o:OpC} (h:Fit s o) (hn:big<n):mo n s o=some (pR s o):=by
 unfold mo pR
 by_cases k1:o.1=1
 ·obtain ⟨h1,h2⟩:=made h hn
  simp only [k1,decide_true,if_true,h1,anY]
  rw [←h2]
 ·simp only [k1,decide_false,an0,if_false,box h.zQ.1 hn,anY]
  rcases oU s o.2.1 with hp | ⟨i,hp,hi⟩
  ·rw [hp]; rfl
  ·rw [hp]
   have h0:¬((i:Int)<0):=by omega
   simp only [h0,decide_false,an0,if_false,if_pos (aH hi),an7]
   have hB:=h.small _ (eO hi dB)
   have Sm:=h.zQ.2 _ (eO hi dB)
   have hB1:=hB.1
   have hB2:=hB.2
   have hf:=h.few
   unfold QJ
   by_cases k2:o.1=2
   ·have hw:IntKind.i64.wrap ((i:Int)+1)=((i+1:Nat):Int):=aR hi (by omega)
    have hdel:bQ n s.2.1 (i:Int) ((i+1:Nat):Int)=some (((s.2.1.length - 1:Nat):Int),s.2.1.take i++s.2.1.drop (i+1)++[dB],()):=by
     show l9.JM dB s.2.1 (i:Int) ((i+1:Nat):Int)=_
     unfold l9.JM
     rw [if_pos ⟨by omega,by omega,by omega⟩]
     simp only [an7,Nat.add_sub_cancel_left]
     rfl
    have hl:(s.2.1.take i++s.2.1.drop (i+1)).length=s.2.1.length - 1:=by simp; omega
    simp only [k2,decide_true,if_true,hw,hdel,anY,an7]
    rw [←hl,List.take_left']
    rfl
   ·simp only [k2,decide_false,an0,if_false]
    by_cases k3:o.1=3
    ·simp only [k3,decide_true,if_true]
     unfold Xe
     by_cases c1:(s.2.1.getD i dB).2.2.2.1.length=6
     ·simp only [c1,if_true]
      rfl
     ·have:¬((s.2.1.getD i dB).2.2.2.1.length:Int)=6:=by omega
      simp only [c1,this,decide_false,an0,if_false]
      by_cases c2:(s.2.1.getD i dB).2.2.1=1000
      ·simp only [c2,decide_true,if_true]
      ·have hput:=QF (n:=n) (b:=s.2.1.getD i dB) (SH h.okO) (by omega) (by omega) (by omega)
       simp only [c2,decide_false,an0,if_false,hput,anY]
    ·simp only [k3,decide_false,an0,if_false]
     by_cases k4:o.1=4
     ·simp only [k4,decide_true,if_true,Vl Sm.2.1 h.okO.2.2.1 hn (h.mode k4),anY]
     ·simp only [k4,decide_false,an0,if_false]
      by_cases k7:o.1=7
      ·simp only [k7,decide_true,if_true,adN Sm.2.1 hn,anY]
      ·simp only [k7,decide_false,an0,if_false,copied h.zQ h.okO h.small hi hn,anY]
theorem Vp {n:Nat} {ms:List mH} {r0:zf} {st:lK} {c:Int} {B:(Int×zf×zf×List mH×Unit→Option (zf×Unit))→Int×zf×zf×List mH×Unit→Option (zf×Unit)}
  (hB:∀L v,B L v=(if decide (v.1<(v.2.2.2.1.length:Int))=true then (if aK v.1 v.2.2.2.1.length then (if (v.2.2.1.2.1.length+[(v.2.2.2.1.getD v.1.toNat dM).1].length) * 8≤140737488355328 then L (IntKind.i64.wrap (v.1+(1:Int)),v.2.1,(v.2.2.1.1,v.2.2.1.2.1++[(v.2.2.2.1.getD v.1.toNat dM).1],v.2.2.1.2.2),v.2.2.2.1,()) else none) else none) else some (v.2.2.1,())))
  (hb:ms.length≤big) (hn:big<n):rounds B n ((0:Int),r0,(c,[],st,()),ms,())=some ((c,ms.map (·.1),st,()),()):=by
 have hb':ms.length≤1048576:=hb
 refine (aQ (fun i=>((i:Int),r0,(c,(ms.take i).map (·.1),st,()),ms,())) (fun _=>none) (some ((c,ms.map (·.1),st,()),())) (m:=ms.length) (by simp) (by omega) ?_ ?_).trans (bL (fun _ _ _=>rfl))
 ·intro L i hi _
  have ht:ms.take (i+1)=ms.take i++[ms[i]]:=by simp
  have hl:((ms.take i).map (·.1)).length≤i:=by simp; omega
  simp only [hB,aon,hi,decide_true,if_true,aH hi,dW hi,aR hi (by omega),aoh,ht,List.map_append,List.map_cons,List.map_nil]
  rw [if_pos (by omega)]
 ·intro L _
  simp only [hB,Int.lt_irrefl,decide_false,an0,if_false,List.take_length]
theorem Rv {n:Nat} {s:lK} {o:OpC} (h:Fit s o) (hn:big<n):rD n s o=some (yR (pR s o),()):=by
 unfold rD pR
 by_cases k1:o.1=1
 ·simp only [k1,decide_true,if_true,adB h hn,anY]
 ·simp only [k1,decide_false,an0,if_false,adA h.zQ.1 hn,anY]
  rcases oU s o.2.1 with hp | ⟨i,hp,hi⟩
  ·rw [hp]; rfl
  ·rw [hp]
   have h0:¬((i:Int)<0):=by omega
   simp only [h0,decide_false,an0,if_false,Kw h.zQ hn,anY,if_pos (aH hi),an7]
   have hB:=h.small _ (eO hi dB)
   have Sm:=h.zQ.2 _ (eO hi dB)
   have hB1:=hB.1
   have hB2:=hB.2
   have hf:=h.few
   unfold QJ
   by_cases k2:o.1=2
   ·have hw:IntKind.i64.wrap ((i:Int)+1)=((i+1:Nat):Int):=aR hi (by omega)
    simp only [k2,decide_true,if_true,hw,an7]
    rw [if_pos ⟨by omega,by omega⟩,if_pos (by simp; omega),if_pos ⟨by omega,by omega⟩,if_pos (by simp; omega)]
    rfl
   ·simp only [k2,decide_false,an0,if_false]
    by_cases k3:o.1=3
    ·simp only [k3,decide_true,if_true]
     unfold Xe
     by_cases c1:(s.2.1.getD i dB).2.2.2.1.length=6
     ·have:((s.2.1.getD i dB).2.2.2.1.length:Int)≥6:=by omega
      simp only [c1,this,decide_true,if_true]; rfl
     ·have:¬((s.2.1.getD i dB).2.2.2.1.length:Int)≥6:=by omega
      simp only [c1,this,decide_false,an0,if_false]
      by_cases c2:(s.2.1.getD i dB).2.2.1=1000
      ·have:(s.2.1.getD i dB).2.2.1≥1000:=by omega
       simp only [c2,this,decide_true,if_true]; rfl
      ·have:¬(s.2.1.getD i dB).2.2.1≥1000:=by omega
       have hput:=QG (n:=n) (b:=s.2.1.getD i dB) (SH h.okO) (by omega) (by omega) (by omega)
       simp only [c2,this,decide_false,an0,if_false,hput,anY]
       rfl
    ·simp only [k3,decide_false,an0,if_false]
     by_cases k4:o.1=4
     ·simp only [k4,decide_true,if_true,Vm Sm.2.1 h.okO.2.2.1 hn,anY]
      rfl
     ·simp only [k4,decide_false,an0,if_false]
      by_cases k7:o.1=7
      ·simp only [k7,decide_true,if_true,Wp Sm.2.1 hn,anY]
       exact Vp (fun _ _=>rfl) (Nat.le_trans (List.length_filter_le _ _) Sm.2.1) hn
      ·simp only [k7,decide_false,an0,if_false,aaA h.zQ h.okO h.small hi hn,anY]
       unfold yR
       by_cases c:(carried s i o).2.1=0
       ·simp only [c,decide_true,aoo,an0,if_false,if_true]
       ·simp only [c,decide_false,aoz,if_true,if_false]; rfl
theorem copies {n:Nat} (k:Int):iI n k=some (decide (k=5) || decide (k=6),()):=by
 unfold iI
 cases decide (k=5) <;> rfl
theorem XM {n:Nat} (o:OpC):mY n o=some (decide (o.1=5) || decide (o.1=6),()):=copies (n:=n) o.1
theorem aaj {n:Nat} (o:OpC):j4 n o=some ((decide (o.1=5) || decide (o.1=6)) || decide (o.1=4),()):=by
 unfold j4
 rw [XM]
 simp only [anY]
 cases (decide (o.1=5) || decide (o.1=6)) <;> rfl
theorem acU (k:Nat):decide ((k:Int)>0)=!decide ((k:Int)=0):=by
 by_cases h:k=0
 ·subst h; rfl
 ·rw [decide_eq_true (by omega),decide_eq_false (by omega)]; rfl
def A9 (o:OpC):Bool:=(((decide (o.1=5) || decide (o.1=6)) || decide (o.2.2.1=[])) && ((((decide (o.1=5) || decide (o.1=6)) || decide (o.1=4)) || decide ((o.2.2.2.1.length:Int)=0)) && ((decide (o.1=4) || decide (o.2.2.2.2.1=0)) &&
 ((decide (o.1=4) || (decide (o.1=3) || decide (o.2.2.2.2.2.1=0))) && (decide (o.1=3) || (decide (o.2.2.2.2.2.2.1=0) && decide ((o.2.2.2.2.2.2.2.1.length:Int)=0)))))))
set_option maxRecDepth 20000 in
theorem only {n:Nat} (o:OpC):oZ n o=some (A9 o,()):=by
 unfold oZ A9
 simp only [XM,aaj,anY]
 generalize (decide (o.1=5) || decide (o.1=6))=c
 generalize decide (o.2.2.1=[])=b1
 generalize decide (o.1=4)=b2
 generalize decide ((o.2.2.2.1.length:Int)=0)=b3
 generalize decide (o.2.2.2.2.1=0)=b4
 generalize decide (o.1=3)=b5
 generalize decide (o.2.2.2.2.2.1=0)=b6
 generalize decide (o.2.2.2.2.2.2.1=0)=b7
 generalize decide ((o.2.2.2.2.2.2.2.1.length:Int)=0)=b8
 revert c b1 b2 b3 b4 b5 b6 b7 b8
 decide +kernel
set_option maxRecDepth 20000 in
theorem form {n:Nat} (o:OpC):ug n o=some (decide (1≤o.1∧o.1≤7) && A9 o,()):=by
 unfold ug A9
 simp only [Ih,copies,anY,acU]
 generalize (decide (o.1=5) || decide (o.1=6))=c
 generalize decide (o.2.2.1=[])=b1
 generalize decide (o.1=4)=b2
 generalize decide ((o.2.2.2.1.length:Int)=0)=b3
 generalize decide (o.2.2.2.2.1=0)=b4
 generalize decide (o.1=3)=b5
 generalize decide (o.2.2.2.2.2.1=0)=b6
 generalize decide (o.2.2.2.2.2.2.1=0)=b7
 generalize decide ((o.2.2.2.2.2.2.2.1.length:Int)=0)=b8
 generalize decide (1≤o.1∧o.1≤7)=b9
 revert c b1 b2 b3 b4 b5 b6 b7 b8 b9
 decide +kernel
def Ju (us:List Int) (j:Nat):Bool:=!decide (1≤us.getD j 0∧us.getD j 0≤999) || (decide ((j:Int)>0) && decide (us.getD j 0≤us.getD (j - 1) 0))
theorem Wv {n:Nat} {us:List Int} (hb:us.length≤big) (hn:big<n):qa n us=dm (fun j=>if Ju us j=true then some (some (false,())) else none) (some (true,())) us.length 0:=by
 have hb':us.length≤1048576:=hb
 unfold qa
 refine aQ (fun i=>(us,(i:Int),())) (fun j=>if Ju us j=true then some (some (false,())) else none) (some (true,())) (m:=us.length) rfl (by omega) ?_ ?_
 ·intro L i hi _
  simp only [aon,hi,decide_true,if_true,aH hi,an7,Ih,anY,aR hi (by omega)]
  unfold Ju
  cases h1:decide (1≤us.getD i 0∧us.getD i 0≤999) with
  | false=>rfl
  | true=>
   cases i with
   | zero=>rfl
   | succ j=>
    have hj:j<us.length:=by omega
    rw [decide_eq_true (show ((j+1:Nat):Int)>0 by omega),Gw hj (by omega)]
    simp only [aH hj,if_true,an7,Nat.add_sub_cancel,aoo,an0,if_false,Bool.false_or,Bool.true_and]
    by_cases hle:us.getD (j+1) 0≤us.getD j 0
    ·simp only [hle,decide_true,if_true]
    ·simp only [hle,decide_false,an0,if_false]
 ·intro L _
  simp
theorem Wu {n:Nat} {us:List Int} (hb:us.length≤big) (hn:big<n):om n us=dm (fun j=>if Ju us j=true then some (some (false,())) else none) (some (true,())) us.length 0:=by
 have hb':us.length≤1048576:=hb
 unfold om
 refine aQ (fun i=>(us,us,(us.length:Int),(i:Int),())) (fun j=>if Ju us j=true then some (some (false,())) else none) (some (true,())) (m:=us.length) rfl (by omega) ?_ ?_
 ·intro L i hi _
  have hu:o7 n (us.getD i 0)=some (decide (1≤us.getD i 0∧us.getD i 0≤999),()):=by
   unfold o7
   rw [tL,Ih]; rfl
  simp only [aon,hi,decide_true,if_true,aH hi,an7,hu,anY,aR hi (by omega)]
  unfold Ju
  cases h1:decide (1≤us.getD i 0∧us.getD i 0≤999) with
  | false=>rfl
  | true=>
   cases i with
   | zero=>rfl
   | succ j=>
    have hj:j<us.length:=by omega
    rw [decide_eq_true (show ((j+1:Nat):Int)>0 by omega),Gw hj (by omega)]
    simp only [aH hj,if_true,an7,Nat.add_sub_cancel,aoo,an0,if_false,Bool.false_or,Bool.true_and,ge_iff_le]
    cases decide (us.getD (j+1) 0≤us.getD j 0) <;> rfl
 ·intro L _
  simp
def E8 (us:List Int):Bool:=((dm (fun j=>if Ju us j=true then some (some (false,())) else none) (some (true,())) us.length 0).getD (false,())).1
theorem Lf (us:List Int):dm (fun j=>if Ju us j=true then some (some (false,())) else none) (some (true,())) us.length 0=some (E8 us,()):=by
 unfold E8
 rcases Eh (step:=fun j=>if Ju us j=true then some (some (false,())) else none) (fin:=some (true,())) (r:=some (false,())) (fun j=>by by_cases h:Ju us j=true <;> simp [h]) (m:=us.length) (i:=0) with h | h <;> rw [h] <;> rfl
def iK (o:OpC):Int:=
 if (!(decide (1≤o.1∧o.1≤7) && A9 o))=true then 1 else
 if (!decide (qK o.2.1) || ((decide (o.1=5) || decide (o.1=6)) && !decide (qK o.2.2.1)))=true then 5 else
 if decide ((o.2.2.2.1.length:Int)>6)=true then 2 else
 if (!E8 o.2.2.2.1 || (decide (o.1=4) && !decide (1≤o.2.2.2.2.1∧o.2.2.2.2.1≤3)) || !decide (0≤o.2.2.2.2.2.1∧o.2.2.2.2.2.1≤15) || !decide (0≤o.2.2.2.2.2.2.1∧o.2.2.2.2.2.2.1≤9999))=true then 3 else
 if decide ((o.2.2.2.2.2.2.2.1.length:Int)>400)=true then 2 else 0
set_option maxRecDepth 20000 in
theorem CV {n:Nat} {o:OpC} (ho:okO o) (hn:big<n):oD n o=some (iK o,()):=by
 unfold oD iK
 simp only [form,(name_eq ho.1 hn).2,(name_eq ho.2.1 hn).2,copies,Ih,Wv ho.2.2.1 hn,Lf,anY]
 generalize (decide (1≤o.1∧o.1≤7) && A9 o)=b0
 generalize decide (qK o.2.1)=b1
 generalize (decide (o.1=5) || decide (o.1=6))=b2
 generalize decide (qK o.2.2.1)=b3
 generalize decide ((o.2.2.2.1.length:Int)>6)=b4
 generalize E8 o.2.2.2.1=b5
 generalize decide (o.1=4)=b6
 generalize decide (1≤o.2.2.2.2.1∧o.2.2.2.2.1≤3)=b7
 generalize decide (0≤o.2.2.2.2.2.1∧o.2.2.2.2.2.1≤15)=b8
 generalize decide (0≤o.2.2.2.2.2.2.1∧o.2.2.2.2.2.2.1≤9999)=b9
 generalize decide ((o.2.2.2.2.2.2.2.1.length:Int)>400)=c
 revert b0 b1 b2 b3 b4 b5 b6 b7 b8 b9 c
 decide +kernel
set_option maxRecDepth 20000 in
theorem JY {n:Nat} {o:OpC} (ho:okO o) (hn:big<n):og n o=some (iK o,()):=by
 have hfl:∀x,fI n x=some (decide (0≤x∧x≤15),()):=fun x=>by unfold fI; rw [tL,Ih]; rfl
 have hda:∀x,ig n x=some (decide (0≤x∧x≤9999),()):=fun x=>by unfold ig; rw [tL,Ih]; rfl
 unfold og iK
 simp only [only,(name_eq ho.1 hn).1,(name_eq ho.2.1 hn).1,XM,tL,Ih,Wu ho.2.2.1 hn,Lf,hfl,hda,anY]
 generalize A9 o=b0
 generalize decide (1≤o.1∧o.1≤7)=a0
 generalize decide (qK o.2.1)=b1
 generalize (decide (o.1=5) || decide (o.1=6))=b2
 generalize decide (qK o.2.2.1)=b3
 generalize decide ((o.2.2.2.1.length:Int)>6)=b4
 generalize E8 o.2.2.2.1=b5
 generalize decide (o.1=4)=b6
 generalize decide (1≤o.2.2.2.2.1∧o.2.2.2.2.1≤3)=b7
 generalize decide (0≤o.2.2.2.2.2.1∧o.2.2.2.2.2.1≤15)=b8
 generalize decide (0≤o.2.2.2.2.2.2.1∧o.2.2.2.2.2.2.1≤9999)=b9
 generalize decide ((o.2.2.2.2.2.2.2.1.length:Int)>400)=c
 revert a0 b0 b1 b2 b3 b4 b5 b6 b7 b8 b9 c
 decide +kernel
def okR (r:zf):Prop:=r.2.1.length≤big∧zQ r.2.2.1
theorem IP (c:Int):okR (bad c):=by
 refine ⟨by simp [bad,big],by simp [bad,big],fun b hb=>?_⟩
 simp [bad] at hb
theorem EC {s:lK} {i:Nat} {b:Bx} {v:Int} (hs:zQ s) (hb:okB b):zQ (v,s.2.1.set i b,()):=by
 refine ⟨by simpa using hs.1,fun x hx=>?_⟩
 rcases List.mem_or_eq_of_mem_set hx with h | rfl
 ·exact hs.2 x h
 ·exact hb
theorem KJ {b:Bx} {p:mH→Bool} (h:okB b):okB (b.1,b.2.1,b.2.2.1,b.2.2.2.1.filter p,()):=
 ⟨h.1,Nat.le_trans (List.length_filter_le _ _) h.2.1,fun m hm=>h.2.2 m (aoe.1 hm).1⟩
theorem U4 {s:lK} {i k:Nat} {o:OpC} (hs:zQ s) (hsm:∀b∈s.2.1,OM b) (hi:i<s.2.1.length) (hk:k<s.2.1.length):(zo s i k o).1.length≤big∧zQ (zo s i k o).2.2.1:=by
 have hT:(dG o (s.2.1.getD i dB)).length≤6:=Nat.le_trans (List.length_filter_le _ _) (hsm _ (eO hi dB)).2
 have hK:=(hsm _ (eO hk dB)).2
 unfold zo
 split
 ·exact ⟨by simp [big],hs⟩
 ·split
  ·exact ⟨by simp [big],hs⟩
  ·have hP:okB (gz (s.2.1.getD k dB) (dG o (s.2.1.getD i dB))):=M4 (hs.2 _ (eO hk dB)) (fun m hm=>(hs.2 _ (eO hi dB)).2.2 m (aoe.1 hm).1) (by unfold big; omega)
   refine ⟨by rw [uo]; unfold big; omega, ?_⟩
   have h1:zQ (s.1,s.2.1.set k (gz (s.2.1.getD k dB) (dG o (s.2.1.getD i dB))),()):=EC hs hP
   by_cases h6:o.1=6
   ·simp only [h6,if_true]
    exact EC (s:=(s.1,s.2.1.set k (gz (s.2.1.getD k dB) (dG o (s.2.1.getD i dB))),())) h1 (KJ (hs.2 _ (eO hi dB)))
   ·simp only [h6,if_false]
    exact h1
theorem UY {s:lK} {o:OpC} (h:Fit s o):(pR s o).1.length≤big∧zQ (pR s o).2.2.1:=by
 have hs:=h.zQ
 have hf:=h.few
 unfold pR
 by_cases k1:o.1=1
 ·rw [if_pos k1]
  unfold Ew
  split
  ·exact ⟨by simp [big],hs⟩
  ·split
   ·exact ⟨by simp [big],hs⟩
   ·split
    ·exact ⟨by simp [big],hs⟩
    ·refine ⟨by simp [big], ?_,fun b hb=>?_⟩
     ·simp [big]; omega
     ·rcases an6.1 hb with hb | hb
      ·exact hs.2 b hb
      ·simp only [aog] at hb
       subst hb
       exact ⟨h.okO.1,by simp [big],by simp⟩
 ·rw [if_neg k1]
  rcases oU s o.2.1 with hp | ⟨i,hp,hi⟩
  ·rw [hp,if_pos (by decide)]
   exact ⟨by simp [big],hs⟩
  ·rw [hp,if_neg (by omega),an7]
   have hB:=h.small _ (eO hi dB)
   have Sm:=hs.2 _ (eO hi dB)
   have hB2:=hB.2
   unfold QJ
   split
   ·refine ⟨by simp [big], ?_,fun b hb=>?_⟩
    ·simp [big]; omega
    ·rcases an6.1 hb with hb | hb
     ·exact hs.2 b (List.mem_of_mem_take hb)
     ·exact hs.2 b (List.mem_of_mem_drop hb)
   ·split
    ·unfold Xe
     split
     ·exact ⟨by simp [big],hs⟩
     ·split
      ·exact ⟨by simp [big],hs⟩
      ·refine ⟨by simp [big],EC hs (M4 (l:=[_]) Sm (fun m hm=>?_) (by simp only [aoh]; unfold big; omega))⟩
       simp only [aog] at hm
       subst hm
       exact SH h.okO
    ·split
     ·refine ⟨?_,EC hs ⟨Sm.1,by simpa [J3] using Sm.2.1,fun m hm=>?_⟩⟩
      ·unfold ME
       rw [List.length_map]
       exact Nat.le_trans (List.length_filter_le _ _) Sm.2.1
      ·obtain ⟨x,hx,rfl⟩:=aox.1 hm
       unfold lY
       split
       ·exact Sm.2.2 x hx
       ·exact Sm.2.2 x hx
     ·split
      ·refine ⟨?_,EC hs (KJ Sm)⟩
       unfold XG
       rw [List.length_map]
       exact Nat.le_trans (List.length_filter_le _ _) Sm.2.1
      ·unfold carried
       split
       ·exact ⟨by simp [big],hs⟩
       ·split
        ·exact ⟨by simp [big],hs⟩
        ·rename_i hneg _
         rcases oU s o.2.2.1 with hp2 | ⟨k,hp2,hk⟩
         ·rw [hp2] at hneg; exact absurd (by decide) hneg
         ·rw [hp2,an7]
          exact U4 hs h.small hi hk
theorem aaJ {s:lK} {o:OpC} (h:Fit s o):okR (yR (pR s o)):=by
 unfold yR
 split
 ·exact UY h
 ·exact IP _
theorem fit {s:lK} {o:OpC} (hs:zQ s) (ho:okO o) (hg:xu s) (hf:iK o=0):Fit s o:=by
 refine ⟨hs,ho,hg.1,hg.2.1,fun b hb=>?_,fun h4=>?_⟩
 ·obtain ⟨i,hi,rfl⟩:=List.mem_iff_getElem.1 hb
  have:=(hg.2.2 i hi).1
  rw [getD_lt hi] at this
  obtain ⟨_,_,h3,h4,_⟩:=this
  exact ⟨⟨by omega,h3.2⟩,h4⟩
 ·unfold iK at hf
  split at hf
  ·omega
  ·split at hf
   ·omega
   ·split at hf
    ·omega
    ·split at hf
     ·omega
     ·rename_i hc
      rw [decide_eq_true h4] at hc
      simp only [Bool.not_eq_true,Bool.or_eq_false_iff,Bool.true_and] at hc
      have:=hc.1.1.2
      simpa using this
theorem D8 {n:Nat} {s:lK} {o:OpC} (hs:zQ s) (ho:okO o) (hg:xu s) (hn:big<n):∃r:zf,oz n s o=some (r,())∧oh n s o=some (r,())∧okR r∧
  ((iK o=0∧r=yR (pR s o))∨(iK o≠0∧r=bad (iK o))):=by
 obtain ⟨he,c,hc,hgc⟩:=JX hs hn
 have h0:=hgc.2 hg
 unfold oz oh
 rw [hc]
 simp only [anY,h0,decide_true,aoo,an0,if_false,CV ho hn,JY ho hn]
 by_cases h1:iK o=0
 ·have hF:=fit hs ho hg h1
  simp only [h1,decide_true,aoo,an0,if_false,Rv hF hn,own hs hn,Ru hF hn,anY]
  refine ⟨yR (pR s o),rfl, ?_,aaJ hF, .inl ⟨trivial,rfl⟩⟩
  unfold yR
  by_cases h2:(pR s o).2.1=0
  ·simp only [h2,decide_true,aoo,an0,if_false,if_true]
  ·simp only [h2,decide_false,aoz,if_true,if_false]
   rfl
 ·refine ⟨bad (iK o), ?_, ?_,IP _, .inr ⟨h1,rfl⟩⟩
  ·simp only [h1,decide_false,aoz,if_true]; rfl
  ·simp only [h1,decide_false,aoz,if_true]; rfl
end Go.Proofs.YtailcbngagacaabGreat.jc
