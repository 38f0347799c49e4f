/- Ops on stores: what the printed functions of both sides come to. -/
import Derived.Test.YtabnmpabdhmkoaaOwF
import Derived.Test.YtabnmpabdhmkoaaLoopLib
import Derived.Test.YtabnmpabdhmkoaaCutLib
import Derived.Test.YtabnmpabdhmkoaaTakeLib
import Derived.Test.YtabnmpabdhmkoaaStoreMath
import Derived.Test.YtabnmpabdhmkoaaFlF
set_option linter.unusedSectionVars false
set_option linter.unusedVariables false
set_option linter.unusedSimpArgs false
namespace Go.Proofs.Ytabnmpabdhmkoaa.vO
open Go Go.Proofs.Ytabnmpabdhmkoaa.Ow Go.Proofs.Ytabnmpabdhmkoaa.MV Go.Proofs.Ytabnmpabdhmkoaa.qb Go.Proofs.Ytabnmpabdhmkoaa.oF
abbrev OpC:=Int×List Int×List Int×List Int×Int×Int×Int×List Int×Unit
def okO (o:OpC):Prop:=o.2.1.length≤big∧o.2.2.1.length≤big∧o.2.2.2.1.length≤big∧o.2.2.2.2.2.2.2.1.length≤big
theorem clone {n:Nat} {bs:List Int} (h:bs.length≤big):eF n bs=some (bs,()):=by
 unfold big at h
 unfold eF
 have hc:(([]:List Int).length+bs.length) * 1≤140737488355328:=by simp; omega
 simp only [if_pos hc]
 cases bs with
 | nil=>exact (if_pos (show ([]:List Int).isEmpty=true from rfl)).trans (Kq (ks:=[.sl 5 (.int .u8)]) (some (([]:List Int),())))
 | cons b bs=>rfl
theorem own {n:Nat} {s:qM} (h:Pm s) (hn:big<n):qL n s=some (s,()):=by
 have hb:=h.1
 unfold big at hb
 unfold qL
 refine (cu (fun i=>(s.2.1,(s.2.1.length:Int),(i:Int),(0,[],()),(s.1,s.2.1.take i,()),())) (fun _=>none) (some (s,())) (m:=s.2.1.length) (by simp) (by have:=h.1; omega) ?_ ?_).trans (nJ (fun _ _ _=>rfl))
 ·intro L i hi _
  have ht:s.2.1.take (i+1)=s.2.1.take i++[s.2.1[i]]:=by simp
  have hl:(s.2.1.take i).length≤i:=by simp; omega
  simp only [abS,hi,decide_true,if_true,cO hi,wo hi]
  have hB:=h.2 _ (abU hi)
  generalize s.2.1[i]=b at hB ht ⊢
  have hb2:=hB.2.1
  unfold big at hb2
  refine (cu (fun j=>(s.2.1,(s.2.1.length:Int),(i:Int),b.2.2.2.1,(b.2.2.2.1.length:Int),(j:Int),(0,[],()),(s.1,s.2.1.take i,()),(b.1,b.2.1,b.2.2.1,b.2.2.2.1.take j,()),())) (fun _=>none) (L (s.2.1,(s.2.1.length:Int),((i+1:Nat):Int),(0,[],()),(s.1,s.2.1.take (i+1),()),())) (m:=b.2.2.2.1.length) (by simp) (by have:=hB.2.1; omega) ?_ ?_).trans (nJ (fun _ _ _=>rfl))
  ·intro L2 j hj _
   have htj:b.2.2.2.1.take (j+1)=b.2.2.2.1.take j++[b.2.2.2.1[j]]:=by simp
   have hlj:(b.2.2.2.1.take j).length≤j:=by simp; omega
   simp only [abS,hj,decide_true,if_true,cO hj,wo hj,dP hj (by omega),clone (hB.2.2 _ (abU hj)),abt,abM,htj]
   rw [if_pos (by omega)]
  ·intro L2 _
   simp only [Int.lt_irrefl,decide_false,abv,if_false,List.take_length,abM,dP hi (by omega),ht]
   rw [if_pos (by omega)]
 ·intro L _
  simp
def xz (s:qM) (nm:List Int):Int:=if s.2.1.findIdx (fun b=>decide (b.1=nm))<s.2.1.length then ((s.2.1.findIdx (fun b=>decide (b.1=nm)):Nat):Int) else -1
theorem Ag (s:qM) (nm:List Int):xz s nm=-1∨∃i:Nat,xz s nm=(i:Int)∧i<s.2.1.length:=by
 unfold xz
 split
 ·exact .inr ⟨_,rfl,by assumption⟩
 ·exact .inl rfl
theorem YL {n:Nat} {s:qM} {nm:List Int} (hb:s.2.1.length≤big) (hn:big<n):qa n s nm=some (xz s nm,()):=by
 have hb':=hb
 unfold big at hb
 unfold qa
 refine (cu (fun i=>(s,nm,(i:Int),())) (fun j=>if decide ((s.2.1.getD j dB).1=nm)=true then some (some ((j:Int),())) else none) (some (-1,())) (m:=s.2.1.length) rfl (by omega) ?_ ?_).trans ?_
 ·intro L i hi _
  simp only [abS,hi,decide_true,if_true,cO hi,abC,dP hi (by omega)]
  split <;> rfl
 ·intro L _
  simp
 ·rw [ry.o8 (p:=fun b:Bx=>decide (b.1=nm)) (r:=fun j=>some ((j:Int),())) s.2.1.length 0 (by omega)]
  simp only [List.drop_zero,Nat.zero_add]
  unfold xz
  split <;> rfl
theorem box {n:Nat} {s:qM} {nm:List Int} (hb:s.2.1.length≤big) (hn:big<n):gZ n s nm=some (xz s nm,()):=by
 unfold gZ
 have h:bQ n s.2.1 nm=some (_,()):=ry.zV (p:=fun b:Bx=>decide (b.1=nm)) (q:=fun c x=>lC n x c) (d:=dB) (fun _ _=>rfl) (fun _=>rfl) (by unfold big at hb; omega) (by omega)
 rw [h]
 rfl
theorem has {n:Nat} {us:List Int} {x:Int} (hb:us.length≤big) (hn:big<n):vN n us x=some (us.contains x,()):=
 Hq.KZ (fun _ _=>rfl) (by unfold big at hb; omega) (by omega)
theorem contains {n:Nat} {us:List Int} {x:Int} (hb:us.length≤big) (hn:big<n):bY n us x=some (us.contains x,()):=
 ry.HV (fun _ _=>rfl) (by unfold big at hb; omega) (by omega)
def Gv (b:Bx) (m:qI):Bx:=(b.1,b.2.1,b.2.2.1+1,b.2.2.2.1++[(b.2.2.1,m.2.1,m.2.2.1,m.2.2.2.1,())],())
theorem Mg {n:Nat} {b:Bx} {m:qI} (hm:RA m) (h1:0≤b.2.2.1) (h2:b.2.2.1≤2000) (h3:b.2.2.2.1.length≤2000):sM n b m=some (b.2.2.1,Gv b m,()):=by
 unfold sM
 rw [clone hm]
 simp only [abt,abM]
 rw [if_pos ⟨trivial,by omega⟩,wrap_i64 (x:=b.2.2.1+1) (by omega) (by omega),show b.2.2.1+1 - 1=b.2.2.1 by omega,wrap_i64 (by omega) (by omega)]
 rfl
theorem JP {n:Nat} {b:Bx} {m:qI} (hm:RA m) (h1:0≤b.2.2.1) (h2:b.2.2.1≤2000) (h3:b.2.2.2.1.length≤2000):jT n b m=some (b.2.2.1,Gv b m,()):=Mg hm h1 h2 h3
def turn (was mode fl:Int):Int:=
 if mode=2 then IntKind.i64.wrap ((BitVec.ofInt (IntKind.bits .i64) was ||| BitVec.ofInt (IntKind.bits .i64) fl).toNat) else if mode=3 then IntKind.i64.wrap ((BitVec.ofInt (IntKind.bits .i64) was &&& ~~~ BitVec.ofInt (IntKind.bits .i64) fl).toNat) else fl
theorem flags {n:Nat} (a m f:Int):sN n a m f=some (turn a m f,()):=by
 unfold sN turn
 by_cases h2:m=2
 ·simp [h2]
 ·by_cases h3:m=3 <;> simp [h2,h3]
theorem NY {A:Type} {p:A→Bool} {x:A} (h:p x=false):[x].filter p=[]:=by simp [List.filter_cons,h]
theorem one_pos {A:Type} {p:A→Bool} {x:A} (h:p x=true):[x].filter p=[x]:=by simp [List.filter_cons,h]
def jw (o:OpC) (b:Bx):List qI:=b.2.2.2.1.filter fun m=>o.2.2.2.1.contains m.1
def Vd (o:OpC) (b:Bx):Bx:=(b.1,b.2.1,b.2.2.1,b.2.2.2.1.filter (fun m=>!o.2.2.2.1.contains m.1),())
def kE (b:Bx) (l:List qI):Bx:=l.foldl Gv b
def vE (b:Bx):Nat→List Int
 | 0=>[]
 | k+1=>vE b k++[b.2.2.1+(k:Int)]
theorem uS (b:Bx):∀k,(vE b k).length=k
 | 0=>rfl
 | k+1=>by simp [vE,uS b k]
theorem ER (b:Bx) (l:List qI) (m:qI):kE b (l++[m])=Gv (kE b l) m:=by simp [kE]
theorem EP (b:Bx):∀l:List qI,(kE b l).2.2.1=b.2.2.1+(l.length:Int)∧(kE b l).2.2.2.1.length=b.2.2.2.1.length+l.length:=by
 intro l
 induction l generalizing b with
 | nil=>simp [kE]
 | cons m l ih=>
  have:=ih (Gv b m)
  simp only [kE,List.foldl_cons,abP] at this ⊢
  rw [this.1,this.2]
  simp [Gv]
  omega
theorem EY {A:Type} {xs:List A} {k:Nat} (h:k<xs.length) (y d:A):(xs.set k y).getD k d=y:=by
 rw [abF,List.getElem?_set_self h]; rfl
theorem getD_lt {A:Type} {xs:List A} {k:Nat} (h:k<xs.length) (d:A):xs.getD k d=xs[k]:=by
 rw [abF,abG h]; rfl
theorem Re {A:Type} {xs:List A} {k:Nat} (h:k<xs.length) (d:A):xs.set k (xs.getD k d)=xs:=by
 rw [abF,abG h]
 exact List.set_getElem_self h
theorem Mh {s:qM} {k j:Nat} {l:List qI} {b:Bx} (hk:k<s.2.1.length) (hj:j<l.length) :
  ((s.2.1.set k (kE b (l.take j))).set k (Gv (kE b (l.take j)) l[j]))=s.2.1.set k (kE b (l.take (j+1))):=by
 rw [List.set_set, ←ER]
 congr 2
 simp
theorem zf {n:Nat} {s:qM} {at':Int} {k:Nat} {o:OpC} {l:List qI} {b:Bx} {fin:Int×Int×Int×Int×qM×OpC×List qI×List Int×Unit→Option (List Int×Int×qM×Unit)}
  {B:(Int×Int×Int×Int×qM×OpC×List qI×List Int×Unit→Option (List Int×Int×qM×Unit))→Int×Int×Int×Int×qM×OpC×List qI×List Int×Unit→Option (List Int×Int×qM×Unit)}
  (hB:∀L v,B L v=(if decide (v.2.2.2.1<v.2.2.1)=true then (if aN v.2.2.2.1 v.2.2.2.2.2.2.1.length then ((jT n (v.2.2.2.2.1.2.1.getD v.2.1.toNat dB) (v.2.2.2.2.2.2.1.getD v.2.2.2.1.toNat dM)).bind fun r6=>(if (v.2.2.2.2.2.2.2.1.length+[r6.1].length) * 8≤140737488355328 then L (v.1,v.2.1,v.2.2.1,IntKind.i64.wrap (v.2.2.2.1+(1:Int)),(v.2.2.2.2.1.1,v.2.2.2.2.1.2.1.set v.2.1.toNat r6.2.1,v.2.2.2.2.1.2.2),v.2.2.2.2.2.1,v.2.2.2.2.2.2.1,v.2.2.2.2.2.2.2.1++[r6.1],()) else none)) else none) else fin v))
  (hk:k<s.2.1.length) (hb:s.2.1.getD k dB=b) (hl:∀m∈l,RA m) (hl6:l.length≤6) (h1:0≤b.2.2.1) (h2:b.2.2.1≤1000) (h3:b.2.2.2.1.length≤6) (hn:big<n) :
  rounds B n (at',(k:Int),(l.length:Int),(0:Int),s,o,l,[],())=fin (at',(k:Int),(l.length:Int),(l.length:Int),(s.1,s.2.1.set k (kE b l),()),o,l,vE b l.length,()):=by
 have hn':1048576<n:=hn
 refine (cu (fun j=>(at',(k:Int),(l.length:Int),(j:Int),(s.1,s.2.1.set k (kE b (l.take j)),()),o,l,vE b j,())) (fun _=>none) (fin (at',(k:Int),(l.length:Int),(l.length:Int),(s.1,s.2.1.set k (kE b l),()),o,l,vE b l.length,())) (m:=l.length) ?_ (by omega) ?_ ?_).trans (nJ (fun _ _ _=>rfl))
 ·rw [List.take_zero]
  show _=(_,_,_,_,(s.1,s.2.1.set k b,()),_,_,[],())
  rw [←hb,Re hk]
  rfl
 ·intro L j hj _
  have hp:=EP b (l.take j)
  have hlt:(l.take j).length=j:=by simp; omega
  rw [hlt] at hp
  have hput:=JP (n:=n) (b:=kE b (l.take j)) (m:=l[j]) (hl _ (abU hj)) (by rw [hp.1]; omega) (by rw [hp.1]; omega) (by rw [hp.2]; omega)
  simp only [hB,abS,hj,decide_true,if_true,cO hj,abC,getD_lt hj,EY hk,hput,abt,dP hj (by omega),uS,abM,Mh hk hj]
  rw [if_pos (by omega),hp.1]
  rfl
 ·intro L _
  simp only [hB,Int.lt_irrefl,decide_false,abv,if_false,List.take_length]
theorem BK {n:Nat} {ms:List qI} {o:OpC} {a b:Int} {s:qM} {fin:Int×Int×List qI×Int×Int×qM×OpC×List qI×Unit→Option (List Int×Int×qM×Unit)}
  {B:(Int×Int×List qI×Int×Int×qM×OpC×List qI×Unit→Option (List Int×Int×qM×Unit))→Int×Int×List qI×Int×Int×qM×OpC×List qI×Unit→Option (List Int×Int×qM×Unit)}
  (hB:∀L v,B L v=(if decide (v.2.2.2.2.1<v.2.2.2.1)=true then (if aN v.2.2.2.2.1 v.2.2.1.length then ((bY n v.2.2.2.2.2.2.1.2.2.2.1 ((v.2.2.1.getD v.2.2.2.2.1.toNat dM).1)).bind fun r3=>(if r3.1=true then (if (v.2.2.2.2.2.2.2.1.length+[v.2.2.1.getD v.2.2.2.2.1.toNat dM].length) * 48≤140737488355328 then L (v.1,v.2.1,v.2.2.1,v.2.2.2.1,IntKind.i64.wrap (v.2.2.2.2.1+(1:Int)),v.2.2.2.2.2.1,v.2.2.2.2.2.2.1,v.2.2.2.2.2.2.2.1++[v.2.2.1.getD v.2.2.2.2.1.toNat dM],()) else none) else L (v.1,v.2.1,v.2.2.1,v.2.2.2.1,IntKind.i64.wrap (v.2.2.2.2.1+(1:Int)),v.2.2.2.2.2.1,v.2.2.2.2.2.2.1,v.2.2.2.2.2.2.2.1,()))) else none) else fin v))
  (hb:ms.length≤big) (ho:o.2.2.2.1.length≤big) (hn:big<n) :
  rounds B n (a,b,ms,(ms.length:Int),(0:Int),s,o,[],())=fin (a,b,ms,(ms.length:Int),(ms.length:Int),s,o,ms.filter (fun m=>o.2.2.2.1.contains m.1),()):=by
 have hb':ms.length≤1048576:=hb
 refine (cu (fun i=>(a,b,ms,(ms.length:Int),(i:Int),s,o,(ms.take i).filter (fun m=>o.2.2.2.1.contains m.1),())) (fun _=>none) (fin (a,b,ms,(ms.length:Int),(ms.length:Int),s,o,ms.filter (fun m=>o.2.2.2.1.contains m.1),())) (m:=ms.length) (by simp) (by omega) ?_ ?_).trans (nJ (fun _ _ _=>rfl))
 ·intro L i hi _
  have ht:ms.take (i+1)=ms.take i++[ms[i]]:=by simp
  have hl:((ms.take i).filter fun m=>o.2.2.2.1.contains m.1).length≤i:=Nat.le_trans (List.length_filter_le _ _) (by simp; omega)
  simp only [hB,abS,hi,decide_true,if_true,cO hi,wo hi,contains ho hn,abt,dP hi (by omega),abM,ht,List.filter_append]
  cases hc:o.2.2.2.1.contains ms[i].1 with
  | false=>rw [if_neg Bool.false_ne_true,NY (p:=fun m:qI=>o.2.2.2.1.contains m.1) hc,abV]
  | true=>rw [if_pos rfl,if_pos (by omega),one_pos (p:=fun m:qI=>o.2.2.2.1.contains m.1) hc]
 ·intro L _
  simp only [hB,Int.lt_irrefl,decide_false,abv,if_false,List.take_length]
def Mq (b:Bx):Prop:=(0≤b.2.2.1∧b.2.2.1≤1000)∧b.2.2.2.1.length≤6
def FM (s:qM) (i k:Nat) (o:OpC):List Int×Int×qM×Unit:=
 if (s.2.1.getD k dB).2.2.2.1.length+(jw o (s.2.1.getD i dB)).length>6 then ([],10,s,()) else
 if (s.2.1.getD k dB).2.2.1+((jw o (s.2.1.getD i dB)).length:Int)>1000 then ([],10,s,()) else
 (vE (s.2.1.getD k dB) (jw o (s.2.1.getD i dB)).length,0,(s.1,if o.1=6 then (s.2.1.set k (kE (s.2.1.getD k dB) (jw o (s.2.1.getD i dB)))).set i (Vd o (s.2.1.getD i dB)) else s.2.1.set k (kE (s.2.1.getD k dB) (jw o (s.2.1.getD i dB))),()),())
def carried (s:qM) (i:Nat) (o:OpC):List Int×Int×qM×Unit:=
 if xz s o.2.2.1<0 then ([],4,s,()) else if o.1=6∧xz s o.2.2.1=(i:Int) then ([],9,s,()) else FM s i (xz s o.2.2.1).toNat o
theorem wm {A:Type} {xs:List A} {k:Nat} (h:k<xs.length) (d:A):xs.getD k d∈xs:=by
 rw [getD_lt h]; exact abU h
theorem getD_set_ne {A:Type} {xs:List A} {i k:Nat} (h:k≠i) (y d:A):(xs.set k y).getD i d=xs.getD i d:=by
 rw [abF,abF,List.getElem?_set_ne h]
theorem Nh {n:Nat} {ms:List qI} {o:OpC} (hb:ms.length≤big) (ho:o.2.2.2.1.length≤big) (hn:big<n) :
  aQ n ms o=some (((ms.filter fun m=>!o.2.2.2.1.contains m.1).length:Int),(ms.filter fun m=>!o.2.2.2.1.contains m.1)++List.replicate (ms.length - (ms.filter fun m=>!o.2.2.2.1.contains m.1).length) dM,()):=by
 unfold big at hb ho hn
 show ry.Fu n ms o=_
 unfold ry.Fu
 rw [if_pos ⟨by omega,by omega,by omega,by omega⟩]
 rfl
theorem copied {n:Nat} {s:qM} {i:Nat} {o:OpC} (hs:Pm s) (ho:okO o) (hsm:∀b∈s.2.1,Mq b) (hi:i<s.2.1.length) (hn:big<n):nV n s (i:Int) o=some (carried s i o):=by
 unfold nV carried
 rw [box hs.1 hn]
 simp only [abt]
 rcases Ag s o.2.2.1 with h | ⟨k,h,hk⟩
 ·rw [h]; rfl
 ·rw [h]
  have h0:¬((k:Int)<0):=by omega
  rw [decide_eq_false h0,if_neg Bool.false_ne_true,if_neg h0]
  have hA:=hsm _ (wm hi dB)
  have hK:=hsm _ (wm hk dB)
  have Vr:=hs.2 _ (wm hi dB)
  have hKo:=hs.2 _ (wm hk dB)
  have hT:(jw o (s.2.1.getD i dB)).length≤6:=Nat.le_trans (List.length_filter_le _ _) hA.2
  have Zh:∀m∈jw o (s.2.1.getD i dB),RA m:=fun m hm=>Vr.2.2 m (abJ.1 hm).1
  have hK2:=hK.2
  have hK1:=hK.1
  have w1:IntKind.i64.wrap (((s.2.1.getD k dB).2.2.2.1.length:Int)+((jw o (s.2.1.getD i dB)).length:Int))=((s.2.1.getD k dB).2.2.2.1.length:Int)+((jw o (s.2.1.getD i dB)).length:Int):=wrap_i64 (by omega) (by omega)
  have w2:IntKind.i64.wrap ((s.2.1.getD k dB).2.2.1+((jw o (s.2.1.getD i dB)).length:Int))=(s.2.1.getD k dB).2.2.1+((jw o (s.2.1.getD i dB)).length:Int):=wrap_i64 (by omega) (by omega)
  have hlist:(s.2.1.getD i dB).2.2.2.1.filter (fun m=>o.2.2.2.1.contains m.1)=jw o (s.2.1.getD i dB):=rfl
  by_cases h6:o.1=6
  ·rw [decide_eq_true h6,if_pos rfl]
   by_cases he:(k:Int)=(i:Int)
   ·rw [decide_eq_true he,if_pos rfl,if_pos ⟨h6,he⟩]
   ·rw [decide_eq_false he,if_neg Bool.false_ne_true,if_neg (show ¬(o.1=6∧(k:Int)=(i:Int)) from fun h=>he h.2),if_pos (cO hi)]
    simp only [abC]
    refine (BK (s:=s) (o:=o) (a:=(i:Int)) (b:=(k:Int)) (ms:=(s.2.1.getD i dB).2.2.2.1) (fun _ _=>rfl) Vr.2.1 ho.2.2.1 hn).trans ?_
    simp only [if_pos (cO hk),abC,hlist,w1]
    unfold FM
    by_cases c1:(s.2.1.getD k dB).2.2.2.1.length+(jw o (s.2.1.getD i dB)).length>6
    ·have c1':((s.2.1.getD k dB).2.2.2.1.length:Int)+((jw o (s.2.1.getD i dB)).length:Int)>6:=by omega
     simp only [c1,c1',decide_true,if_true]
    ·have c1':¬(((s.2.1.getD k dB).2.2.2.1.length:Int)+((jw o (s.2.1.getD i dB)).length:Int)>6):=by omega
     have hlen:fC n (jw o (s.2.1.getD i dB))=some (((jw o (s.2.1.getD i dB)).length:Int),()):=rfl
     simp only [c1,c1',decide_false,abv,if_false,hlen,abt,w2]
     by_cases c2:(s.2.1.getD k dB).2.2.1+((jw o (s.2.1.getD i dB)).length:Int)>1000
     ·simp only [c2,decide_true,if_true]
     ·simp only [c2,decide_false,abv,if_false]
      refine (zf (s:=s) (k:=k) (l:=jw o (s.2.1.getD i dB)) (b:=s.2.1.getD k dB) (fun _ _=>rfl) hk rfl Zh hT hK1.1 hK1.2 hK2 hn).trans ?_
      have hki:k≠i:=fun h=>he (by omega)
      have hi2:i<(s.2.1.set k (kE (s.2.1.getD k dB) (jw o (s.2.1.getD i dB)))).length:=by simpa using hi
      simp only [h6,decide_true,if_true,if_pos (cO hi2),abC,GI,getD_set_ne hki,Nh Vr.2.1 ho.2.2.1 hn,abt,List.set_set,EY hi2,List.take_left']
      rfl
  ·rw [decide_eq_false h6,if_neg Bool.false_ne_true,if_neg (show ¬(o.1=6∧(k:Int)=(i:Int)) from fun h=>h6 h.1),if_pos (cO hi)]
   simp only [abC]
   refine (BK (s:=s) (o:=o) (a:=(i:Int)) (b:=(k:Int)) (ms:=(s.2.1.getD i dB).2.2.2.1) (fun _ _=>rfl) Vr.2.1 ho.2.2.1 hn).trans ?_
   simp only [if_pos (cO hk),abC,hlist,w1]
   unfold FM
   by_cases c1:(s.2.1.getD k dB).2.2.2.1.length+(jw o (s.2.1.getD i dB)).length>6
   ·have c1':((s.2.1.getD k dB).2.2.2.1.length:Int)+((jw o (s.2.1.getD i dB)).length:Int)>6:=by omega
    simp only [c1,c1',decide_true,if_true]
   ·have c1':¬(((s.2.1.getD k dB).2.2.2.1.length:Int)+((jw o (s.2.1.getD i dB)).length:Int)>6):=by omega
    have hlen:fC n (jw o (s.2.1.getD i dB))=some (((jw o (s.2.1.getD i dB)).length:Int),()):=rfl
    simp only [c1,c1',decide_false,abv,if_false,hlen,abt,w2]
    by_cases c2:(s.2.1.getD k dB).2.2.1+((jw o (s.2.1.getD i dB)).length:Int)>1000
    ·simp only [c2,decide_true,if_true]
    ·simp only [c2,decide_false,abv,if_false]
     refine (zf (s:=s) (k:=k) (l:=jw o (s.2.1.getD i dB)) (b:=s.2.1.getD k dB) (fun _ _=>rfl) hk rfl Zh hT hK1.1 hK1.2 hK2 hn).trans ?_
     simp only [h6,decide_false,abv,if_false]
abbrev Tz:=Int×List Int×qM×Unit
def bad (c:Int):Tz:=(c,[],(0,[],()),())
def Il (s:qM) (o:OpC):List Int×Int×qM×Unit:=
 if xz s o.2.1≥0 then ([],6,s,()) else if s.2.1.length=3 then ([],10,s,()) else if s.1=1000 then ([],10,s,()) else ([],0,(s.1+1,s.2.1++[(o.2.1,s.1,1,[],())],()),())
def Bc (r:List Int×Int×qM×Unit):Tz:=if r.2.1=0 then (0,r.1,r.2.2.1,()) else bad r.2.1
structure Fit (s:qM) (o:OpC):Prop where
 Pm:Pm s
 okO:okO o
 val:1≤s.1∧s.1≤1000
 few:s.2.1.length≤3
 small:∀b∈s.2.1,Mq b
 mode:o.1=4→1≤o.2.2.2.2.1∧o.2.2.2.2.1≤3
theorem made {n:Nat} {s:qM} {o:OpC} (h:Fit s o) (hn:big<n):p9 n s o.2.1=some ((Il s o).2.1,(Il s o).2.2.1,())∧(Il s o).1=[]:=by
 have hf:=h.few
 have hv:=h.val
 unfold p9 Il
 rw [box h.Pm.1 hn]
 simp only [abt]
 by_cases c0:xz s o.2.1≥0
 ·simp only [c0,decide_true,if_true,and_self]
 ·simp only [c0,decide_false,abv,if_false]
  by_cases c1:s.2.1.length=3
  ·simp only [c1,if_true]
   exact ⟨rfl,trivial⟩
  ·have:¬(s.2.1.length:Int)=3:=by omega
   simp only [c1,this,decide_false,abv,if_false]
   by_cases c2:s.1=1000
   ·simp only [c2,decide_true,if_true,and_self]
   ·simp only [c2,decide_false,abv,if_false,abM,and_true]
    rw [if_pos (by omega),wrap_i64 (by omega) (by omega)]
theorem copies {n:Nat} (k:Int):eO n k=some (decide (k=5) || decide (k=6),()):=by
 unfold eO
 cases decide (k=5) <;> rfl
theorem OW {n:Nat} (o:OpC):nR n o=some (decide (o.1=5) || decide (o.1=6),()):=copies (n:=n) o.1
theorem Nz {n:Nat} (o:OpC):jU n o=some ((decide (o.1=5) || decide (o.1=6)) || decide (o.1=4),()):=by
 unfold jU
 rw [OW]
 simp only [abt]
 cases (decide (o.1=5) || decide (o.1=6)) <;> rfl
theorem Qd (k:Nat):decide ((k:Int)>0)=!decide ((k:Int)=0):=by
 by_cases h:k=0
 ·subst h; rfl
 ·rw [decide_eq_true (by omega),decide_eq_false (by omega)]; rfl
def HY (o:OpC):Bool:=(((decide (o.1=5) || decide (o.1=6)) || decide (o.2.2.1=[])) && ((((decide (o.1=5) || decide (o.1=6)) || decide (o.1=4)) || decide ((o.2.2.2.1.length:Int)=0)) && ((decide (o.1=4) || decide (o.2.2.2.2.1=0)) &&
 ((decide (o.1=4) || (decide (o.1=3) || decide (o.2.2.2.2.2.1=0))) && (decide (o.1=3) || (decide (o.2.2.2.2.2.2.1=0) && decide ((o.2.2.2.2.2.2.2.1.length:Int)=0)))))))
set_option maxRecDepth 20000 in
theorem only {n:Nat} (o:OpC):qK n o=some (HY o,()):=by
 unfold qK HY
 simp only [OW,Nz,abt]
 generalize (decide (o.1=5) || decide (o.1=6))=c
 generalize decide (o.2.2.1=[])=b1
 generalize decide (o.1=4)=b2
 generalize decide ((o.2.2.2.1.length:Int)=0)=b3
 generalize decide (o.2.2.2.2.1=0)=b4
 generalize decide (o.1=3)=b5
 generalize decide (o.2.2.2.2.2.1=0)=b6
 generalize decide (o.2.2.2.2.2.2.1=0)=b7
 generalize decide ((o.2.2.2.2.2.2.2.1.length:Int)=0)=b8
 revert c b1 b2 b3 b4 b5 b6 b7 b8
 decide +kernel
set_option maxRecDepth 20000 in
theorem form {n:Nat} (o:OpC):uM n o=some (decide (1≤o.1∧o.1≤7) && HY o,()):=by
 unfold uM HY
 simp only [Et,copies,abt,Qd]
 generalize (decide (o.1=5) || decide (o.1=6))=c
 generalize decide (o.2.2.1=[])=b1
 generalize decide (o.1=4)=b2
 generalize decide ((o.2.2.2.1.length:Int)=0)=b3
 generalize decide (o.2.2.2.2.1=0)=b4
 generalize decide (o.1=3)=b5
 generalize decide (o.2.2.2.2.2.1=0)=b6
 generalize decide (o.2.2.2.2.2.2.1=0)=b7
 generalize decide ((o.2.2.2.2.2.2.2.1.length:Int)=0)=b8
 generalize decide (1≤o.1∧o.1≤7)=b9
 revert c b1 b2 b3 b4 b5 b6 b7 b8 b9
 decide +kernel
end Go.Proofs.Ytabnmpabdhmkoaa.vO
