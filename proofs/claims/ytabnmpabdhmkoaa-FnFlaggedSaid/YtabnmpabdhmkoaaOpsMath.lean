/- Ops on stores: what the printed functions of both sides come to. -/
import Derived.Test.YtabnmpabdhmkoaaOwF
import Derived.Test.YtabnmpabdhmkoaaLoopLib
import Derived.Test.YtabnmpabdhmkoaaCutLib
import Derived.Test.YtabnmpabdhmkoaaTakeLib
import Derived.Test.YtabnmpabdhmkoaaStoreMath
import Derived.Test.YtabnmpabdhmkoaaFgF
set_option linter.unusedSectionVars false
set_option linter.unusedVariables false
set_option linter.unusedSimpArgs false
namespace Go.Proofs.Ytabnmpabdhmkoaa.lW
open Go Go.Proofs.Ytabnmpabdhmkoaa.Ow Go.Proofs.Ytabnmpabdhmkoaa.P9 Go.Proofs.Ytabnmpabdhmkoaa.qF Go.Proofs.Ytabnmpabdhmkoaa.oP
abbrev OpC:=Int×List Int×List Int×List Int×Int×Int×Int×List Int×Unit
def okO (o:OpC):Prop:=o.2.1.length≤big∧o.2.2.1.length≤big∧o.2.2.2.1.length≤big∧o.2.2.2.2.2.2.2.1.length≤big
theorem O5 {n:Nat} {bs:List Int} (h:bs.length≤big):mG n bs=some (bs,()):=by
 unfold big at h
 unfold mG
 rw [if_pos (by simp; omega)]
 rfl
theorem clone {n:Nat} {bs:List Int} (h:bs.length≤big):dN n bs=some (bs,()):=by
 unfold big at h
 unfold dN
 have hc:(([]:List Int).length+bs.length) * 1≤140737488355328:=by simp; omega
 simp only [if_pos hc]
 cases bs with
 | nil=>exact (if_pos (show ([]:List Int).isEmpty=true from rfl)).trans (ND (ks:=[.sl 5 (.int .u8)]) (some (([]:List Int),())))
 | cons b bs=>rfl
theorem JE {n:Nat} {ms:List lV} (hb:ms.length≤big) (h:∀m∈ms,Ng m) (hn:big<n):kR n ms=some (ms,()):=by
 have hb':=hb
 unfold big at hb
 unfold kR
 refine (bF (fun i=>(ms,(i:Int),ms.take i,())) (fun _=>none) (some (ms,())) (m:=ms.length) (by simp) (by omega) ?_ ?_).trans (eT (fun _ _ _=>rfl))
 ·intro L i hi _
  have ht:ms.take (i+1)=ms.take i++[ms[i]]:=by simp
  have hl:(ms.take i).length≤i:=by simp; omega
  simp only [agh,hi,decide_true,if_true,aT hi,nZ hi,bO hi (by omega),O5 (h ms[i] (agj hi)),afR,aga,ht]
  rw [if_pos (by omega)]
 ·intro L _
  simp
theorem ze {n:Nat} {b:Bx} (h:okB b) (hn:big<n):iO n b=some (b,()):=by
 unfold iO
 rw [JE h.2.1 h.2.2 hn]
 rfl
theorem O6 {n:Nat} {s:lu} (h:yJ s) (hn:big<n):mH n s=some (s,()):=by
 have hb:=h.1
 unfold big at hb
 unfold mH
 refine (bF (fun i=>((i:Int),s,(0,[],()),(s.1,s.2.1.take i,()),())) (fun _=>none) (some (s,())) (m:=s.2.1.length) (by simp) (by have:=h.1; omega) ?_ ?_).trans (eT (fun _ _ _=>rfl))
 ·intro L i hi _
  have ht:s.2.1.take (i+1)=s.2.1.take i++[s.2.1[i]]:=by simp
  have hl:(s.2.1.take i).length≤i:=by simp; omega
  simp only [agh,hi,decide_true,if_true,aT hi,nZ hi,bO hi (by omega),ze (h.2 _ (agj hi)) hn,afR,aga,ht]
  rw [if_pos (by omega)]
 ·intro L _
  simp
theorem own {n:Nat} {s:lu} (h:yJ s) (hn:big<n):lS n s=some (s,()):=by
 have hb:=h.1
 unfold big at hb
 unfold lS
 refine (bF (fun i=>(s.2.1,(s.2.1.length:Int),(i:Int),(0,[],()),(s.1,s.2.1.take i,()),())) (fun _=>none) (some (s,())) (m:=s.2.1.length) (by simp) (by have:=h.1; omega) ?_ ?_).trans (eT (fun _ _ _=>rfl))
 ·intro L i hi _
  have ht:s.2.1.take (i+1)=s.2.1.take i++[s.2.1[i]]:=by simp
  have hl:(s.2.1.take i).length≤i:=by simp; omega
  simp only [agh,hi,decide_true,if_true,aT hi,nZ hi]
  have hB:=h.2 _ (agj hi)
  generalize s.2.1[i]=b at hB ht ⊢
  have hb2:=hB.2.1
  unfold big at hb2
  refine (bF (fun j=>(s.2.1,(s.2.1.length:Int),(i:Int),b.2.2.2.1,(b.2.2.2.1.length:Int),(j:Int),(0,[],()),(s.1,s.2.1.take i,()),(b.1,b.2.1,b.2.2.1,b.2.2.2.1.take j,()),())) (fun _=>none) (L (s.2.1,(s.2.1.length:Int),((i+1:Nat):Int),(0,[],()),(s.1,s.2.1.take (i+1),()),())) (m:=b.2.2.2.1.length) (by simp) (by have:=hB.2.1; omega) ?_ ?_).trans (eT (fun _ _ _=>rfl))
  ·intro L2 j hj _
   have htj:b.2.2.2.1.take (j+1)=b.2.2.2.1.take j++[b.2.2.2.1[j]]:=by simp
   have hlj:(b.2.2.2.1.take j).length≤j:=by simp; omega
   simp only [agh,hj,decide_true,if_true,aT hj,nZ hj,bO hj (by omega),clone (hB.2.2 _ (agj hj)),afR,aga,htj]
   rw [if_pos (by omega)]
  ·intro L2 _
   simp only [Int.lt_irrefl,decide_false,afT,if_false,List.take_length,aga,bO hi (by omega),ht]
   rw [if_pos (by omega)]
 ·intro L _
  simp
def rU (s:lu) (nm:List Int):Int:=if s.2.1.findIdx (fun b=>decide (b.1=nm))<s.2.1.length then ((s.2.1.findIdx (fun b=>decide (b.1=nm)):Nat):Int) else -1
theorem jE (s:lu) (nm:List Int):rU s nm=-1∨∃i:Nat,rU s nm=(i:Int)∧i<s.2.1.length:=by
 unfold rU
 split
 ·exact .inr ⟨_,rfl,by assumption⟩
 ·exact .inl rfl
theorem UN {n:Nat} {s:lu} {nm:List Int} (hb:s.2.1.length≤big) (hn:big<n):nA n s nm=some (rU s nm,()):=by
 have hb':=hb
 unfold big at hb
 unfold nA
 refine (bF (fun i=>(s,nm,(i:Int),())) (fun j=>if decide ((s.2.1.getD j dB).1=nm)=true then some (some ((j:Int),())) else none) (some (-1,())) (m:=s.2.1.length) rfl (by omega) ?_ ?_).trans ?_
 ·intro L i hi _
  simp only [agh,hi,decide_true,if_true,aT hi,af0,bO hi (by omega)]
  split <;> rfl
 ·intro L _
  simp
 ·rw [jK.uH (p:=fun b:Bx=>decide (b.1=nm)) (r:=fun j=>some ((j:Int),())) s.2.1.length 0 (by omega)]
  simp only [List.drop_zero,Nat.zero_add]
  unfold rU
  split <;> rfl
theorem box {n:Nat} {s:lu} {nm:List Int} (hb:s.2.1.length≤big) (hn:big<n):gB n s nm=some (rU s nm,()):=by
 unfold gB
 have h:bY n s.2.1 nm=some (_,()):=jK.wY (p:=fun b:Bx=>decide (b.1=nm)) (q:=fun c x=>mX n x c) (d:=dB) (fun _ _=>rfl) (fun _=>rfl) (by unfold big at hb; omega) (by omega)
 rw [h]
 rfl
theorem has {n:Nat} {us:List Int} {x:Int} (hb:us.length≤big) (hn:big<n):kg n us x=some (us.contains x,()):=
 iE.BU (fun _ _=>rfl) (by unfold big at hb; omega) (by omega)
theorem contains {n:Nat} {us:List Int} {x:Int} (hb:us.length≤big) (hn:big<n):aU n us x=some (us.contains x,()):=
 jK.EZ (fun _ _=>rfl) (by unfold big at hb; omega) (by omega)
def rV (b:Bx) (m:lV):Bx:=(b.1,b.2.1,b.2.2.1+1,b.2.2.2.1++[(b.2.2.1,m.2.1,m.2.2.1,m.2.2.2.1,())],())
theorem Ia {n:Nat} {b:Bx} {m:lV} (hm:Ng m) (h1:0≤b.2.2.1) (h2:b.2.2.1≤2000) (h3:b.2.2.2.1.length≤2000):ko n b m=some (b.2.2.1,rV b m,()):=by
 unfold ko
 rw [O5 hm]
 simp only [afR,aga]
 rw [if_pos (by omega),wrap_i64 (by omega) (by omega)]
 rfl
theorem H9 {n:Nat} {b:Bx} {m:lV} (hm:Ng m) (h1:0≤b.2.2.1) (h2:b.2.2.1≤2000) (h3:b.2.2.2.1.length≤2000):nL n b m=some (b.2.2.1,rV b m,()):=by
 unfold nL
 rw [clone hm]
 simp only [afR,aga]
 rw [if_pos ⟨trivial,by omega⟩,wrap_i64 (x:=b.2.2.1+1) (by omega) (by omega),show b.2.2.1+1 - 1=b.2.2.1 by omega,wrap_i64 (by omega) (by omega)]
 rfl
theorem MU {n:Nat} {b:Bx} {m:lV} (hm:Ng m) (h1:0≤b.2.2.1) (h2:b.2.2.1≤2000) (h3:b.2.2.2.1.length≤2000):jq n b m=some (b.2.2.1,rV b m,()):=H9 hm h1 h2 h3
def turn (was mode fl:Int):Int:=
 if mode=2 then IntKind.i64.wrap ((BitVec.ofInt (IntKind.bits .i64) was ||| BitVec.ofInt (IntKind.bits .i64) fl).toNat) else if mode=3 then IntKind.i64.wrap ((BitVec.ofInt (IntKind.bits .i64) was &&& ~~~ BitVec.ofInt (IntKind.bits .i64) fl).toNat) else fl
def ji (o:OpC) (m:lV):lV:=if o.2.2.2.1.contains m.1=true then (m.1,turn m.2.1 o.2.2.2.2.1 o.2.2.2.2.2.1,m.2.2) else m
def BL (o:OpC) (b:Bx):Bx:=(b.1,b.2.1,b.2.2.1,b.2.2.2.1.map (ji o),())
def DU (o:OpC) (b:Bx):List Int:=(b.2.2.2.1.filter fun m=>o.2.2.2.1.contains m.1).map (·.1)
theorem flags {n:Nat} (a m f:Int):nT n a m f=some (turn a m f,()):=by
 unfold nT turn
 by_cases h2:m=2
 ·simp [h2]
 ·by_cases h3:m=3 <;> simp [h2,h3]
theorem Fz {A:Type} {p:A→Bool} {x:A} (h:p x=false):[x].filter p=[]:=by simp [List.filter_cons,h]
theorem one_pos {A:Type} {p:A→Bool} {x:A} (h:p x=true):[x].filter p=[x]:=by simp [List.filter_cons,h]
theorem Ij {A:Type} {f:A→A} {xs:List A} {i:Nat} (hi:i<xs.length) (h:f xs[i]=xs[i]):(xs.map f).take i++xs.drop i=(xs.map f).take (i+1)++xs.drop (i+1):=by
 have h1:=Fv (xs:=xs) (ys:=xs.map f) (by simp) hi xs[i] (by simp [h])
 rw [←h1]
 symm
 have hl:i<((xs.map f).take i++xs.drop i).length:=by simp; omega
 have hg:=Fu (xs:=xs) (ys:=xs.map f) (by simp) hi xs[i]
 rw [af3,af4 hl] at hg
 simp only [Option.getD_some] at hg
 conv=>lhs; rw [←hg]
 exact List.set_getElem_self hl
theorem LZ {n:Nat} {b:Bx} {o:OpC} (hb:b.2.2.2.1.length≤big) (ho:o.2.2.2.1.length≤big) (hn:big<n):pK n b o=some (DU o b,BL o b,()):=by
 have hb':=hb
 unfold big at hb
 unfold pK
 obtain ⟨nm,va,ne,ms,u⟩:=b
 have hb:ms.length≤1048576:=hb
 refine (bF (fun i=>(o,(i:Int),(nm,va,ne,(ms.map (ji o)).take i++ms.drop i,()),((ms.take i).filter fun m=>o.2.2.2.1.contains m.1).map (·.1),())) (fun _=>none) (some (DU o (nm,va,ne,ms,()),BL o (nm,va,ne,ms,()),())) (m:=ms.length) (by simp) (by unfold big at hn; omega) ?_ ?_).trans (eT (fun _ _ _=>rfl))
 ·intro L i hi _
  have hy:(ms.map (ji o)).length=ms.length:=by simp
  have hlen:=KT (xs:=ms) (ys:=ms.map (ji o)) hy (Nat.le_of_lt hi)
  have hget:=Fu (xs:=ms) (ys:=ms.map (ji o)) hy hi dM
  have ht:ms.take (i+1)=ms.take i++[ms[i]]:=by simp
  have hl1:(((ms.take i).filter fun m=>o.2.2.2.1.contains m.1).map (·.1)).length≤i:=by
   rw [List.length_map]; exact Nat.le_trans (List.length_filter_le _ _) (by simp; omega)
  simp only [hlen,agh,hi,decide_true,if_true,aT hi,af0,xx,hget,has ho hn,afR,flags,bO hi (by omega)]
  cases hc:o.2.2.2.1.contains ms[i].1 with
  | false=>
   have hf:ji o ms[i]=ms[i]:=by unfold ji; rw [hc]; rfl
   rw [if_neg Bool.false_ne_true,Ij hi hf,ht,List.filter_append,Fz (p:=fun m:lV=>o.2.2.2.1.contains m.1) hc,agk]
  | true=>
   have hset:=Fv (xs:=ms) (ys:=ms.map (ji o)) hy hi (ms[i].1,turn ms[i].2.1 o.2.2.2.2.1 o.2.2.2.2.2.1,ms[i].2.2) (by rw [List.getElem_map]; unfold ji; rw [if_pos hc])
   have hgs:((ms.map (ji o)).take (i+1)++ms.drop (i+1)).getD i dM=(ms[i].1,turn ms[i].2.1 o.2.2.2.2.1 o.2.2.2.2.2.1,ms[i].2.2):=by
    rw [←hset,af3,List.getElem?_set_self (by omega)]; rfl
   simp only [if_true,hset,hgs,aga]
   rw [if_pos (by omega),ht,List.filter_append,one_pos (p:=fun m:lV=>o.2.2.2.1.contains m.1) hc,List.map_append]
   rfl
 ·intro L _
  have ht:(ms.map (ji o)).take ms.length=ms.map (ji o):=List.take_of_length_le (by simp)
  simp only [ht,List.length_map,Int.lt_irrefl,decide_false,afT,if_false,List.take_length,List.drop_length,agk]
  rfl
theorem LY {n:Nat} {b:Bx} {o:OpC} (hb:b.2.2.2.1.length≤big) (ho:o.2.2.2.1.length≤big) (hn:big<n) (hm:1≤o.2.2.2.2.1∧o.2.2.2.2.1≤3):jX n b o=some (DU o b,BL o b,()):=by
 have hb':=hb
 unfold big at hb
 unfold jX
 obtain ⟨nm,va,ne,ms,u⟩:=b
 have hb:ms.length≤1048576:=hb
 refine (bF (fun i=>((ms.length:Int),(i:Int),(nm,va,ne,(ms.map (ji o)).take i++ms.drop i,()),o,((ms.take i).filter fun m=>o.2.2.2.1.contains m.1).map (·.1),())) (fun _=>none) (some (DU o (nm,va,ne,ms,()),BL o (nm,va,ne,ms,()),())) (m:=ms.length) (by simp) (by unfold big at hn; omega) ?_ ?_).trans (eT (fun _ _ _=>rfl))
 ·intro L i hi _
  have hy:(ms.map (ji o)).length=ms.length:=by simp
  have hlen:=KT (xs:=ms) (ys:=ms.map (ji o)) hy (Nat.le_of_lt hi)
  have hget:=Fu (xs:=ms) (ys:=ms.map (ji o)) hy hi dM
  have ht:ms.take (i+1)=ms.take i++[ms[i]]:=by simp
  have hl1:(((ms.take i).filter fun m=>o.2.2.2.1.contains m.1).map (·.1)).length≤i:=by
   rw [List.length_map]; exact Nat.le_trans (List.length_filter_le _ _) (by simp; omega)
  simp only [hlen,agh,hi,decide_true,if_true,aT hi,af0,xx,hget,contains ho hn,afR,bO hi (by omega)]
  cases hc:o.2.2.2.1.contains ms[i].1 with
  | false=>
   have hf:ji o ms[i]=ms[i]:=by unfold ji; rw [hc]; rfl
   rw [agu,if_pos rfl,Ij hi hf,ht,List.filter_append,Fz (p:=fun m:lV=>o.2.2.2.1.contains m.1) hc,agk]
  | true=>
   have hset:=Fv (xs:=ms) (ys:=ms.map (ji o)) hy hi (ms[i].1,turn ms[i].2.1 o.2.2.2.2.1 o.2.2.2.2.2.1,ms[i].2.2) (by rw [List.getElem_map]; unfold ji; rw [if_pos hc])
   rw [agi,if_neg Bool.false_ne_true]
   simp only [aga]
   rw [if_pos (by omega),ht,List.filter_append,one_pos (p:=fun m:lV=>o.2.2.2.1.contains m.1) hc,List.map_append, ←hset]
   unfold turn
   by_cases h1:o.2.2.2.2.1=1
   ·simp [h1]
   ·by_cases h2:o.2.2.2.2.1=2
    ·simp [h2]
    ·have h3:o.2.2.2.2.1=3:=by omega
     simp [h3]
 ·intro L _
  have ht:(ms.map (ji o)).take ms.length=ms.map (ji o):=List.take_of_length_le (by simp)
  simp only [ht,Int.lt_irrefl,decide_false,afT,if_false,List.take_length,List.drop_length,agk]
  rfl
theorem MR (us:List Int) (u f:Int):iE.pick us 0 u f=us.contains u:=by
 unfold iE.pick
 rw [show BitVec.ofInt (IntKind.bits .i64) f &&& BitVec.ofInt (IntKind.bits .i64) 0=BitVec.ofInt (IntKind.bits .i64) 0 from BitVec.and_zero]
 have:(IntKind.i64.wrap ((BitVec.ofInt (IntKind.bits .i64) 0).toNat:Int))=0:=by decide
 rw [this]
 simp
def Ob (b:Bx):List Int:=(b.2.2.2.1.filter fun m=>gy.del m.2.1).map (·.1)
def O8 (b:Bx):Bx:=(b.1,b.2.1,b.2.2.1,b.2.2.2.1.filter (fun m=>!gy.del m.2.1),())
theorem U2 {n:Nat} {b:Bx} (hb:b.2.2.2.1.length≤big) (hn:big<n):fM n b=some (Ob b,O8 b,()):=by
 unfold big at hb hn
 show gy.tH n b=_
 unfold gy.tH
 rw [if_pos ⟨by omega,by omega⟩]
 rfl
theorem M4 {n:Nat} {b:Bx} (hb:b.2.2.2.1.length≤big) (hn:big<n):fK n b [] 8=some (b.2.2.2.1.filter (fun m=>gy.del m.2.1),O8 b,()):=by
 unfold big at hb hn
 show iE.ve iE.pick n b [] 8=_
 unfold iE.ve
 rw [if_pos ⟨by omega,by omega,by simp,by simp; omega⟩]
 rfl
def cZ (o:OpC) (b:Bx):List lV:=b.2.2.2.1.filter fun m=>o.2.2.2.1.contains m.1
def SB (o:OpC) (b:Bx):Bx:=(b.1,b.2.1,b.2.2.1,b.2.2.2.1.filter (fun m=>!o.2.2.2.1.contains m.1),())
theorem Er {n:Nat} {b:Bx} {o:OpC} (hb:b.2.2.2.1.length≤big) (ho:o.2.2.2.1.length≤big) (hn:big<n):fK n b o.2.2.2.1 0=some (cZ o b,SB o b,()):=by
 have hb':=hb
 have ho':=ho
 unfold big at hb ho hn
 show iE.ve iE.pick n b o.2.2.2.1 0=_
 unfold iE.ve
 rw [if_pos ⟨by omega,by omega,by omega,by omega⟩]
 simp only [MR]
 rfl
def eZ (b:Bx) (l:List lV):Bx:=l.foldl rV b
def tq (b:Bx):Nat→List Int
 | 0=>[]
 | k+1=>tq b k++[b.2.2.1+(k:Int)]
theorem pR (b:Bx):∀k,(tq b k).length=k
 | 0=>rfl
 | k+1=>by simp [tq,pR b k]
theorem H8 (b:Bx) (l:List lV) (m:lV):eZ b (l++[m])=rV (eZ b l) m:=by simp [eZ]
theorem zY (b:Bx):∀l:List lV,(eZ b l).2.2.1=b.2.2.1+(l.length:Int)∧(eZ b l).2.2.2.1.length=b.2.2.2.1.length+l.length:=by
 intro l
 induction l generalizing b with
 | nil=>simp [eZ]
 | cons m l ih=>
  have:=ih (rV b m)
  simp only [eZ,List.foldl_cons,agd] at this ⊢
  rw [this.1,this.2]
  simp [rV]
  omega
theorem Ee {l:List lV}:∀{b:Bx},okB b→(∀m∈l,Ng m)→b.2.2.2.1.length+l.length≤big→okB (eZ b l):=by
 induction l with
 | nil=>intro b h _ _; exact h
 | cons m l ih=>
  intro b h hl hb
  simp only [agd] at hb
  refine ih (b:=rV b m) ⟨h.1, ?_, ?_⟩ (fun x hx=>hl x (by simp [hx])) ?_
  ·simp only [rV,afY,aga]; omega
  ·intro x hx
   simp only [rV,afZ,af9] at hx
   rcases hx with hx | rfl
   ·exact h.2.2 x hx
   ·exact hl m (by simp)
  ·simp only [rV,afY,aga]; omega
theorem qg {A:Type} {xs:List A} {k:Nat} (h:k<xs.length) (y d:A):(xs.set k y).getD k d=y:=by
 rw [af3,List.getElem?_set_self h]; rfl
theorem getD_lt {A:Type} {xs:List A} {k:Nat} (h:k<xs.length) (d:A):xs.getD k d=xs[k]:=by
 rw [af3,af4 h]; rfl
theorem PS {A:Type} {xs:List A} {k:Nat} (h:k<xs.length) (d:A):xs.set k (xs.getD k d)=xs:=by
 rw [af3,af4 h]
 exact List.set_getElem_self h
theorem Ib {s:lu} {k j:Nat} {l:List lV} {b:Bx} (hk:k<s.2.1.length) (hj:j<l.length) :
  ((s.2.1.set k (eZ b (l.take j))).set k (rV (eZ b (l.take j)) l[j]))=s.2.1.set k (eZ b (l.take (j+1))):=by
 rw [List.set_set, ←H8]
 congr 2
 simp
theorem Bn {n:Nat} {s:lu} {at':Int} {k:Nat} {o:OpC} {part:Bx} {l:List lV} {b:Bx} {fin:Int×OpC×Int×Int×lu×Bx×List lV×List Int×Unit→Option (List Int×Int×lu×Unit)}
  {B:(Int×OpC×Int×Int×lu×Bx×List lV×List Int×Unit→Option (List Int×Int×lu×Unit))→Int×OpC×Int×Int×lu×Bx×List lV×List Int×Unit→Option (List Int×Int×lu×Unit)}
  (hB:∀L v,B L v=(if decide (v.2.2.2.1<(v.2.2.2.2.2.2.1.length:Int))=true then (if aM v.2.2.2.1 v.2.2.2.2.2.2.1.length then ((ko n (v.2.2.2.2.1.2.1.getD v.2.2.1.toNat dB) (v.2.2.2.2.2.2.1.getD v.2.2.2.1.toNat dM)).bind fun r5=>(if (v.2.2.2.2.2.2.2.1.length+[r5.1].length) * 8≤140737488355328 then L (v.1,v.2.1,v.2.2.1,IntKind.i64.wrap (v.2.2.2.1+(1:Int)),(v.2.2.2.2.1.1,v.2.2.2.2.1.2.1.set v.2.2.1.toNat r5.2.1,v.2.2.2.2.1.2.2),v.2.2.2.2.2.1,v.2.2.2.2.2.2.1,v.2.2.2.2.2.2.2.1++[r5.1],()) else none)) else none) else fin v))
  (hk:k<s.2.1.length) (hb:s.2.1.getD k dB=b) (hl:∀m∈l,Ng m) (hl6:l.length≤6) (h1:0≤b.2.2.1) (h2:b.2.2.1≤1000) (h3:b.2.2.2.1.length≤6) (hn:big<n) :
  rounds B n (at',o,(k:Int),(0:Int),s,part,l,[],())=fin (at',o,(k:Int),(l.length:Int),(s.1,s.2.1.set k (eZ b l),()),part,l,tq b l.length,()):=by
 have hn':1048576<n:=hn
 refine (bF (fun j=>(at',o,(k:Int),(j:Int),(s.1,s.2.1.set k (eZ b (l.take j)),()),part,l,tq b j,())) (fun _=>none) (fin (at',o,(k:Int),(l.length:Int),(s.1,s.2.1.set k (eZ b l),()),part,l,tq b l.length,())) (m:=l.length) ?_ (by omega) ?_ ?_).trans (eT (fun _ _ _=>rfl))
 ·rw [List.take_zero]
  show _=(_,_,_,_,(s.1,s.2.1.set k b,()),_,_,[],())
  rw [←hb,PS hk]
  rfl
 ·intro L j hj _
  have hp:=zY b (l.take j)
  have hlt:(l.take j).length=j:=by simp; omega
  rw [hlt] at hp
  have hput:=Ia (n:=n) (b:=eZ b (l.take j)) (m:=l[j]) (hl _ (agj hj)) (by rw [hp.1]; omega) (by rw [hp.1]; omega) (by rw [hp.2]; omega)
  simp only [hB,agh,hj,decide_true,if_true,aT hj,af0,getD_lt hj,qg hk,hput,afR,bO hj (by omega),pR,aga,Ib hk hj]
  rw [if_pos (by omega),hp.1]
  rfl
 ·intro L _
  simp only [hB,Int.lt_irrefl,decide_false,afT,if_false,List.take_length]
theorem Bl {n:Nat} {s:lu} {at':Int} {k:Nat} {o:OpC} {l:List lV} {b:Bx} {fin:Int×Int×Int×Int×lu×OpC×List lV×List Int×Unit→Option (List Int×Int×lu×Unit)}
  {B:(Int×Int×Int×Int×lu×OpC×List lV×List Int×Unit→Option (List Int×Int×lu×Unit))→Int×Int×Int×Int×lu×OpC×List lV×List Int×Unit→Option (List Int×Int×lu×Unit)}
  (hB:∀L v,B L v=(if decide (v.2.2.2.1<v.2.2.1)=true then (if aM v.2.2.2.1 v.2.2.2.2.2.2.1.length then ((jq n (v.2.2.2.2.1.2.1.getD v.2.1.toNat dB) (v.2.2.2.2.2.2.1.getD v.2.2.2.1.toNat dM)).bind fun r6=>(if (v.2.2.2.2.2.2.2.1.length+[r6.1].length) * 8≤140737488355328 then L (v.1,v.2.1,v.2.2.1,IntKind.i64.wrap (v.2.2.2.1+(1:Int)),(v.2.2.2.2.1.1,v.2.2.2.2.1.2.1.set v.2.1.toNat r6.2.1,v.2.2.2.2.1.2.2),v.2.2.2.2.2.1,v.2.2.2.2.2.2.1,v.2.2.2.2.2.2.2.1++[r6.1],()) else none)) else none) else fin v))
  (hk:k<s.2.1.length) (hb:s.2.1.getD k dB=b) (hl:∀m∈l,Ng m) (hl6:l.length≤6) (h1:0≤b.2.2.1) (h2:b.2.2.1≤1000) (h3:b.2.2.2.1.length≤6) (hn:big<n) :
  rounds B n (at',(k:Int),(l.length:Int),(0:Int),s,o,l,[],())=fin (at',(k:Int),(l.length:Int),(l.length:Int),(s.1,s.2.1.set k (eZ b l),()),o,l,tq b l.length,()):=by
 have hn':1048576<n:=hn
 refine (bF (fun j=>(at',(k:Int),(l.length:Int),(j:Int),(s.1,s.2.1.set k (eZ b (l.take j)),()),o,l,tq b j,())) (fun _=>none) (fin (at',(k:Int),(l.length:Int),(l.length:Int),(s.1,s.2.1.set k (eZ b l),()),o,l,tq b l.length,())) (m:=l.length) ?_ (by omega) ?_ ?_).trans (eT (fun _ _ _=>rfl))
 ·rw [List.take_zero]
  show _=(_,_,_,_,(s.1,s.2.1.set k b,()),_,_,[],())
  rw [←hb,PS hk]
  rfl
 ·intro L j hj _
  have hp:=zY b (l.take j)
  have hlt:(l.take j).length=j:=by simp; omega
  rw [hlt] at hp
  have hput:=MU (n:=n) (b:=eZ b (l.take j)) (m:=l[j]) (hl _ (agj hj)) (by rw [hp.1]; omega) (by rw [hp.1]; omega) (by rw [hp.2]; omega)
  simp only [hB,agh,hj,decide_true,if_true,aT hj,af0,getD_lt hj,qg hk,hput,afR,bO hj (by omega),pR,aga,Ib hk hj]
  rw [if_pos (by omega),hp.1]
  rfl
 ·intro L _
  simp only [hB,Int.lt_irrefl,decide_false,afT,if_false,List.take_length]
theorem D8 {n:Nat} {ms:List lV} {o:OpC} {a b:Int} {s:lu} {fin:Int×Int×List lV×Int×Int×lu×OpC×List lV×Unit→Option (List Int×Int×lu×Unit)}
  {B:(Int×Int×List lV×Int×Int×lu×OpC×List lV×Unit→Option (List Int×Int×lu×Unit))→Int×Int×List lV×Int×Int×lu×OpC×List lV×Unit→Option (List Int×Int×lu×Unit)}
  (hB:∀L v,B L v=(if decide (v.2.2.2.2.1<v.2.2.2.1)=true then (if aM v.2.2.2.2.1 v.2.2.1.length then ((aU n v.2.2.2.2.2.2.1.2.2.2.1 ((v.2.2.1.getD v.2.2.2.2.1.toNat dM).1)).bind fun r3=>(if r3.1=true then (if (v.2.2.2.2.2.2.2.1.length+[v.2.2.1.getD v.2.2.2.2.1.toNat dM].length) * 48≤140737488355328 then L (v.1,v.2.1,v.2.2.1,v.2.2.2.1,IntKind.i64.wrap (v.2.2.2.2.1+(1:Int)),v.2.2.2.2.2.1,v.2.2.2.2.2.2.1,v.2.2.2.2.2.2.2.1++[v.2.2.1.getD v.2.2.2.2.1.toNat dM],()) else none) else L (v.1,v.2.1,v.2.2.1,v.2.2.2.1,IntKind.i64.wrap (v.2.2.2.2.1+(1:Int)),v.2.2.2.2.2.1,v.2.2.2.2.2.2.1,v.2.2.2.2.2.2.2.1,()))) else none) else fin v))
  (hb:ms.length≤big) (ho:o.2.2.2.1.length≤big) (hn:big<n) :
  rounds B n (a,b,ms,(ms.length:Int),(0:Int),s,o,[],())=fin (a,b,ms,(ms.length:Int),(ms.length:Int),s,o,ms.filter (fun m=>o.2.2.2.1.contains m.1),()):=by
 have hb':ms.length≤1048576:=hb
 refine (bF (fun i=>(a,b,ms,(ms.length:Int),(i:Int),s,o,(ms.take i).filter (fun m=>o.2.2.2.1.contains m.1),())) (fun _=>none) (fin (a,b,ms,(ms.length:Int),(ms.length:Int),s,o,ms.filter (fun m=>o.2.2.2.1.contains m.1),())) (m:=ms.length) (by simp) (by omega) ?_ ?_).trans (eT (fun _ _ _=>rfl))
 ·intro L i hi _
  have ht:ms.take (i+1)=ms.take i++[ms[i]]:=by simp
  have hl:((ms.take i).filter fun m=>o.2.2.2.1.contains m.1).length≤i:=Nat.le_trans (List.length_filter_le _ _) (by simp; omega)
  simp only [hB,agh,hi,decide_true,if_true,aT hi,nZ hi,contains ho hn,afR,bO hi (by omega),aga,ht,List.filter_append]
  cases hc:o.2.2.2.1.contains ms[i].1 with
  | false=>rw [if_neg Bool.false_ne_true,Fz (p:=fun m:lV=>o.2.2.2.1.contains m.1) hc,agk]
  | true=>rw [if_pos rfl,if_pos (by omega),one_pos (p:=fun m:lV=>o.2.2.2.1.contains m.1) hc]
 ·intro L _
  simp only [hB,Int.lt_irrefl,decide_false,afT,if_false,List.take_length]
def FM (b:Bx):Prop:=(0≤b.2.2.1∧b.2.2.1≤1000)∧b.2.2.2.1.length≤6
def sP (s:lu) (i k:Nat) (o:OpC):List Int×Int×lu×Unit:=
 if (s.2.1.getD k dB).2.2.2.1.length+(cZ o (s.2.1.getD i dB)).length>6 then ([],10,s,()) else
 if (s.2.1.getD k dB).2.2.1+((cZ o (s.2.1.getD i dB)).length:Int)>1000 then ([],10,s,()) else
 (tq (s.2.1.getD k dB) (cZ o (s.2.1.getD i dB)).length,0,(s.1,if o.1=6 then (s.2.1.set k (eZ (s.2.1.getD k dB) (cZ o (s.2.1.getD i dB)))).set i (SB o (s.2.1.getD i dB)) else s.2.1.set k (eZ (s.2.1.getD k dB) (cZ o (s.2.1.getD i dB))),()),())
def carried (s:lu) (i:Nat) (o:OpC):List Int×Int×lu×Unit:=
 if rU s o.2.2.1<0 then ([],4,s,()) else if o.1=6∧rU s o.2.2.1=(i:Int) then ([],9,s,()) else sP s i (rU s o.2.2.1).toNat o
theorem dG {A:Type} {xs:List A} {k:Nat} (h:k<xs.length) (d:A):xs.getD k d∈xs:=by
 rw [getD_lt h]; exact agj h
theorem Rs {n:Nat} {s:lu} {i:Nat} {o:OpC} (hs:yJ s) (ho:okO o) (hsm:∀b∈s.2.1,FM b) (hi:i<s.2.1.length) (hn:big<n):nR n s (i:Int) o=some (carried s i o):=by
 unfold nR carried
 rw [UN hs.1 hn]
 simp only [afR]
 rcases jE s o.2.2.1 with h | ⟨k,h,hk⟩
 ·rw [h]; rfl
 ·rw [h]
  have h0:¬((k:Int)<0):=by omega
  rw [decide_eq_false h0,if_neg Bool.false_ne_true,if_neg h0]
  have hA:=hsm _ (dG hi dB)
  have hK:=hsm _ (dG hk dB)
  have Qf:=hs.2 _ (dG hi dB)
  have hKo:=hs.2 _ (dG hk dB)
  have hT:(cZ o (s.2.1.getD i dB)).length≤6:=Nat.le_trans (List.length_filter_le _ _) hA.2
  have Xi:∀m∈cZ o (s.2.1.getD i dB),Ng m:=fun m hm=>Qf.2.2 m (af7.1 hm).1
  have hK2:=hK.2
  have hK1:=hK.1
  by_cases h6:o.1=6
  ·rw [decide_eq_true h6,if_pos rfl]
   by_cases he:(k:Int)=(i:Int)
   ·rw [decide_eq_true he,if_pos rfl,if_pos ⟨h6,he⟩]
   ·rw [decide_eq_false he,if_neg Bool.false_ne_true,if_neg (show ¬(o.1=6∧(k:Int)=(i:Int)) from fun h=>he h.2),if_pos (aT hi)]
    simp only [af0,ze Qf hn,afR,Er Qf.2.1 ho.2.2.1 hn,if_pos (aT hk)]
    unfold sP
    have w1:IntKind.i64.wrap (((s.2.1.getD k dB).2.2.2.1.length:Int)+((cZ o (s.2.1.getD i dB)).length:Int))=((s.2.1.getD k dB).2.2.2.1.length:Int)+((cZ o (s.2.1.getD i dB)).length:Int):=wrap_i64 (by omega) (by omega)
    have w2:IntKind.i64.wrap ((s.2.1.getD k dB).2.2.1+((cZ o (s.2.1.getD i dB)).length:Int))=(s.2.1.getD k dB).2.2.1+((cZ o (s.2.1.getD i dB)).length:Int):=wrap_i64 (by omega) (by omega)
    simp only [w1,w2]
    by_cases c1:(s.2.1.getD k dB).2.2.2.1.length+(cZ o (s.2.1.getD i dB)).length>6
    ·have c1':((s.2.1.getD k dB).2.2.2.1.length:Int)+((cZ o (s.2.1.getD i dB)).length:Int)>6:=by omega
     simp only [c1,c1',decide_true,if_true]
    ·have c1':¬(((s.2.1.getD k dB).2.2.2.1.length:Int)+((cZ o (s.2.1.getD i dB)).length:Int)>6):=by omega
     simp only [c1,c1',decide_false,afT,if_false]
     by_cases c2:(s.2.1.getD k dB).2.2.1+((cZ o (s.2.1.getD i dB)).length:Int)>1000
     ·simp only [c2,decide_true,if_true]
     ·simp only [c2,decide_false,afT,if_false]
      refine (Bn (s:=s) (k:=k) (l:=cZ o (s.2.1.getD i dB)) (b:=s.2.1.getD k dB) (fun _ _=>rfl) hk rfl Xi hT hK1.1 hK1.2 hK2 hn).trans ?_
      have hi2:i<(s.2.1.set k (eZ (s.2.1.getD k dB) (cZ o (s.2.1.getD i dB)))).length:=by simpa using hi
      simp only [h6,decide_true,if_true,if_pos (aT hi2),af0]
  ·rw [decide_eq_false h6,if_neg Bool.false_ne_true,if_neg (show ¬(o.1=6∧(k:Int)=(i:Int)) from fun h=>h6 h.1),if_pos (aT hi)]
   simp only [af0,ze Qf hn,afR,Er Qf.2.1 ho.2.2.1 hn,if_pos (aT hk)]
   unfold sP
   have w1:IntKind.i64.wrap (((s.2.1.getD k dB).2.2.2.1.length:Int)+((cZ o (s.2.1.getD i dB)).length:Int))=((s.2.1.getD k dB).2.2.2.1.length:Int)+((cZ o (s.2.1.getD i dB)).length:Int):=wrap_i64 (by omega) (by omega)
   have w2:IntKind.i64.wrap ((s.2.1.getD k dB).2.2.1+((cZ o (s.2.1.getD i dB)).length:Int))=(s.2.1.getD k dB).2.2.1+((cZ o (s.2.1.getD i dB)).length:Int):=wrap_i64 (by omega) (by omega)
   simp only [w1,w2]
   by_cases c1:(s.2.1.getD k dB).2.2.2.1.length+(cZ o (s.2.1.getD i dB)).length>6
   ·have c1':((s.2.1.getD k dB).2.2.2.1.length:Int)+((cZ o (s.2.1.getD i dB)).length:Int)>6:=by omega
    simp only [c1,c1',decide_true,if_true]
   ·have c1':¬(((s.2.1.getD k dB).2.2.2.1.length:Int)+((cZ o (s.2.1.getD i dB)).length:Int)>6):=by omega
    simp only [c1,c1',decide_false,afT,if_false]
    by_cases c2:(s.2.1.getD k dB).2.2.1+((cZ o (s.2.1.getD i dB)).length:Int)>1000
    ·simp only [c2,decide_true,if_true]
    ·simp only [c2,decide_false,afT,if_false]
     refine (Bn (s:=s) (k:=k) (l:=cZ o (s.2.1.getD i dB)) (b:=s.2.1.getD k dB) (fun _ _=>rfl) hk rfl Xi hT hK1.1 hK1.2 hK2 hn).trans ?_
     simp only [h6,decide_false,afT,if_false]
theorem getD_set_ne {A:Type} {xs:List A} {i k:Nat} (h:k≠i) (y d:A):(xs.set k y).getD i d=xs.getD i d:=by
 rw [af3,af3,List.getElem?_set_ne h]
theorem QL {n:Nat} {ms:List lV} {o:OpC} (hb:ms.length≤big) (ho:o.2.2.2.1.length≤big) (hn:big<n) :
  aF n ms o=some (((ms.filter fun m=>!o.2.2.2.1.contains m.1).length:Int),(ms.filter fun m=>!o.2.2.2.1.contains m.1)++List.replicate (ms.length - (ms.filter fun m=>!o.2.2.2.1.contains m.1).length) dM,()):=by
 unfold big at hb ho hn
 show jK.yL n ms o=_
 unfold jK.yL
 rw [if_pos ⟨by omega,by omega,by omega,by omega⟩]
 rfl
theorem copied {n:Nat} {s:lu} {i:Nat} {o:OpC} (hs:yJ s) (ho:okO o) (hsm:∀b∈s.2.1,FM b) (hi:i<s.2.1.length) (hn:big<n):jI n s (i:Int) o=some (carried s i o):=by
 unfold jI carried
 rw [box hs.1 hn]
 simp only [afR]
 rcases jE s o.2.2.1 with h | ⟨k,h,hk⟩
 ·rw [h]; rfl
 ·rw [h]
  have h0:¬((k:Int)<0):=by omega
  rw [decide_eq_false h0,if_neg Bool.false_ne_true,if_neg h0]
  have hA:=hsm _ (dG hi dB)
  have hK:=hsm _ (dG hk dB)
  have Qf:=hs.2 _ (dG hi dB)
  have hKo:=hs.2 _ (dG hk dB)
  have hT:(cZ o (s.2.1.getD i dB)).length≤6:=Nat.le_trans (List.length_filter_le _ _) hA.2
  have Xi:∀m∈cZ o (s.2.1.getD i dB),Ng m:=fun m hm=>Qf.2.2 m (af7.1 hm).1
  have hK2:=hK.2
  have hK1:=hK.1
  have w1:IntKind.i64.wrap (((s.2.1.getD k dB).2.2.2.1.length:Int)+((cZ o (s.2.1.getD i dB)).length:Int))=((s.2.1.getD k dB).2.2.2.1.length:Int)+((cZ o (s.2.1.getD i dB)).length:Int):=wrap_i64 (by omega) (by omega)
  have w2:IntKind.i64.wrap ((s.2.1.getD k dB).2.2.1+((cZ o (s.2.1.getD i dB)).length:Int))=(s.2.1.getD k dB).2.2.1+((cZ o (s.2.1.getD i dB)).length:Int):=wrap_i64 (by omega) (by omega)
  have hlist:(s.2.1.getD i dB).2.2.2.1.filter (fun m=>o.2.2.2.1.contains m.1)=cZ o (s.2.1.getD i dB):=rfl
  by_cases h6:o.1=6
  ·rw [decide_eq_true h6,if_pos rfl]
   by_cases he:(k:Int)=(i:Int)
   ·rw [decide_eq_true he,if_pos rfl,if_pos ⟨h6,he⟩]
   ·rw [decide_eq_false he,if_neg Bool.false_ne_true,if_neg (show ¬(o.1=6∧(k:Int)=(i:Int)) from fun h=>he h.2),if_pos (aT hi)]
    simp only [af0]
    refine (D8 (s:=s) (o:=o) (a:=(i:Int)) (b:=(k:Int)) (ms:=(s.2.1.getD i dB).2.2.2.1) (fun _ _=>rfl) Qf.2.1 ho.2.2.1 hn).trans ?_
    simp only [if_pos (aT hk),af0,hlist,w1]
    unfold sP
    by_cases c1:(s.2.1.getD k dB).2.2.2.1.length+(cZ o (s.2.1.getD i dB)).length>6
    ·have c1':((s.2.1.getD k dB).2.2.2.1.length:Int)+((cZ o (s.2.1.getD i dB)).length:Int)>6:=by omega
     simp only [c1,c1',decide_true,if_true]
    ·have c1':¬(((s.2.1.getD k dB).2.2.2.1.length:Int)+((cZ o (s.2.1.getD i dB)).length:Int)>6):=by omega
     have hlen:dW n (cZ o (s.2.1.getD i dB))=some (((cZ o (s.2.1.getD i dB)).length:Int),()):=rfl
     simp only [c1,c1',decide_false,afT,if_false,hlen,afR,w2]
     by_cases c2:(s.2.1.getD k dB).2.2.1+((cZ o (s.2.1.getD i dB)).length:Int)>1000
     ·simp only [c2,decide_true,if_true]
     ·simp only [c2,decide_false,afT,if_false]
      refine (Bl (s:=s) (k:=k) (l:=cZ o (s.2.1.getD i dB)) (b:=s.2.1.getD k dB) (fun _ _=>rfl) hk rfl Xi hT hK1.1 hK1.2 hK2 hn).trans ?_
      have hki:k≠i:=fun h=>he (by omega)
      have hi2:i<(s.2.1.set k (eZ (s.2.1.getD k dB) (cZ o (s.2.1.getD i dB)))).length:=by simpa using hi
      simp only [h6,decide_true,if_true,if_pos (aT hi2),af0,xx,getD_set_ne hki,QL Qf.2.1 ho.2.2.1 hn,afR,List.set_set,qg hi2,List.take_left']
      rfl
  ·rw [decide_eq_false h6,if_neg Bool.false_ne_true,if_neg (show ¬(o.1=6∧(k:Int)=(i:Int)) from fun h=>h6 h.1),if_pos (aT hi)]
   simp only [af0]
   refine (D8 (s:=s) (o:=o) (a:=(i:Int)) (b:=(k:Int)) (ms:=(s.2.1.getD i dB).2.2.2.1) (fun _ _=>rfl) Qf.2.1 ho.2.2.1 hn).trans ?_
   simp only [if_pos (aT hk),af0,hlist,w1]
   unfold sP
   by_cases c1:(s.2.1.getD k dB).2.2.2.1.length+(cZ o (s.2.1.getD i dB)).length>6
   ·have c1':((s.2.1.getD k dB).2.2.2.1.length:Int)+((cZ o (s.2.1.getD i dB)).length:Int)>6:=by omega
    simp only [c1,c1',decide_true,if_true]
   ·have c1':¬(((s.2.1.getD k dB).2.2.2.1.length:Int)+((cZ o (s.2.1.getD i dB)).length:Int)>6):=by omega
    have hlen:dW n (cZ o (s.2.1.getD i dB))=some (((cZ o (s.2.1.getD i dB)).length:Int),()):=rfl
    simp only [c1,c1',decide_false,afT,if_false,hlen,afR,w2]
    by_cases c2:(s.2.1.getD k dB).2.2.1+((cZ o (s.2.1.getD i dB)).length:Int)>1000
    ·simp only [c2,decide_true,if_true]
    ·simp only [c2,decide_false,afT,if_false]
     refine (Bl (s:=s) (k:=k) (l:=cZ o (s.2.1.getD i dB)) (b:=s.2.1.getD k dB) (fun _ _=>rfl) hk rfl Xi hT hK1.1 hK1.2 hK2 hn).trans ?_
     simp only [h6,decide_false,afT,if_false]
abbrev Ad:=Int×List Int×lu×Unit
def bad (c:Int):Ad:=(c,[],(0,[],()),())
def yg (s:lu) (o:OpC):List Int×Int×lu×Unit:=
 if rU s o.2.1≥0 then ([],6,s,()) else if s.2.1.length=3 then ([],10,s,()) else if s.1=1000 then ([],10,s,()) else ([],0,(s.1+1,s.2.1++[(o.2.1,s.1,1,[],())],()),())
def Ll (s:lu) (i:Nat) (o:OpC):List Int×Int×lu×Unit:=
 if (s.2.1.getD i dB).2.2.2.1.length=6 then ([],10,s,()) else if (s.2.1.getD i dB).2.2.1=1000 then ([],10,s,()) else
  ([(s.2.1.getD i dB).2.2.1],0,(s.1,s.2.1.set i (rV (s.2.1.getD i dB) (0,o.2.2.2.2.2.1,o.2.2.2.2.2.2.1,o.2.2.2.2.2.2.2.1,())),()),())
def Eh (s:lu) (i:Nat) (o:OpC):List Int×Int×lu×Unit:=
 if o.1=2 then ([],0,(s.1,s.2.1.take i++s.2.1.drop (i+1),()),()) else
 if o.1=3 then Ll s i o else
 if o.1=4 then (DU o (s.2.1.getD i dB),0,(s.1,s.2.1.set i (BL o (s.2.1.getD i dB)),()),()) else
 if o.1=7 then (Ob (s.2.1.getD i dB),0,(s.1,s.2.1.set i (O8 (s.2.1.getD i dB)),()),()) else carried s i o
def iG (s:lu) (o:OpC):List Int×Int×lu×Unit:=
 if o.1=1 then yg s o else if rU s o.2.1<0 then ([],4,s,()) else Eh s (rU s o.2.1).toNat o
def rW (r:List Int×Int×lu×Unit):Ad:=if r.2.1=0 then (0,r.1,r.2.2.1,()) else bad r.2.1
structure Fit (s:lu) (o:OpC):Prop where
 yJ:yJ s
 okO:okO o
 val:1≤s.1∧s.1≤1000
 few:s.2.1.length≤3
 small:∀b∈s.2.1,FM b
 mode:o.1=4→1≤o.2.2.2.2.1∧o.2.2.2.2.1≤3
theorem made {n:Nat} {s:lu} {o:OpC} (h:Fit s o) (hn:big<n):kQ n s o.2.1=some ((yg s o).2.1,(yg s o).2.2.1,())∧(yg s o).1=[]:=by
 have hf:=h.few
 have hv:=h.val
 unfold kQ yg
 rw [box h.yJ.1 hn]
 simp only [afR]
 by_cases c0:rU s o.2.1≥0
 ·simp only [c0,decide_true,if_true,and_self]
 ·simp only [c0,decide_false,afT,if_false]
  by_cases c1:s.2.1.length=3
  ·simp only [c1,if_true]
   exact ⟨rfl,trivial⟩
  ·have:¬(s.2.1.length:Int)=3:=by omega
   simp only [c1,this,decide_false,afT,if_false]
   by_cases c2:s.1=1000
   ·simp only [c2,decide_true,if_true,and_self]
   ·simp only [c2,decide_false,afT,if_false,aga,and_true]
    rw [if_pos (by omega),wrap_i64 (by omega) (by omega)]
theorem UO {n:Nat} {s:lu} {o:OpC} (h:Fit s o) (hn:big<n):pO n s o=some (rW (yg s o),()):=by
 have hf:=h.few
 have hv:=h.val
 unfold pO yg
 rw [UN h.yJ.1 hn]
 simp only [afR]
 by_cases c0:rU s o.2.1≥0
 ·simp only [c0,decide_true,if_true]; rfl
 ·simp only [c0,decide_false,afT,if_false]
  by_cases c1:s.2.1.length=3
  ·have:(s.2.1.length:Int)≥3:=by omega
   simp only [c1,this,decide_true,if_true]; rfl
  ·have:¬(s.2.1.length:Int)≥3:=by omega
   simp only [c1,this,decide_false,afT,if_false]
   by_cases c2:s.1=1000
   ·have:s.1≥1000:=by omega
    simp only [c2,decide_true,if_true]; rfl
   ·have:¬s.1≥1000:=by omega
    simp only [c2,this,decide_false,afT,if_false,O6 h.yJ hn,afR,aga]
    rw [if_pos (by omega),wrap_i64 (by omega) (by omega)]
    rfl
theorem JL {o:OpC} (ho:okO o):Ng (0,o.2.2.2.2.2.1,o.2.2.2.2.2.2.1,o.2.2.2.2.2.2.2.1,()):=ho.2.2.2
theorem IP {n:Nat} {s:lu} {o:OpC} (h:Fit s o) (hn:big<n):jZ n s o=some (iG s o):=by
 unfold jZ iG
 by_cases k1:o.1=1
 ·obtain ⟨h1,h2⟩:=made h hn
  simp only [k1,decide_true,if_true,h1,afR]
  rw [←h2]
 ·simp only [k1,decide_false,afT,if_false,box h.yJ.1 hn,afR]
  rcases jE s o.2.1 with hp | ⟨i,hp,hi⟩
  ·rw [hp]; rfl
  ·rw [hp]
   have h0:¬((i:Int)<0):=by omega
   simp only [h0,decide_false,afT,if_false,if_pos (aT hi),af0]
   have hB:=h.small _ (dG hi dB)
   have Jw:=h.yJ.2 _ (dG hi dB)
   have hB1:=hB.1
   have hB2:=hB.2
   have hf:=h.few
   unfold Eh
   by_cases k2:o.1=2
   ·have hw:IntKind.i64.wrap ((i:Int)+1)=((i+1:Nat):Int):=bO hi (by omega)
    have hdel:bS n s.2.1 (i:Int) ((i+1:Nat):Int)=some (((s.2.1.length - 1:Nat):Int),s.2.1.take i++s.2.1.drop (i+1)++[dB],()):=by
     show jK.Bw dB s.2.1 (i:Int) ((i+1:Nat):Int)=_
     unfold jK.Bw
     rw [if_pos ⟨by omega,by omega,by omega⟩]
     simp only [af0,Nat.add_sub_cancel_left]
     rfl
    have hl:(s.2.1.take i++s.2.1.drop (i+1)).length=s.2.1.length - 1:=by simp; omega
    simp only [k2,decide_true,if_true,hw,hdel,afR,af0]
    rw [←hl,List.take_left']
    rfl
   ·simp only [k2,decide_false,afT,if_false]
    by_cases k3:o.1=3
    ·simp only [k3,decide_true,if_true]
     unfold Ll
     by_cases c1:(s.2.1.getD i dB).2.2.2.1.length=6
     ·simp only [c1,if_true]
      rfl
     ·have:¬((s.2.1.getD i dB).2.2.2.1.length:Int)=6:=by omega
      simp only [c1,this,decide_false,afT,if_false]
      by_cases c2:(s.2.1.getD i dB).2.2.1=1000
      ·simp only [c2,decide_true,if_true]
      ·have hput:=H9 (n:=n) (b:=s.2.1.getD i dB) (JL h.okO) (by omega) (by omega) (by omega)
       simp only [c2,decide_false,afT,if_false,hput,afR]
    ·simp only [k3,decide_false,afT,if_false]
     by_cases k4:o.1=4
     ·simp only [k4,decide_true,if_true,LY Jw.2.1 h.okO.2.2.1 hn (h.mode k4),afR]
     ·simp only [k4,decide_false,afT,if_false]
      by_cases k7:o.1=7
      ·simp only [k7,decide_true,if_true,U2 Jw.2.1 hn,afR]
      ·simp only [k7,decide_false,afT,if_false,copied h.yJ h.okO h.small hi hn,afR]
theorem Mc {n:Nat} {ms:List lV} {r0:Ad} {st:lu} {c:Int} {B:(Int×Ad×Ad×List lV×Unit→Option (Ad×Unit))→Int×Ad×Ad×List lV×Unit→Option (Ad×Unit)}
  (hB:∀L v,B L v=(if decide (v.1<(v.2.2.2.1.length:Int))=true then (if aM v.1 v.2.2.2.1.length then (if (v.2.2.1.2.1.length+[(v.2.2.2.1.getD v.1.toNat dM).1].length) * 8≤140737488355328 then L (IntKind.i64.wrap (v.1+(1:Int)),v.2.1,(v.2.2.1.1,v.2.2.1.2.1++[(v.2.2.2.1.getD v.1.toNat dM).1],v.2.2.1.2.2),v.2.2.2.1,()) else none) else none) else some (v.2.2.1,())))
  (hb:ms.length≤big) (hn:big<n):rounds B n ((0:Int),r0,(c,[],st,()),ms,())=some ((c,ms.map (·.1),st,()),()):=by
 have hb':ms.length≤1048576:=hb
 refine (bF (fun i=>((i:Int),r0,(c,(ms.take i).map (·.1),st,()),ms,())) (fun _=>none) (some ((c,ms.map (·.1),st,()),())) (m:=ms.length) (by simp) (by omega) ?_ ?_).trans (eT (fun _ _ _=>rfl))
 ·intro L i hi _
  have ht:ms.take (i+1)=ms.take i++[ms[i]]:=by simp
  have hl:((ms.take i).map (·.1)).length≤i:=by simp; omega
  simp only [hB,agh,hi,decide_true,if_true,aT hi,nZ hi,bO hi (by omega),aga,ht,List.map_append,List.map_cons,List.map_nil]
  rw [if_pos (by omega)]
 ·intro L _
  simp only [hB,Int.lt_irrefl,decide_false,afT,if_false,List.take_length]
theorem IQ {n:Nat} {s:lu} {o:OpC} (h:Fit s o) (hn:big<n):nQ n s o=some (rW (iG s o),()):=by
 unfold nQ iG
 by_cases k1:o.1=1
 ·simp only [k1,decide_true,if_true,UO h hn,afR]
 ·simp only [k1,decide_false,afT,if_false,UN h.yJ.1 hn,afR]
  rcases jE s o.2.1 with hp | ⟨i,hp,hi⟩
  ·rw [hp]; rfl
  ·rw [hp]
   have h0:¬((i:Int)<0):=by omega
   simp only [h0,decide_false,afT,if_false,O6 h.yJ hn,afR,if_pos (aT hi),af0]
   have hB:=h.small _ (dG hi dB)
   have Jw:=h.yJ.2 _ (dG hi dB)
   have hB1:=hB.1
   have hB2:=hB.2
   have hf:=h.few
   unfold Eh
   by_cases k2:o.1=2
   ·have hw:IntKind.i64.wrap ((i:Int)+1)=((i+1:Nat):Int):=bO hi (by omega)
    simp only [k2,decide_true,if_true,hw,af0]
    rw [if_pos ⟨by omega,by omega⟩,if_pos (by simp; omega),if_pos ⟨by omega,by omega⟩,if_pos (by simp; omega)]
    rfl
   ·simp only [k2,decide_false,afT,if_false]
    by_cases k3:o.1=3
    ·simp only [k3,decide_true,if_true]
     unfold Ll
     by_cases c1:(s.2.1.getD i dB).2.2.2.1.length=6
     ·have:((s.2.1.getD i dB).2.2.2.1.length:Int)≥6:=by omega
      simp only [c1,this,decide_true,if_true]; rfl
     ·have:¬((s.2.1.getD i dB).2.2.2.1.length:Int)≥6:=by omega
      simp only [c1,this,decide_false,afT,if_false]
      by_cases c2:(s.2.1.getD i dB).2.2.1=1000
      ·have:(s.2.1.getD i dB).2.2.1≥1000:=by omega
       simp only [c2,this,decide_true,if_true]; rfl
      ·have:¬(s.2.1.getD i dB).2.2.1≥1000:=by omega
       have hput:=Ia (n:=n) (b:=s.2.1.getD i dB) (JL h.okO) (by omega) (by omega) (by omega)
       simp only [c2,this,decide_false,afT,if_false,hput,afR]
       rfl
    ·simp only [k3,decide_false,afT,if_false]
     by_cases k4:o.1=4
     ·simp only [k4,decide_true,if_true,LZ Jw.2.1 h.okO.2.2.1 hn,afR]
      rfl
     ·simp only [k4,decide_false,afT,if_false]
      by_cases k7:o.1=7
      ·simp only [k7,decide_true,if_true,M4 Jw.2.1 hn,afR]
       exact Mc (fun _ _=>rfl) (Nat.le_trans (List.length_filter_le _ _) Jw.2.1) hn
      ·simp only [k7,decide_false,afT,if_false,Rs h.yJ h.okO h.small hi hn,afR]
       unfold rW
       by_cases c:(carried s i o).2.1=0
       ·simp only [c,decide_true,agi,afT,if_false,if_true]
       ·simp only [c,decide_false,agu,if_true,if_false]; rfl
theorem copies {n:Nat} (k:Int):dK n k=some (decide (k=5) || decide (k=6),()):=by
 unfold dK
 cases decide (k=5) <;> rfl
theorem Oj {n:Nat} (o:OpC):kE n o=some (decide (o.1=5) || decide (o.1=6),()):=copies (n:=n) o.1
theorem Q4 {n:Nat} (o:OpC):jr n o=some ((decide (o.1=5) || decide (o.1=6)) || decide (o.1=4),()):=by
 unfold jr
 rw [Oj]
 simp only [afR]
 cases (decide (o.1=5) || decide (o.1=6)) <;> rfl
theorem T9 (k:Nat):decide ((k:Int)>0)=!decide ((k:Int)=0):=by
 by_cases h:k=0
 ·subst h; rfl
 ·rw [decide_eq_true (by omega),decide_eq_false (by omega)]; rfl
def xV (o:OpC):Bool:=(((decide (o.1=5) || decide (o.1=6)) || decide (o.2.2.1=[])) && ((((decide (o.1=5) || decide (o.1=6)) || decide (o.1=4)) || decide ((o.2.2.2.1.length:Int)=0)) && ((decide (o.1=4) || decide (o.2.2.2.2.1=0)) &&
 ((decide (o.1=4) || (decide (o.1=3) || decide (o.2.2.2.2.2.1=0))) && (decide (o.1=3) || (decide (o.2.2.2.2.2.2.1=0) && decide ((o.2.2.2.2.2.2.2.1.length:Int)=0)))))))
set_option maxRecDepth 20000 in
theorem only {n:Nat} (o:OpC):lQ n o=some (xV o,()):=by
 unfold lQ xV
 simp only [Oj,Q4,afR]
 generalize (decide (o.1=5) || decide (o.1=6))=c
 generalize decide (o.2.2.1=[])=b1
 generalize decide (o.1=4)=b2
 generalize decide ((o.2.2.2.1.length:Int)=0)=b3
 generalize decide (o.2.2.2.2.1=0)=b4
 generalize decide (o.1=3)=b5
 generalize decide (o.2.2.2.2.2.1=0)=b6
 generalize decide (o.2.2.2.2.2.2.1=0)=b7
 generalize decide ((o.2.2.2.2.2.2.2.1.length:Int)=0)=b8
 revert c b1 b2 b3 b4 b5 b6 b7 b8
 decide +kernel
set_option maxRecDepth 20000 in
theorem form {n:Nat} (o:OpC):pM n o=some (decide (1≤o.1∧o.1≤7) && xV o,()):=by
 unfold pM xV
 simp only [Aj,copies,afR,T9]
 generalize (decide (o.1=5) || decide (o.1=6))=c
 generalize decide (o.2.2.1=[])=b1
 generalize decide (o.1=4)=b2
 generalize decide ((o.2.2.2.1.length:Int)=0)=b3
 generalize decide (o.2.2.2.2.1=0)=b4
 generalize decide (o.1=3)=b5
 generalize decide (o.2.2.2.2.2.1=0)=b6
 generalize decide (o.2.2.2.2.2.2.1=0)=b7
 generalize decide ((o.2.2.2.2.2.2.2.1.length:Int)=0)=b8
 generalize decide (1≤o.1∧o.1≤7)=b9
 revert c b1 b2 b3 b4 b5 b6 b7 b8 b9
 decide +kernel
def C9 (us:List Int) (j:Nat):Bool:=!decide (1≤us.getD j 0∧us.getD j 0≤999) || (decide ((j:Int)>0) && decide (us.getD j 0≤us.getD (j - 1) 0))
theorem M9 {n:Nat} {us:List Int} (hb:us.length≤big) (hn:big<n):mK n us=dz (fun j=>if C9 us j=true then some (some (false,())) else none) (some (true,())) us.length 0:=by
 have hb':us.length≤1048576:=hb
 unfold mK
 refine bF (fun i=>(us,(i:Int),())) (fun j=>if C9 us j=true then some (some (false,())) else none) (some (true,())) (m:=us.length) rfl (by omega) ?_ ?_
 ·intro L i hi _
  simp only [agh,hi,decide_true,if_true,aT hi,af0,Aj,afR,bO hi (by omega)]
  unfold C9
  cases h1:decide (1≤us.getD i 0∧us.getD i 0≤999) with
  | false=>rfl
  | true=>
   cases i with
   | zero=>rfl
   | succ j=>
    have hj:j<us.length:=by omega
    rw [decide_eq_true (show ((j+1:Nat):Int)>0 by omega),zy hj (by omega)]
    simp only [aT hj,if_true,af0,Nat.add_sub_cancel,agi,afT,if_false,Bool.false_or,Bool.true_and]
    by_cases hle:us.getD (j+1) 0≤us.getD j 0
    ·simp only [hle,decide_true,if_true]
    ·simp only [hle,decide_false,afT,if_false]
 ·intro L _
  simp
theorem M8 {n:Nat} {us:List Int} (hb:us.length≤big) (hn:big<n):kZ n us=dz (fun j=>if C9 us j=true then some (some (false,())) else none) (some (true,())) us.length 0:=by
 have hb':us.length≤1048576:=hb
 unfold kZ
 refine bF (fun i=>(us,us,(us.length:Int),(i:Int),())) (fun j=>if C9 us j=true then some (some (false,())) else none) (some (true,())) (m:=us.length) rfl (by omega) ?_ ?_
 ·intro L i hi _
  have hu:lT n (us.getD i 0)=some (decide (1≤us.getD i 0∧us.getD i 0≤999),()):=by
   unfold lT
   rw [pz,Aj]; rfl
  simp only [agh,hi,decide_true,if_true,aT hi,af0,hu,afR,bO hi (by omega)]
  unfold C9
  cases h1:decide (1≤us.getD i 0∧us.getD i 0≤999) with
  | false=>rfl
  | true=>
   cases i with
   | zero=>rfl
   | succ j=>
    have hj:j<us.length:=by omega
    rw [decide_eq_true (show ((j+1:Nat):Int)>0 by omega),zy hj (by omega)]
    simp only [aT hj,if_true,af0,Nat.add_sub_cancel,agi,afT,if_false,Bool.false_or,Bool.true_and,ge_iff_le]
    cases decide (us.getD (j+1) 0≤us.getD j 0) <;> rfl
 ·intro L _
  simp
def Ac (us:List Int):Bool:=((dz (fun j=>if C9 us j=true then some (some (false,())) else none) (some (true,())) us.length 0).getD (false,())).1
theorem Io (us:List Int):dz (fun j=>if C9 us j=true then some (some (false,())) else none) (some (true,())) us.length 0=some (Ac us,()):=by
 unfold Ac
 rcases E9 (step:=fun j=>if C9 us j=true then some (some (false,())) else none) (fin:=some (true,())) (r:=some (false,())) (fun j=>by by_cases h:C9 us j=true <;> simp [h]) (m:=us.length) (i:=0) with h | h <;> rw [h] <;> rfl
def nY (o:OpC):Int:=
 if (!(decide (1≤o.1∧o.1≤7) && xV o))=true then 1 else
 if (!decide (nE o.2.1) || ((decide (o.1=5) || decide (o.1=6)) && !decide (nE o.2.2.1)))=true then 5 else
 if decide ((o.2.2.2.1.length:Int)>6)=true then 2 else
 if (!Ac o.2.2.2.1 || (decide (o.1=4) && !decide (1≤o.2.2.2.2.1∧o.2.2.2.2.1≤3)) || !decide (0≤o.2.2.2.2.2.1∧o.2.2.2.2.2.1≤15) || !decide (0≤o.2.2.2.2.2.2.1∧o.2.2.2.2.2.2.1≤9999))=true then 3 else
 if decide ((o.2.2.2.2.2.2.2.1.length:Int)>400)=true then 2 else 0
set_option maxRecDepth 20000 in
theorem Jq {n:Nat} {o:OpC} (ho:okO o) (hn:big<n):nS n o=some (nY o,()):=by
 unfold nS nY
 simp only [form,(name_eq ho.1 hn).2,(name_eq ho.2.1 hn).2,copies,Aj,M9 ho.2.2.1 hn,Io,afR]
 generalize (decide (1≤o.1∧o.1≤7) && xV o)=b0
 generalize decide (nE o.2.1)=b1
 generalize (decide (o.1=5) || decide (o.1=6))=b2
 generalize decide (nE o.2.2.1)=b3
 generalize decide ((o.2.2.2.1.length:Int)>6)=b4
 generalize Ac o.2.2.2.1=b5
 generalize decide (o.1=4)=b6
 generalize decide (1≤o.2.2.2.2.1∧o.2.2.2.2.1≤3)=b7
 generalize decide (0≤o.2.2.2.2.2.1∧o.2.2.2.2.2.1≤15)=b8
 generalize decide (0≤o.2.2.2.2.2.2.1∧o.2.2.2.2.2.2.1≤9999)=b9
 generalize decide ((o.2.2.2.2.2.2.2.1.length:Int)>400)=c
 revert b0 b1 b2 b3 b4 b5 b6 b7 b8 b9 c
 decide +kernel
set_option maxRecDepth 20000 in
theorem Jp {n:Nat} {o:OpC} (ho:okO o) (hn:big<n):nM n o=some (nY o,()):=by
 have hfl:∀x,fu n x=some (decide (0≤x∧x≤15),()):=fun x=>by unfold fu; rw [pz,Aj]; rfl
 have hda:∀x,gG n x=some (decide (0≤x∧x≤9999),()):=fun x=>by unfold gG; rw [pz,Aj]; rfl
 unfold nM nY
 simp only [only,(name_eq ho.1 hn).1,(name_eq ho.2.1 hn).1,Oj,pz,Aj,M8 ho.2.2.1 hn,Io,hfl,hda,afR]
 generalize xV o=b0
 generalize decide (1≤o.1∧o.1≤7)=a0
 generalize decide (nE o.2.1)=b1
 generalize (decide (o.1=5) || decide (o.1=6))=b2
 generalize decide (nE o.2.2.1)=b3
 generalize decide ((o.2.2.2.1.length:Int)>6)=b4
 generalize Ac o.2.2.2.1=b5
 generalize decide (o.1=4)=b6
 generalize decide (1≤o.2.2.2.2.1∧o.2.2.2.2.1≤3)=b7
 generalize decide (0≤o.2.2.2.2.2.1∧o.2.2.2.2.2.1≤15)=b8
 generalize decide (0≤o.2.2.2.2.2.2.1∧o.2.2.2.2.2.2.1≤9999)=b9
 generalize decide ((o.2.2.2.2.2.2.2.1.length:Int)>400)=c
 revert a0 b0 b1 b2 b3 b4 b5 b6 b7 b8 b9 c
 decide +kernel
def okR (r:Ad):Prop:=r.2.1.length≤big∧yJ r.2.2.1
theorem KY (c:Int):okR (bad c):=by
 refine ⟨by simp [bad,big],by simp [bad,big],fun b hb=>?_⟩
 simp [bad] at hb
theorem ym {s:lu} {i:Nat} {b:Bx} {v:Int} (hs:yJ s) (hb:okB b):yJ (v,s.2.1.set i b,()):=by
 refine ⟨by simpa using hs.1,fun x hx=>?_⟩
 rcases List.mem_or_eq_of_mem_set hx with h | rfl
 ·exact hs.2 x h
 ·exact hb
theorem Cu {b:Bx} {p:lV→Bool} (h:okB b):okB (b.1,b.2.1,b.2.2.1,b.2.2.2.1.filter p,()):=
 ⟨h.1,Nat.le_trans (List.length_filter_le _ _) h.2.1,fun m hm=>h.2.2 m (af7.1 hm).1⟩
theorem LB {s:lu} {i k:Nat} {o:OpC} (hs:yJ s) (hsm:∀b∈s.2.1,FM b) (hi:i<s.2.1.length) (hk:k<s.2.1.length):(sP s i k o).1.length≤big∧yJ (sP s i k o).2.2.1:=by
 have hT:(cZ o (s.2.1.getD i dB)).length≤6:=Nat.le_trans (List.length_filter_le _ _) (hsm _ (dG hi dB)).2
 have hK:=(hsm _ (dG hk dB)).2
 unfold sP
 split
 ·exact ⟨by simp [big],hs⟩
 ·split
  ·exact ⟨by simp [big],hs⟩
  ·have hP:okB (eZ (s.2.1.getD k dB) (cZ o (s.2.1.getD i dB))):=Ee (hs.2 _ (dG hk dB)) (fun m hm=>(hs.2 _ (dG hi dB)).2.2 m (af7.1 hm).1) (by unfold big; omega)
   refine ⟨by rw [pR]; unfold big; omega, ?_⟩
   have h1:yJ (s.1,s.2.1.set k (eZ (s.2.1.getD k dB) (cZ o (s.2.1.getD i dB))),()):=ym hs hP
   by_cases h6:o.1=6
   ·simp only [h6,if_true]
    exact ym (s:=(s.1,s.2.1.set k (eZ (s.2.1.getD k dB) (cZ o (s.2.1.getD i dB))),())) h1 (Cu (hs.2 _ (dG hi dB)))
   ·simp only [h6,if_false]
    exact h1
theorem Lr {s:lu} {o:OpC} (h:Fit s o):(iG s o).1.length≤big∧yJ (iG s o).2.2.1:=by
 have hs:=h.yJ
 have hf:=h.few
 unfold iG
 by_cases k1:o.1=1
 ·rw [if_pos k1]
  unfold yg
  split
  ·exact ⟨by simp [big],hs⟩
  ·split
   ·exact ⟨by simp [big],hs⟩
   ·split
    ·exact ⟨by simp [big],hs⟩
    ·refine ⟨by simp [big], ?_,fun b hb=>?_⟩
     ·simp [big]; omega
     ·rcases afZ.1 hb with hb | hb
      ·exact hs.2 b hb
      ·simp only [af9] at hb
       subst hb
       exact ⟨h.okO.1,by simp [big],by simp⟩
 ·rw [if_neg k1]
  rcases jE s o.2.1 with hp | ⟨i,hp,hi⟩
  ·rw [hp,if_pos (by decide)]
   exact ⟨by simp [big],hs⟩
  ·rw [hp,if_neg (by omega),af0]
   have hB:=h.small _ (dG hi dB)
   have Jw:=hs.2 _ (dG hi dB)
   have hB2:=hB.2
   unfold Eh
   split
   ·refine ⟨by simp [big], ?_,fun b hb=>?_⟩
    ·simp [big]; omega
    ·rcases afZ.1 hb with hb | hb
     ·exact hs.2 b (List.mem_of_mem_take hb)
     ·exact hs.2 b (List.mem_of_mem_drop hb)
   ·split
    ·unfold Ll
     split
     ·exact ⟨by simp [big],hs⟩
     ·split
      ·exact ⟨by simp [big],hs⟩
      ·refine ⟨by simp [big],ym hs (Ee (l:=[_]) Jw (fun m hm=>?_) (by simp only [aga]; unfold big; omega))⟩
       simp only [af9] at hm
       subst hm
       exact JL h.okO
    ·split
     ·refine ⟨?_,ym hs ⟨Jw.1,by simpa [BL] using Jw.2.1,fun m hm=>?_⟩⟩
      ·unfold DU
       rw [List.length_map]
       exact Nat.le_trans (List.length_filter_le _ _) Jw.2.1
      ·obtain ⟨x,hx,rfl⟩:=ags.1 hm
       unfold ji
       split
       ·exact Jw.2.2 x hx
       ·exact Jw.2.2 x hx
     ·split
      ·refine ⟨?_,ym hs (Cu Jw)⟩
       unfold Ob
       rw [List.length_map]
       exact Nat.le_trans (List.length_filter_le _ _) Jw.2.1
      ·unfold carried
       split
       ·exact ⟨by simp [big],hs⟩
       ·split
        ·exact ⟨by simp [big],hs⟩
        ·rename_i hneg _
         rcases jE s o.2.2.1 with hp2 | ⟨k,hp2,hk⟩
         ·rw [hp2] at hneg; exact absurd (by decide) hneg
         ·rw [hp2,af0]
          exact LB hs h.small hi hk
theorem RA {s:lu} {o:OpC} (h:Fit s o):okR (rW (iG s o)):=by
 unfold rW
 split
 ·exact Lr h
 ·exact KY _
theorem fit {s:lu} {o:OpC} (hs:yJ s) (ho:okO o) (hg:GM s) (hf:nY o=0):Fit s o:=by
 refine ⟨hs,ho,hg.1,hg.2.1,fun b hb=>?_,fun h4=>?_⟩
 ·obtain ⟨i,hi,rfl⟩:=List.mem_iff_getElem.1 hb
  have:=(hg.2.2 i hi).1
  rw [getD_lt hi] at this
  obtain ⟨_,_,h3,h4,_⟩:=this
  exact ⟨⟨by omega,h3.2⟩,h4⟩
 ·unfold nY at hf
  split at hf
  ·omega
  ·split at hf
   ·omega
   ·split at hf
    ·omega
    ·split at hf
     ·omega
     ·rename_i hc
      rw [decide_eq_true h4] at hc
      simp only [Bool.not_eq_true,Bool.or_eq_false_iff,Bool.true_and] at hc
      have:=hc.1.1.2
      simpa using this
theorem EJ {n:Nat} {s:lu} {o:OpC} (hs:yJ s) (ho:okO o) (hg:GM s) (hn:big<n):∃r:Ad,iV n s o=some (r,())∧nN n s o=some (r,())∧okR r∧
  ((nY o=0∧r=rW (iG s o))∨(nY o≠0∧r=bad (nY o))):=by
 obtain ⟨he,c,hc,hgc⟩:=GG hs hn
 have h0:=hgc.2 hg
 unfold iV nN
 rw [hc]
 simp only [afR,h0,decide_true,agi,afT,if_false,Jq ho hn,Jp ho hn]
 by_cases h1:nY o=0
 ·have hF:=fit hs ho hg h1
  simp only [h1,decide_true,agi,afT,if_false,IQ hF hn,own hs hn,IP hF hn,afR]
  refine ⟨rW (iG s o),rfl, ?_,RA hF, .inl ⟨trivial,rfl⟩⟩
  unfold rW
  by_cases h2:(iG s o).2.1=0
  ·simp only [h2,decide_true,agi,afT,if_false,if_true]
  ·simp only [h2,decide_false,agu,if_true,if_false]
   rfl
 ·refine ⟨bad (nY o), ?_, ?_,KY _, .inr ⟨h1,rfl⟩⟩
  ·simp only [h1,decide_false,agu,if_true]; rfl
  ·simp only [h1,decide_false,agu,if_true]; rfl
end Go.Proofs.Ytabnmpabdhmkoaa.lW
