/- Ops on stores: what the printed functions of both sides come to. -/
import Derived.Test.YtabnmpabdhmkoaaOwF
import Derived.Test.YtabnmpabdhmkoaaLoopLib
import Derived.Test.YtabnmpabdhmkoaaCutLib
import Derived.Test.YtabnmpabdhmkoaaTakeLib
import Derived.Test.YtabnmpabdhmkoaaStoreMath
import Derived.Test.YtabnmpabdhmkoaaFoF
set_option linter.unusedSectionVars false
set_option linter.unusedVariables false
set_option linter.unusedSimpArgs false
namespace Go.Proofs.Ytabnmpabdhmkoaa.nu
open Go Go.Proofs.Ytabnmpabdhmkoaa.Ow Go.Proofs.Ytabnmpabdhmkoaa.Nl Go.Proofs.Ytabnmpabdhmkoaa.pY Go.Proofs.Ytabnmpabdhmkoaa.nN
abbrev OpC:=Int×List Int×List Int×List Int×Int×Int×Int×List Int×Unit
def okO (o:OpC):Prop:=o.2.1.length≤big∧o.2.2.1.length≤big∧o.2.2.2.1.length≤big∧o.2.2.2.2.2.2.2.1.length≤big
theorem O8 {n:Nat} {bs:List Int} (h:bs.length≤big):mO n bs=some (bs,()):=by
 unfold big at h
 unfold mO
 rw [if_pos (by simp; omega)]
 rfl
theorem clone {n:Nat} {bs:List Int} (h:bs.length≤big):dP n bs=some (bs,()):=by
 unfold big at h
 unfold dP
 have hc:(([]:List Int).length+bs.length) * 1≤140737488355328:=by simp; omega
 simp only [if_pos hc]
 cases bs with
 | nil=>exact (if_pos (show ([]:List Int).isEmpty=true from rfl)).trans (NI (ks:=[.sl 5 (.int .u8)]) (some (([]:List Int),())))
 | cons b bs=>rfl
theorem JH {n:Nat} {ms:List mK} (hb:ms.length≤big) (h:∀m∈ms,MR m) (hn:big<n):kY n ms=some (ms,()):=by
 have hb':=hb
 unfold big at hb
 unfold kY
 refine (bE (fun i=>(ms,(i:Int),ms.take i,())) (fun _=>none) (some (ms,())) (m:=ms.length) (by simp) (by omega) ?_ ?_).trans (fq (fun _ _ _=>rfl))
 ·intro L i hi _
  have ht:ms.take (i+1)=ms.take i++[ms[i]]:=by simp
  have hl:(ms.take i).length≤i:=by simp; omega
  simp only [agE,hi,decide_true,if_true,aV hi,oD hi,bL hi (by omega),O8 (h ms[i] (agG hi)),agc,agx,ht]
  rw [if_pos (by omega)]
 ·intro L _
  simp
theorem za {n:Nat} {b:Bx} (h:okB b) (hn:big<n):iP n b=some (b,()):=by
 unfold iP
 rw [JH h.2.1 h.2.2 hn]
 rfl
theorem O9 {n:Nat} {s:kT} (h:yu s) (hn:big<n):mP n s=some (s,()):=by
 have hb:=h.1
 unfold big at hb
 unfold mP
 refine (bE (fun i=>((i:Int),s,(0,[],()),(s.1,s.2.1.take i,()),())) (fun _=>none) (some (s,())) (m:=s.2.1.length) (by simp) (by have:=h.1; omega) ?_ ?_).trans (fq (fun _ _ _=>rfl))
 ·intro L i hi _
  have ht:s.2.1.take (i+1)=s.2.1.take i++[s.2.1[i]]:=by simp
  have hl:(s.2.1.take i).length≤i:=by simp; omega
  simp only [agE,hi,decide_true,if_true,aV hi,oD hi,bL hi (by omega),za (h.2 _ (agG hi)) hn,agc,agx,ht]
  rw [if_pos (by omega)]
 ·intro L _
  simp
theorem own {n:Nat} {s:kT} (h:yu s) (hn:big<n):l9 n s=some (s,()):=by
 have hb:=h.1
 unfold big at hb
 unfold l9
 refine (bE (fun i=>(s.2.1,(s.2.1.length:Int),(i:Int),(0,[],()),(s.1,s.2.1.take i,()),())) (fun _=>none) (some (s,())) (m:=s.2.1.length) (by simp) (by have:=h.1; omega) ?_ ?_).trans (fq (fun _ _ _=>rfl))
 ·intro L i hi _
  have ht:s.2.1.take (i+1)=s.2.1.take i++[s.2.1[i]]:=by simp
  have hl:(s.2.1.take i).length≤i:=by simp; omega
  simp only [agE,hi,decide_true,if_true,aV hi,oD hi]
  have hB:=h.2 _ (agG hi)
  generalize s.2.1[i]=b at hB ht ⊢
  have hb2:=hB.2.1
  unfold big at hb2
  refine (bE (fun j=>(s.2.1,(s.2.1.length:Int),(i:Int),b.2.2.2.1,(b.2.2.2.1.length:Int),(j:Int),(0,[],()),(s.1,s.2.1.take i,()),(b.1,b.2.1,b.2.2.1,b.2.2.2.1.take j,()),())) (fun _=>none) (L (s.2.1,(s.2.1.length:Int),((i+1:Nat):Int),(0,[],()),(s.1,s.2.1.take (i+1),()),())) (m:=b.2.2.2.1.length) (by simp) (by have:=hB.2.1; omega) ?_ ?_).trans (fq (fun _ _ _=>rfl))
  ·intro L2 j hj _
   have htj:b.2.2.2.1.take (j+1)=b.2.2.2.1.take j++[b.2.2.2.1[j]]:=by simp
   have hlj:(b.2.2.2.1.take j).length≤j:=by simp; omega
   simp only [agE,hj,decide_true,if_true,aV hj,oD hj,bL hj (by omega),clone (hB.2.2 _ (agG hj)),agc,agx,htj]
   rw [if_pos (by omega)]
  ·intro L2 _
   simp only [Int.lt_irrefl,decide_false,age,if_false,List.take_length,agx,bL hi (by omega),ht]
   rw [if_pos (by omega)]
 ·intro L _
  simp
def rY (s:kT) (nm:List Int):Int:=if s.2.1.findIdx (fun b=>decide (b.1=nm))<s.2.1.length then ((s.2.1.findIdx (fun b=>decide (b.1=nm)):Nat):Int) else -1
theorem jF (s:kT) (nm:List Int):rY s nm=-1∨∃i:Nat,rY s nm=(i:Int)∧i<s.2.1.length:=by
 unfold rY
 split
 ·exact .inr ⟨_,rfl,by assumption⟩
 ·exact .inl rfl
theorem U2 {n:Nat} {s:kT} {nm:List Int} (hb:s.2.1.length≤big) (hn:big<n):nM n s nm=some (rY s nm,()):=by
 have hb':=hb
 unfold big at hb
 unfold nM
 refine (bE (fun i=>(s,nm,(i:Int),())) (fun j=>if decide ((s.2.1.getD j dB).1=nm)=true then some (some ((j:Int),())) else none) (some (-1,())) (m:=s.2.1.length) rfl (by omega) ?_ ?_).trans ?_
 ·intro L i hi _
  simp only [agE,hi,decide_true,if_true,aV hi,agm,bL hi (by omega)]
  split <;> rfl
 ·intro L _
  simp
 ·rw [jL.uJ (p:=fun b:Bx=>decide (b.1=nm)) (r:=fun j=>some ((j:Int),())) s.2.1.length 0 (by omega)]
  simp only [List.drop_zero,Nat.zero_add]
  unfold rY
  split <;> rfl
theorem box {n:Nat} {s:kT} {nm:List Int} (hb:s.2.1.length≤big) (hn:big<n):iO n s nm=some (rY s nm,()):=by
 unfold iO
 have h:cu n s.2.1 nm=some (_,()):=jL.xe (p:=fun b:Bx=>decide (b.1=nm)) (q:=fun c x=>nC n x c) (d:=dB) (fun _ _=>rfl) (fun _=>rfl) (by unfold big at hb; omega) (by omega)
 rw [h]
 rfl
theorem has {n:Nat} {us:List Int} {x:Int} (hb:us.length≤big) (hn:big<n):kr n us x=some (us.contains x,()):=
 jh.GV (fun _ _=>rfl) (by unfold big at hb; omega) (by omega)
theorem contains {n:Nat} {us:List Int} {x:Int} (hb:us.length≤big) (hn:big<n):aX n us x=some (us.contains x,()):=
 jL.E9 (fun _ _=>rfl) (by unfold big at hb; omega) (by omega)
def tu (b:Bx) (m:mK):Bx:=(b.1,b.2.1,b.2.2.1+1,b.2.2.2.1++[(b.2.2.1,m.2.1,m.2.2.1,m.2.2.2.1,())],())
theorem Ig {n:Nat} {b:Bx} {m:mK} (hm:MR m) (h1:0≤b.2.2.1) (h2:b.2.2.1≤2000) (h3:b.2.2.2.1.length≤2000):ku n b m=some (b.2.2.1,tu b m,()):=by
 unfold ku
 rw [O8 hm]
 simp only [agc,agx]
 rw [if_pos (by omega),wrap_i64 (by omega) (by omega)]
 rfl
theorem Ie {n:Nat} {b:Bx} {m:mK} (hm:MR m) (h1:0≤b.2.2.1) (h2:b.2.2.1≤2000) (h3:b.2.2.2.1.length≤2000):nW n b m=some (b.2.2.1,tu b m,()):=by
 unfold nW
 rw [clone hm]
 simp only [agc,agx]
 rw [if_pos ⟨trivial,by omega⟩,wrap_i64 (x:=b.2.2.1+1) (by omega) (by omega),show b.2.2.1+1 - 1=b.2.2.1 by omega,wrap_i64 (by omega) (by omega)]
 rfl
theorem MZ {n:Nat} {b:Bx} {m:mK} (hm:MR m) (h1:0≤b.2.2.1) (h2:b.2.2.1≤2000) (h3:b.2.2.2.1.length≤2000):jr n b m=some (b.2.2.1,tu b m,()):=Ie hm h1 h2 h3
def turn (was mode fl:Int):Int:=
 if mode=2 then IntKind.i64.wrap ((BitVec.ofInt (IntKind.bits .i64) was ||| BitVec.ofInt (IntKind.bits .i64) fl).toNat) else if mode=3 then IntKind.i64.wrap ((BitVec.ofInt (IntKind.bits .i64) was &&& ~~~ BitVec.ofInt (IntKind.bits .i64) fl).toNat) else fl
def jT (o:OpC) (m:mK):mK:=if o.2.2.2.1.contains m.1=true then (m.1,turn m.2.1 o.2.2.2.2.1 o.2.2.2.2.2.1,m.2.2) else m
def BP (o:OpC) (b:Bx):Bx:=(b.1,b.2.1,b.2.2.1,b.2.2.2.1.map (jT o),())
def DW (o:OpC) (b:Bx):List Int:=(b.2.2.2.1.filter fun m=>o.2.2.2.1.contains m.1).map (·.1)
theorem flags {n:Nat} (a m f:Int):oo n a m f=some (turn a m f,()):=by
 unfold oo turn
 by_cases h2:m=2
 ·simp [h2]
 ·by_cases h3:m=3 <;> simp [h2,h3]
theorem FE {A:Type} {p:A→Bool} {x:A} (h:p x=false):[x].filter p=[]:=by simp [List.filter_cons,h]
theorem one_pos {A:Type} {p:A→Bool} {x:A} (h:p x=true):[x].filter p=[x]:=by simp [List.filter_cons,h]
theorem Io {A:Type} {f:A→A} {xs:List A} {i:Nat} (hi:i<xs.length) (h:f xs[i]=xs[i]):(xs.map f).take i++xs.drop i=(xs.map f).take (i+1)++xs.drop (i+1):=by
 have h1:=Fz (xs:=xs) (ys:=xs.map f) (by simp) hi xs[i] (by simp [h])
 rw [←h1]
 symm
 have hl:i<((xs.map f).take i++xs.drop i).length:=by simp; omega
 have hg:=Fy (xs:=xs) (ys:=xs.map f) (by simp) hi xs[i]
 rw [agq,agr hl] at hg
 simp only [Option.getD_some] at hg
 conv=>lhs; rw [←hg]
 exact List.set_getElem_self hl
theorem Mc {n:Nat} {b:Bx} {o:OpC} (hb:b.2.2.2.1.length≤big) (ho:o.2.2.2.1.length≤big) (hn:big<n):pV n b o=some (DW o b,BP o b,()):=by
 have hb':=hb
 unfold big at hb
 unfold pV
 obtain ⟨nm,va,ne,ms,u⟩:=b
 have hb:ms.length≤1048576:=hb
 refine (bE (fun i=>(o,(i:Int),(nm,va,ne,(ms.map (jT o)).take i++ms.drop i,()),((ms.take i).filter fun m=>o.2.2.2.1.contains m.1).map (·.1),())) (fun _=>none) (some (DW o (nm,va,ne,ms,()),BP o (nm,va,ne,ms,()),())) (m:=ms.length) (by simp) (by unfold big at hn; omega) ?_ ?_).trans (fq (fun _ _ _=>rfl))
 ·intro L i hi _
  have hy:(ms.map (jT o)).length=ms.length:=by simp
  have hlen:=KW (xs:=ms) (ys:=ms.map (jT o)) hy (Nat.le_of_lt hi)
  have hget:=Fy (xs:=ms) (ys:=ms.map (jT o)) hy hi dM
  have ht:ms.take (i+1)=ms.take i++[ms[i]]:=by simp
  have hl1:(((ms.take i).filter fun m=>o.2.2.2.1.contains m.1).map (·.1)).length≤i:=by
   rw [List.length_map]; exact Nat.le_trans (List.length_filter_le _ _) (by simp; omega)
  simp only [hlen,agE,hi,decide_true,if_true,aV hi,agm,xA,hget,has ho hn,agc,flags,bL hi (by omega)]
  cases hc:o.2.2.2.1.contains ms[i].1 with
  | false=>
   have hf:jT o ms[i]=ms[i]:=by unfold jT; rw [hc]; rfl
   rw [if_neg Bool.false_ne_true,Io hi hf,ht,List.filter_append,FE (p:=fun m:mK=>o.2.2.2.1.contains m.1) hc,agH]
  | true=>
   have hset:=Fz (xs:=ms) (ys:=ms.map (jT o)) hy hi (ms[i].1,turn ms[i].2.1 o.2.2.2.2.1 o.2.2.2.2.2.1,ms[i].2.2) (by rw [List.getElem_map]; unfold jT; rw [if_pos hc])
   have hgs:((ms.map (jT o)).take (i+1)++ms.drop (i+1)).getD i dM=(ms[i].1,turn ms[i].2.1 o.2.2.2.2.1 o.2.2.2.2.2.1,ms[i].2.2):=by
    rw [←hset,agq,List.getElem?_set_self (by omega)]; rfl
   simp only [if_true,hset,hgs,agx]
   rw [if_pos (by omega),ht,List.filter_append,one_pos (p:=fun m:mK=>o.2.2.2.1.contains m.1) hc,List.map_append]
   rfl
 ·intro L _
  have ht:(ms.map (jT o)).take ms.length=ms.map (jT o):=List.take_of_length_le (by simp)
  simp only [ht,List.length_map,Int.lt_irrefl,decide_false,age,if_false,List.take_length,List.drop_length,agH]
  rfl
theorem Ma {n:Nat} {b:Bx} {o:OpC} (hb:b.2.2.2.1.length≤big) (ho:o.2.2.2.1.length≤big) (hn:big<n) (hm:1≤o.2.2.2.2.1∧o.2.2.2.2.1≤3):jZ n b o=some (DW o b,BP o b,()):=by
 have hb':=hb
 unfold big at hb
 unfold jZ
 obtain ⟨nm,va,ne,ms,u⟩:=b
 have hb:ms.length≤1048576:=hb
 refine (bE (fun i=>((ms.length:Int),(i:Int),(nm,va,ne,(ms.map (jT o)).take i++ms.drop i,()),o,((ms.take i).filter fun m=>o.2.2.2.1.contains m.1).map (·.1),())) (fun _=>none) (some (DW o (nm,va,ne,ms,()),BP o (nm,va,ne,ms,()),())) (m:=ms.length) (by simp) (by unfold big at hn; omega) ?_ ?_).trans (fq (fun _ _ _=>rfl))
 ·intro L i hi _
  have hy:(ms.map (jT o)).length=ms.length:=by simp
  have hlen:=KW (xs:=ms) (ys:=ms.map (jT o)) hy (Nat.le_of_lt hi)
  have hget:=Fy (xs:=ms) (ys:=ms.map (jT o)) hy hi dM
  have ht:ms.take (i+1)=ms.take i++[ms[i]]:=by simp
  have hl1:(((ms.take i).filter fun m=>o.2.2.2.1.contains m.1).map (·.1)).length≤i:=by
   rw [List.length_map]; exact Nat.le_trans (List.length_filter_le _ _) (by simp; omega)
  simp only [hlen,agE,hi,decide_true,if_true,aV hi,agm,xA,hget,contains ho hn,agc,bL hi (by omega)]
  cases hc:o.2.2.2.1.contains ms[i].1 with
  | false=>
   have hf:jT o ms[i]=ms[i]:=by unfold jT; rw [hc]; rfl
   rw [agQ,if_pos rfl,Io hi hf,ht,List.filter_append,FE (p:=fun m:mK=>o.2.2.2.1.contains m.1) hc,agH]
  | true=>
   have hset:=Fz (xs:=ms) (ys:=ms.map (jT o)) hy hi (ms[i].1,turn ms[i].2.1 o.2.2.2.2.1 o.2.2.2.2.2.1,ms[i].2.2) (by rw [List.getElem_map]; unfold jT; rw [if_pos hc])
   rw [agF,if_neg Bool.false_ne_true]
   simp only [agx]
   rw [if_pos (by omega),ht,List.filter_append,one_pos (p:=fun m:mK=>o.2.2.2.1.contains m.1) hc,List.map_append, ←hset]
   unfold turn
   by_cases h1:o.2.2.2.2.1=1
   ·simp [h1]
   ·by_cases h2:o.2.2.2.2.1=2
    ·simp [h2]
    ·have h3:o.2.2.2.2.1=3:=by omega
     simp [h3]
 ·intro L _
  have ht:(ms.map (jT o)).take ms.length=ms.map (jT o):=List.take_of_length_le (by simp)
  simp only [ht,Int.lt_irrefl,decide_false,age,if_false,List.take_length,List.drop_length,agH]
  rfl
theorem MW (us:List Int) (u f:Int):jh.pick us 0 u f=us.contains u:=by
 unfold jh.pick
 rw [show BitVec.ofInt (IntKind.bits .i64) f &&& BitVec.ofInt (IntKind.bits .i64) 0=BitVec.ofInt (IntKind.bits .i64) 0 from BitVec.and_zero]
 have:(IntKind.i64.wrap ((BitVec.ofInt (IntKind.bits .i64) 0).toNat:Int))=0:=by decide
 rw [this]
 simp
def Og (b:Bx):List Int:=(b.2.2.2.1.filter fun m=>jw.del m.2.1).map (·.1)
def Pd (b:Bx):Bx:=(b.1,b.2.1,b.2.2.1,b.2.2.2.1.filter (fun m=>!jw.del m.2.1),())
theorem Vf {n:Nat} {b:Bx} (hb:b.2.2.2.1.length≤big) (hn:big<n):fT n b=some (Og b,Pd b,()):=by
 unfold big at hb hn
 show jw.tL n b=_
 unfold jw.tL
 rw [if_pos ⟨by omega,by omega⟩]
 rfl
theorem M8 {n:Nat} {b:Bx} (hb:b.2.2.2.1.length≤big) (hn:big<n):fQ n b [] 8=some (b.2.2.2.1.filter (fun m=>jw.del m.2.1),Pd b,()):=by
 unfold big at hb hn
 show jh.vk jh.pick n b [] 8=_
 unfold jh.vk
 rw [if_pos ⟨by omega,by omega,by simp,by simp; omega⟩]
 rfl
def dz (o:OpC) (b:Bx):List mK:=b.2.2.2.1.filter fun m=>o.2.2.2.1.contains m.1
def SI (o:OpC) (b:Bx):Bx:=(b.1,b.2.1,b.2.2.1,b.2.2.2.1.filter (fun m=>!o.2.2.2.1.contains m.1),())
theorem Ew {n:Nat} {b:Bx} {o:OpC} (hb:b.2.2.2.1.length≤big) (ho:o.2.2.2.1.length≤big) (hn:big<n):fQ n b o.2.2.2.1 0=some (dz o b,SI o b,()):=by
 have hb':=hb
 have ho':=ho
 unfold big at hb ho hn
 show jh.vk jh.pick n b o.2.2.2.1 0=_
 unfold jh.vk
 rw [if_pos ⟨by omega,by omega,by omega,by omega⟩]
 simp only [MW]
 rfl
def eX (b:Bx) (l:List mK):Bx:=l.foldl tu b
def tH (b:Bx):Nat→List Int
 | 0=>[]
 | k+1=>tH b k++[b.2.2.1+(k:Int)]
theorem qa (b:Bx):∀k,(tH b k).length=k
 | 0=>rfl
 | k+1=>by simp [tH,qa b k]
theorem Ic (b:Bx) (l:List mK) (m:mK):eX b (l++[m])=tu (eX b l) m:=by simp [eX]
theorem zX (b:Bx):∀l:List mK,(eX b l).2.2.1=b.2.2.1+(l.length:Int)∧(eX b l).2.2.2.1.length=b.2.2.2.1.length+l.length:=by
 intro l
 induction l generalizing b with
 | nil=>simp [eX]
 | cons m l ih=>
  have:=ih (tu b m)
  simp only [eX,List.foldl_cons,agA] at this ⊢
  rw [this.1,this.2]
  simp [tu]
  omega
theorem Eh {l:List mK}:∀{b:Bx},okB b→(∀m∈l,MR m)→b.2.2.2.1.length+l.length≤big→okB (eX b l):=by
 induction l with
 | nil=>intro b h _ _; exact h
 | cons m l ih=>
  intro b h hl hb
  simp only [agA] at hb
  refine ih (b:=tu b m) ⟨h.1, ?_, ?_⟩ (fun x hx=>hl x (by simp [hx])) ?_
  ·simp only [tu,agk,agx]; omega
  ·intro x hx
   simp only [tu,agl,agw] at hx
   rcases hx with hx | rfl
   ·exact h.2.2 x hx
   ·exact hl m (by simp)
  ·simp only [tu,agk,agx]; omega
theorem CV {A:Type} {xs:List A} {k:Nat} (h:k<xs.length) (y d:A):(xs.set k y).getD k d=y:=by
 rw [agq,List.getElem?_set_self h]; rfl
theorem getD_lt {A:Type} {xs:List A} {k:Nat} (h:k<xs.length) (d:A):xs.getD k d=xs[k]:=by
 rw [agq,agr h]; rfl
theorem PW {A:Type} {xs:List A} {k:Nat} (h:k<xs.length) (d:A):xs.set k (xs.getD k d)=xs:=by
 rw [agq,agr h]
 exact List.set_getElem_self h
theorem Ih {s:kT} {k j:Nat} {l:List mK} {b:Bx} (hk:k<s.2.1.length) (hj:j<l.length) :
  ((s.2.1.set k (eX b (l.take j))).set k (tu (eX b (l.take j)) l[j]))=s.2.1.set k (eX b (l.take (j+1))):=by
 rw [List.set_set, ←Ic]
 congr 2
 simp
theorem Bo {n:Nat} {s:kT} {at':Int} {k:Nat} {o:OpC} {part:Bx} {l:List mK} {b:Bx} {fin:Int×OpC×Int×Int×kT×Bx×List mK×List Int×Unit→Option (List Int×Int×kT×Unit)}
  {B:(Int×OpC×Int×Int×kT×Bx×List mK×List Int×Unit→Option (List Int×Int×kT×Unit))→Int×OpC×Int×Int×kT×Bx×List mK×List Int×Unit→Option (List Int×Int×kT×Unit)}
  (hB:∀L v,B L v=(if decide (v.2.2.2.1<(v.2.2.2.2.2.2.1.length:Int))=true then (if aN v.2.2.2.1 v.2.2.2.2.2.2.1.length then ((ku n (v.2.2.2.2.1.2.1.getD v.2.2.1.toNat dB) (v.2.2.2.2.2.2.1.getD v.2.2.2.1.toNat dM)).bind fun r5=>(if (v.2.2.2.2.2.2.2.1.length+[r5.1].length) * 8≤140737488355328 then L (v.1,v.2.1,v.2.2.1,IntKind.i64.wrap (v.2.2.2.1+(1:Int)),(v.2.2.2.2.1.1,v.2.2.2.2.1.2.1.set v.2.2.1.toNat r5.2.1,v.2.2.2.2.1.2.2),v.2.2.2.2.2.1,v.2.2.2.2.2.2.1,v.2.2.2.2.2.2.2.1++[r5.1],()) else none)) else none) else fin v))
  (hk:k<s.2.1.length) (hb:s.2.1.getD k dB=b) (hl:∀m∈l,MR m) (hl6:l.length≤6) (h1:0≤b.2.2.1) (h2:b.2.2.1≤1000) (h3:b.2.2.2.1.length≤6) (hn:big<n) :
  rounds B n (at',o,(k:Int),(0:Int),s,part,l,[],())=fin (at',o,(k:Int),(l.length:Int),(s.1,s.2.1.set k (eX b l),()),part,l,tH b l.length,()):=by
 have hn':1048576<n:=hn
 refine (bE (fun j=>(at',o,(k:Int),(j:Int),(s.1,s.2.1.set k (eX b (l.take j)),()),part,l,tH b j,())) (fun _=>none) (fin (at',o,(k:Int),(l.length:Int),(s.1,s.2.1.set k (eX b l),()),part,l,tH b l.length,())) (m:=l.length) ?_ (by omega) ?_ ?_).trans (fq (fun _ _ _=>rfl))
 ·rw [List.take_zero]
  show _=(_,_,_,_,(s.1,s.2.1.set k b,()),_,_,[],())
  rw [←hb,PW hk]
  rfl
 ·intro L j hj _
  have hp:=zX b (l.take j)
  have hlt:(l.take j).length=j:=by simp; omega
  rw [hlt] at hp
  have hput:=Ig (n:=n) (b:=eX b (l.take j)) (m:=l[j]) (hl _ (agG hj)) (by rw [hp.1]; omega) (by rw [hp.1]; omega) (by rw [hp.2]; omega)
  simp only [hB,agE,hj,decide_true,if_true,aV hj,agm,getD_lt hj,CV hk,hput,agc,bL hj (by omega),qa,agx,Ih hk hj]
  rw [if_pos (by omega),hp.1]
  rfl
 ·intro L _
  simp only [hB,Int.lt_irrefl,decide_false,age,if_false,List.take_length]
theorem Bn {n:Nat} {s:kT} {at':Int} {k:Nat} {o:OpC} {l:List mK} {b:Bx} {fin:Int×Int×Int×Int×kT×OpC×List mK×List Int×Unit→Option (List Int×Int×kT×Unit)}
  {B:(Int×Int×Int×Int×kT×OpC×List mK×List Int×Unit→Option (List Int×Int×kT×Unit))→Int×Int×Int×Int×kT×OpC×List mK×List Int×Unit→Option (List Int×Int×kT×Unit)}
  (hB:∀L v,B L v=(if decide (v.2.2.2.1<v.2.2.1)=true then (if aN v.2.2.2.1 v.2.2.2.2.2.2.1.length then ((jr n (v.2.2.2.2.1.2.1.getD v.2.1.toNat dB) (v.2.2.2.2.2.2.1.getD v.2.2.2.1.toNat dM)).bind fun r6=>(if (v.2.2.2.2.2.2.2.1.length+[r6.1].length) * 8≤140737488355328 then L (v.1,v.2.1,v.2.2.1,IntKind.i64.wrap (v.2.2.2.1+(1:Int)),(v.2.2.2.2.1.1,v.2.2.2.2.1.2.1.set v.2.1.toNat r6.2.1,v.2.2.2.2.1.2.2),v.2.2.2.2.2.1,v.2.2.2.2.2.2.1,v.2.2.2.2.2.2.2.1++[r6.1],()) else none)) else none) else fin v))
  (hk:k<s.2.1.length) (hb:s.2.1.getD k dB=b) (hl:∀m∈l,MR m) (hl6:l.length≤6) (h1:0≤b.2.2.1) (h2:b.2.2.1≤1000) (h3:b.2.2.2.1.length≤6) (hn:big<n) :
  rounds B n (at',(k:Int),(l.length:Int),(0:Int),s,o,l,[],())=fin (at',(k:Int),(l.length:Int),(l.length:Int),(s.1,s.2.1.set k (eX b l),()),o,l,tH b l.length,()):=by
 have hn':1048576<n:=hn
 refine (bE (fun j=>(at',(k:Int),(l.length:Int),(j:Int),(s.1,s.2.1.set k (eX b (l.take j)),()),o,l,tH b j,())) (fun _=>none) (fin (at',(k:Int),(l.length:Int),(l.length:Int),(s.1,s.2.1.set k (eX b l),()),o,l,tH b l.length,())) (m:=l.length) ?_ (by omega) ?_ ?_).trans (fq (fun _ _ _=>rfl))
 ·rw [List.take_zero]
  show _=(_,_,_,_,(s.1,s.2.1.set k b,()),_,_,[],())
  rw [←hb,PW hk]
  rfl
 ·intro L j hj _
  have hp:=zX b (l.take j)
  have hlt:(l.take j).length=j:=by simp; omega
  rw [hlt] at hp
  have hput:=MZ (n:=n) (b:=eX b (l.take j)) (m:=l[j]) (hl _ (agG hj)) (by rw [hp.1]; omega) (by rw [hp.1]; omega) (by rw [hp.2]; omega)
  simp only [hB,agE,hj,decide_true,if_true,aV hj,agm,getD_lt hj,CV hk,hput,agc,bL hj (by omega),qa,agx,Ih hk hj]
  rw [if_pos (by omega),hp.1]
  rfl
 ·intro L _
  simp only [hB,Int.lt_irrefl,decide_false,age,if_false,List.take_length]
theorem Eb {n:Nat} {ms:List mK} {o:OpC} {a b:Int} {s:kT} {fin:Int×Int×List mK×Int×Int×kT×OpC×List mK×Unit→Option (List Int×Int×kT×Unit)}
  {B:(Int×Int×List mK×Int×Int×kT×OpC×List mK×Unit→Option (List Int×Int×kT×Unit))→Int×Int×List mK×Int×Int×kT×OpC×List mK×Unit→Option (List Int×Int×kT×Unit)}
  (hB:∀L v,B L v=(if decide (v.2.2.2.2.1<v.2.2.2.1)=true then (if aN v.2.2.2.2.1 v.2.2.1.length then ((aX n v.2.2.2.2.2.2.1.2.2.2.1 ((v.2.2.1.getD v.2.2.2.2.1.toNat dM).1)).bind fun r3=>(if r3.1=true then (if (v.2.2.2.2.2.2.2.1.length+[v.2.2.1.getD v.2.2.2.2.1.toNat dM].length) * 48≤140737488355328 then L (v.1,v.2.1,v.2.2.1,v.2.2.2.1,IntKind.i64.wrap (v.2.2.2.2.1+(1:Int)),v.2.2.2.2.2.1,v.2.2.2.2.2.2.1,v.2.2.2.2.2.2.2.1++[v.2.2.1.getD v.2.2.2.2.1.toNat dM],()) else none) else L (v.1,v.2.1,v.2.2.1,v.2.2.2.1,IntKind.i64.wrap (v.2.2.2.2.1+(1:Int)),v.2.2.2.2.2.1,v.2.2.2.2.2.2.1,v.2.2.2.2.2.2.2.1,()))) else none) else fin v))
  (hb:ms.length≤big) (ho:o.2.2.2.1.length≤big) (hn:big<n) :
  rounds B n (a,b,ms,(ms.length:Int),(0:Int),s,o,[],())=fin (a,b,ms,(ms.length:Int),(ms.length:Int),s,o,ms.filter (fun m=>o.2.2.2.1.contains m.1),()):=by
 have hb':ms.length≤1048576:=hb
 refine (bE (fun i=>(a,b,ms,(ms.length:Int),(i:Int),s,o,(ms.take i).filter (fun m=>o.2.2.2.1.contains m.1),())) (fun _=>none) (fin (a,b,ms,(ms.length:Int),(ms.length:Int),s,o,ms.filter (fun m=>o.2.2.2.1.contains m.1),())) (m:=ms.length) (by simp) (by omega) ?_ ?_).trans (fq (fun _ _ _=>rfl))
 ·intro L i hi _
  have ht:ms.take (i+1)=ms.take i++[ms[i]]:=by simp
  have hl:((ms.take i).filter fun m=>o.2.2.2.1.contains m.1).length≤i:=Nat.le_trans (List.length_filter_le _ _) (by simp; omega)
  simp only [hB,agE,hi,decide_true,if_true,aV hi,oD hi,contains ho hn,agc,bL hi (by omega),agx,ht,List.filter_append]
  cases hc:o.2.2.2.1.contains ms[i].1 with
  | false=>rw [if_neg Bool.false_ne_true,FE (p:=fun m:mK=>o.2.2.2.1.contains m.1) hc,agH]
  | true=>rw [if_pos rfl,if_pos (by omega),one_pos (p:=fun m:mK=>o.2.2.2.1.contains m.1) hc]
 ·intro L _
  simp only [hB,Int.lt_irrefl,decide_false,age,if_false,List.take_length]
def FQ (b:Bx):Prop:=(0≤b.2.2.1∧b.2.2.1≤1000)∧b.2.2.2.1.length≤6
def sS (s:kT) (i k:Nat) (o:OpC):List Int×Int×kT×Unit:=
 if (s.2.1.getD k dB).2.2.2.1.length+(dz o (s.2.1.getD i dB)).length>6 then ([],10,s,()) else
 if (s.2.1.getD k dB).2.2.1+((dz o (s.2.1.getD i dB)).length:Int)>1000 then ([],10,s,()) else
 (tH (s.2.1.getD k dB) (dz o (s.2.1.getD i dB)).length,0,(s.1,if o.1=6 then (s.2.1.set k (eX (s.2.1.getD k dB) (dz o (s.2.1.getD i dB)))).set i (SI o (s.2.1.getD i dB)) else s.2.1.set k (eX (s.2.1.getD k dB) (dz o (s.2.1.getD i dB))),()),())
def carried (s:kT) (i:Nat) (o:OpC):List Int×Int×kT×Unit:=
 if rY s o.2.2.1<0 then ([],4,s,()) else if o.1=6∧rY s o.2.2.1=(i:Int) then ([],9,s,()) else sS s i (rY s o.2.2.1).toNat o
theorem dI {A:Type} {xs:List A} {k:Nat} (h:k<xs.length) (d:A):xs.getD k d∈xs:=by
 rw [getD_lt h]; exact agG h
theorem Rv {n:Nat} {s:kT} {i:Nat} {o:OpC} (hs:yu s) (ho:okO o) (hsm:∀b∈s.2.1,FQ b) (hi:i<s.2.1.length) (hn:big<n):om n s (i:Int) o=some (carried s i o):=by
 unfold om carried
 rw [U2 hs.1 hn]
 simp only [agc]
 rcases jF s o.2.2.1 with h | ⟨k,h,hk⟩
 ·rw [h]; rfl
 ·rw [h]
  have h0:¬((k:Int)<0):=by omega
  rw [decide_eq_false h0,if_neg Bool.false_ne_true,if_neg h0]
  have hA:=hsm _ (dI hi dB)
  have hK:=hsm _ (dI hk dB)
  have Qi:=hs.2 _ (dI hi dB)
  have hKo:=hs.2 _ (dI hk dB)
  have hT:(dz o (s.2.1.getD i dB)).length≤6:=Nat.le_trans (List.length_filter_le _ _) hA.2
  have XC:∀m∈dz o (s.2.1.getD i dB),MR m:=fun m hm=>Qi.2.2 m (agu.1 hm).1
  have hK2:=hK.2
  have hK1:=hK.1
  by_cases h6:o.1=6
  ·rw [decide_eq_true h6,if_pos rfl]
   by_cases he:(k:Int)=(i:Int)
   ·rw [decide_eq_true he,if_pos rfl,if_pos ⟨h6,he⟩]
   ·rw [decide_eq_false he,if_neg Bool.false_ne_true,if_neg (show ¬(o.1=6∧(k:Int)=(i:Int)) from fun h=>he h.2),if_pos (aV hi)]
    simp only [agm,za Qi hn,agc,Ew Qi.2.1 ho.2.2.1 hn,if_pos (aV hk)]
    unfold sS
    have w1:IntKind.i64.wrap (((s.2.1.getD k dB).2.2.2.1.length:Int)+((dz o (s.2.1.getD i dB)).length:Int))=((s.2.1.getD k dB).2.2.2.1.length:Int)+((dz o (s.2.1.getD i dB)).length:Int):=wrap_i64 (by omega) (by omega)
    have w2:IntKind.i64.wrap ((s.2.1.getD k dB).2.2.1+((dz o (s.2.1.getD i dB)).length:Int))=(s.2.1.getD k dB).2.2.1+((dz o (s.2.1.getD i dB)).length:Int):=wrap_i64 (by omega) (by omega)
    simp only [w1,w2]
    by_cases c1:(s.2.1.getD k dB).2.2.2.1.length+(dz o (s.2.1.getD i dB)).length>6
    ·have c1':((s.2.1.getD k dB).2.2.2.1.length:Int)+((dz o (s.2.1.getD i dB)).length:Int)>6:=by omega
     simp only [c1,c1',decide_true,if_true]
    ·have c1':¬(((s.2.1.getD k dB).2.2.2.1.length:Int)+((dz o (s.2.1.getD i dB)).length:Int)>6):=by omega
     simp only [c1,c1',decide_false,age,if_false]
     by_cases c2:(s.2.1.getD k dB).2.2.1+((dz o (s.2.1.getD i dB)).length:Int)>1000
     ·simp only [c2,decide_true,if_true]
     ·simp only [c2,decide_false,age,if_false]
      refine (Bo (s:=s) (k:=k) (l:=dz o (s.2.1.getD i dB)) (b:=s.2.1.getD k dB) (fun _ _=>rfl) hk rfl XC hT hK1.1 hK1.2 hK2 hn).trans ?_
      have hi2:i<(s.2.1.set k (eX (s.2.1.getD k dB) (dz o (s.2.1.getD i dB)))).length:=by simpa using hi
      simp only [h6,decide_true,if_true,if_pos (aV hi2),agm]
  ·rw [decide_eq_false h6,if_neg Bool.false_ne_true,if_neg (show ¬(o.1=6∧(k:Int)=(i:Int)) from fun h=>h6 h.1),if_pos (aV hi)]
   simp only [agm,za Qi hn,agc,Ew Qi.2.1 ho.2.2.1 hn,if_pos (aV hk)]
   unfold sS
   have w1:IntKind.i64.wrap (((s.2.1.getD k dB).2.2.2.1.length:Int)+((dz o (s.2.1.getD i dB)).length:Int))=((s.2.1.getD k dB).2.2.2.1.length:Int)+((dz o (s.2.1.getD i dB)).length:Int):=wrap_i64 (by omega) (by omega)
   have w2:IntKind.i64.wrap ((s.2.1.getD k dB).2.2.1+((dz o (s.2.1.getD i dB)).length:Int))=(s.2.1.getD k dB).2.2.1+((dz o (s.2.1.getD i dB)).length:Int):=wrap_i64 (by omega) (by omega)
   simp only [w1,w2]
   by_cases c1:(s.2.1.getD k dB).2.2.2.1.length+(dz o (s.2.1.getD i dB)).length>6
   ·have c1':((s.2.1.getD k dB).2.2.2.1.length:Int)+((dz o (s.2.1.getD i dB)).length:Int)>6:=by omega
    simp only [c1,c1',decide_true,if_true]
   ·have c1':¬(((s.2.1.getD k dB).2.2.2.1.length:Int)+((dz o (s.2.1.getD i dB)).length:Int)>6):=by omega
    simp only [c1,c1',decide_false,age,if_false]
    by_cases c2:(s.2.1.getD k dB).2.2.1+((dz o (s.2.1.getD i dB)).length:Int)>1000
    ·simp only [c2,decide_true,if_true]
    ·simp only [c2,decide_false,age,if_false]
     refine (Bo (s:=s) (k:=k) (l:=dz o (s.2.1.getD i dB)) (b:=s.2.1.getD k dB) (fun _ _=>rfl) hk rfl XC hT hK1.1 hK1.2 hK2 hn).trans ?_
     simp only [h6,decide_false,age,if_false]
theorem getD_set_ne {A:Type} {xs:List A} {i k:Nat} (h:k≠i) (y d:A):(xs.set k y).getD i d=xs.getD i d:=by
 rw [agq,agq,List.getElem?_set_ne h]
theorem QS {n:Nat} {ms:List mK} {o:OpC} (hb:ms.length≤big) (ho:o.2.2.2.1.length≤big) (hn:big<n) :
  aF n ms o=some (((ms.filter fun m=>!o.2.2.2.1.contains m.1).length:Int),(ms.filter fun m=>!o.2.2.2.1.contains m.1)++List.replicate (ms.length - (ms.filter fun m=>!o.2.2.2.1.contains m.1).length) dM,()):=by
 unfold big at hb ho hn
 show jL.yL n ms o=_
 unfold jL.yL
 rw [if_pos ⟨by omega,by omega,by omega,by omega⟩]
 rfl
theorem copied {n:Nat} {s:kT} {i:Nat} {o:OpC} (hs:yu s) (ho:okO o) (hsm:∀b∈s.2.1,FQ b) (hi:i<s.2.1.length) (hn:big<n):jJ n s (i:Int) o=some (carried s i o):=by
 unfold jJ carried
 rw [box hs.1 hn]
 simp only [agc]
 rcases jF s o.2.2.1 with h | ⟨k,h,hk⟩
 ·rw [h]; rfl
 ·rw [h]
  have h0:¬((k:Int)<0):=by omega
  rw [decide_eq_false h0,if_neg Bool.false_ne_true,if_neg h0]
  have hA:=hsm _ (dI hi dB)
  have hK:=hsm _ (dI hk dB)
  have Qi:=hs.2 _ (dI hi dB)
  have hKo:=hs.2 _ (dI hk dB)
  have hT:(dz o (s.2.1.getD i dB)).length≤6:=Nat.le_trans (List.length_filter_le _ _) hA.2
  have XC:∀m∈dz o (s.2.1.getD i dB),MR m:=fun m hm=>Qi.2.2 m (agu.1 hm).1
  have hK2:=hK.2
  have hK1:=hK.1
  have w1:IntKind.i64.wrap (((s.2.1.getD k dB).2.2.2.1.length:Int)+((dz o (s.2.1.getD i dB)).length:Int))=((s.2.1.getD k dB).2.2.2.1.length:Int)+((dz o (s.2.1.getD i dB)).length:Int):=wrap_i64 (by omega) (by omega)
  have w2:IntKind.i64.wrap ((s.2.1.getD k dB).2.2.1+((dz o (s.2.1.getD i dB)).length:Int))=(s.2.1.getD k dB).2.2.1+((dz o (s.2.1.getD i dB)).length:Int):=wrap_i64 (by omega) (by omega)
  have hlist:(s.2.1.getD i dB).2.2.2.1.filter (fun m=>o.2.2.2.1.contains m.1)=dz o (s.2.1.getD i dB):=rfl
  by_cases h6:o.1=6
  ·rw [decide_eq_true h6,if_pos rfl]
   by_cases he:(k:Int)=(i:Int)
   ·rw [decide_eq_true he,if_pos rfl,if_pos ⟨h6,he⟩]
   ·rw [decide_eq_false he,if_neg Bool.false_ne_true,if_neg (show ¬(o.1=6∧(k:Int)=(i:Int)) from fun h=>he h.2),if_pos (aV hi)]
    simp only [agm]
    refine (Eb (s:=s) (o:=o) (a:=(i:Int)) (b:=(k:Int)) (ms:=(s.2.1.getD i dB).2.2.2.1) (fun _ _=>rfl) Qi.2.1 ho.2.2.1 hn).trans ?_
    simp only [if_pos (aV hk),agm,hlist,w1]
    unfold sS
    by_cases c1:(s.2.1.getD k dB).2.2.2.1.length+(dz o (s.2.1.getD i dB)).length>6
    ·have c1':((s.2.1.getD k dB).2.2.2.1.length:Int)+((dz o (s.2.1.getD i dB)).length:Int)>6:=by omega
     simp only [c1,c1',decide_true,if_true]
    ·have c1':¬(((s.2.1.getD k dB).2.2.2.1.length:Int)+((dz o (s.2.1.getD i dB)).length:Int)>6):=by omega
     have hlen:dZ n (dz o (s.2.1.getD i dB))=some (((dz o (s.2.1.getD i dB)).length:Int),()):=rfl
     simp only [c1,c1',decide_false,age,if_false,hlen,agc,w2]
     by_cases c2:(s.2.1.getD k dB).2.2.1+((dz o (s.2.1.getD i dB)).length:Int)>1000
     ·simp only [c2,decide_true,if_true]
     ·simp only [c2,decide_false,age,if_false]
      refine (Bn (s:=s) (k:=k) (l:=dz o (s.2.1.getD i dB)) (b:=s.2.1.getD k dB) (fun _ _=>rfl) hk rfl XC hT hK1.1 hK1.2 hK2 hn).trans ?_
      have hki:k≠i:=fun h=>he (by omega)
      have hi2:i<(s.2.1.set k (eX (s.2.1.getD k dB) (dz o (s.2.1.getD i dB)))).length:=by simpa using hi
      simp only [h6,decide_true,if_true,if_pos (aV hi2),agm,xA,getD_set_ne hki,QS Qi.2.1 ho.2.2.1 hn,agc,List.set_set,CV hi2,List.take_left']
      rfl
  ·rw [decide_eq_false h6,if_neg Bool.false_ne_true,if_neg (show ¬(o.1=6∧(k:Int)=(i:Int)) from fun h=>h6 h.1),if_pos (aV hi)]
   simp only [agm]
   refine (Eb (s:=s) (o:=o) (a:=(i:Int)) (b:=(k:Int)) (ms:=(s.2.1.getD i dB).2.2.2.1) (fun _ _=>rfl) Qi.2.1 ho.2.2.1 hn).trans ?_
   simp only [if_pos (aV hk),agm,hlist,w1]
   unfold sS
   by_cases c1:(s.2.1.getD k dB).2.2.2.1.length+(dz o (s.2.1.getD i dB)).length>6
   ·have c1':((s.2.1.getD k dB).2.2.2.1.length:Int)+((dz o (s.2.1.getD i dB)).length:Int)>6:=by omega
    simp only [c1,c1',decide_true,if_true]
   ·have c1':¬(((s.2.1.getD k dB).2.2.2.1.length:Int)+((dz o (s.2.1.getD i dB)).length:Int)>6):=by omega
    have hlen:dZ n (dz o (s.2.1.getD i dB))=some (((dz o (s.2.1.getD i dB)).length:Int),()):=rfl
    simp only [c1,c1',decide_false,age,if_false,hlen,agc,w2]
    by_cases c2:(s.2.1.getD k dB).2.2.1+((dz o (s.2.1.getD i dB)).length:Int)>1000
    ·simp only [c2,decide_true,if_true]
    ·simp only [c2,decide_false,age,if_false]
     refine (Bn (s:=s) (k:=k) (l:=dz o (s.2.1.getD i dB)) (b:=s.2.1.getD k dB) (fun _ _=>rfl) hk rfl XC hT hK1.1 hK1.2 hK2 hn).trans ?_
     simp only [h6,decide_false,age,if_false]
abbrev xN:=Int×List Int×kT×Unit
def bad (c:Int):xN:=(c,[],(0,[],()),())
def wP (s:kT) (o:OpC):List Int×Int×kT×Unit:=
 if rY s o.2.1≥0 then ([],6,s,()) else if s.2.1.length=3 then ([],10,s,()) else if s.1=1000 then ([],10,s,()) else ([],0,(s.1+1,s.2.1++[(o.2.1,s.1,1,[],())],()),())
def Lr (s:kT) (i:Nat) (o:OpC):List Int×Int×kT×Unit:=
 if (s.2.1.getD i dB).2.2.2.1.length=6 then ([],10,s,()) else if (s.2.1.getD i dB).2.2.1=1000 then ([],10,s,()) else
  ([(s.2.1.getD i dB).2.2.1],0,(s.1,s.2.1.set i (tu (s.2.1.getD i dB) (0,o.2.2.2.2.2.1,o.2.2.2.2.2.2.1,o.2.2.2.2.2.2.2.1,())),()),())
def Em (s:kT) (i:Nat) (o:OpC):List Int×Int×kT×Unit:=
 if o.1=2 then ([],0,(s.1,s.2.1.take i++s.2.1.drop (i+1),()),()) else
 if o.1=3 then Lr s i o else
 if o.1=4 then (DW o (s.2.1.getD i dB),0,(s.1,s.2.1.set i (BP o (s.2.1.getD i dB)),()),()) else
 if o.1=7 then (Og (s.2.1.getD i dB),0,(s.1,s.2.1.set i (Pd (s.2.1.getD i dB)),()),()) else carried s i o
def iY (s:kT) (o:OpC):List Int×Int×kT×Unit:=
 if o.1=1 then wP s o else if rY s o.2.1<0 then ([],4,s,()) else Em s (rY s o.2.1).toNat o
def tC (r:List Int×Int×kT×Unit):xN:=if r.2.1=0 then (0,r.1,r.2.2.1,()) else bad r.2.1
structure Fit (s:kT) (o:OpC):Prop where
 yu:yu s
 okO:okO o
 val:1≤s.1∧s.1≤1000
 few:s.2.1.length≤3
 small:∀b∈s.2.1,FQ b
 mode:o.1=4→1≤o.2.2.2.2.1∧o.2.2.2.2.1≤3
theorem made {n:Nat} {s:kT} {o:OpC} (h:Fit s o) (hn:big<n):kX n s o.2.1=some ((wP s o).2.1,(wP s o).2.2.1,())∧(wP s o).1=[]:=by
 have hf:=h.few
 have hv:=h.val
 unfold kX wP
 rw [box h.yu.1 hn]
 simp only [agc]
 by_cases c0:rY s o.2.1≥0
 ·simp only [c0,decide_true,if_true,and_self]
 ·simp only [c0,decide_false,age,if_false]
  by_cases c1:s.2.1.length=3
  ·simp only [c1,if_true]
   exact ⟨rfl,trivial⟩
  ·have:¬(s.2.1.length:Int)=3:=by omega
   simp only [c1,this,decide_false,age,if_false]
   by_cases c2:s.1=1000
   ·simp only [c2,decide_true,if_true,and_self]
   ·simp only [c2,decide_false,age,if_false,agx,and_true]
    rw [if_pos (by omega),wrap_i64 (by omega) (by omega)]
theorem U3 {n:Nat} {s:kT} {o:OpC} (h:Fit s o) (hn:big<n):pX n s o=some (tC (wP s o),()):=by
 have hf:=h.few
 have hv:=h.val
 unfold pX wP
 rw [U2 h.yu.1 hn]
 simp only [agc]
 by_cases c0:rY s o.2.1≥0
 ·simp only [c0,decide_true,if_true]; rfl
 ·simp only [c0,decide_false,age,if_false]
  by_cases c1:s.2.1.length=3
  ·have:(s.2.1.length:Int)≥3:=by omega
   simp only [c1,this,decide_true,if_true]; rfl
  ·have:¬(s.2.1.length:Int)≥3:=by omega
   simp only [c1,this,decide_false,age,if_false]
   by_cases c2:s.1=1000
   ·have:s.1≥1000:=by omega
    simp only [c2,decide_true,if_true]; rfl
   ·have:¬s.1≥1000:=by omega
    simp only [c2,this,decide_false,age,if_false,O9 h.yu hn,agc,agx]
    rw [if_pos (by omega),wrap_i64 (by omega) (by omega)]
    rfl
theorem JO {o:OpC} (ho:okO o):MR (0,o.2.2.2.2.2.1,o.2.2.2.2.2.2.1,o.2.2.2.2.2.2.2.1,()):=ho.2.2.2
theorem IX {n:Nat} {s:kT} {o:OpC} (h:Fit s o) (hn:big<n):j5 n s o=some (iY s o):=by
 unfold j5 iY
 by_cases k1:o.1=1
 ·obtain ⟨h1,h2⟩:=made h hn
  simp only [k1,decide_true,if_true,h1,agc]
  rw [←h2]
 ·simp only [k1,decide_false,age,if_false,box h.yu.1 hn,agc]
  rcases jF s o.2.1 with hp | ⟨i,hp,hi⟩
  ·rw [hp]; rfl
  ·rw [hp]
   have h0:¬((i:Int)<0):=by omega
   simp only [h0,decide_false,age,if_false,if_pos (aV hi),agm]
   have hB:=h.small _ (dI hi dB)
   have JA:=h.yu.2 _ (dI hi dB)
   have hB1:=hB.1
   have hB2:=hB.2
   have hf:=h.few
   unfold Em
   by_cases k2:o.1=2
   ·have hw:IntKind.i64.wrap ((i:Int)+1)=((i+1:Nat):Int):=bL hi (by omega)
    have hdel:bU n s.2.1 (i:Int) ((i+1:Nat):Int)=some (((s.2.1.length - 1:Nat):Int),s.2.1.take i++s.2.1.drop (i+1)++[dB],()):=by
     show jL.Bz dB s.2.1 (i:Int) ((i+1:Nat):Int)=_
     unfold jL.Bz
     rw [if_pos ⟨by omega,by omega,by omega⟩]
     simp only [agm,Nat.add_sub_cancel_left]
     rfl
    have hl:(s.2.1.take i++s.2.1.drop (i+1)).length=s.2.1.length - 1:=by simp; omega
    simp only [k2,decide_true,if_true,hw,hdel,agc,agm]
    rw [←hl,List.take_left']
    rfl
   ·simp only [k2,decide_false,age,if_false]
    by_cases k3:o.1=3
    ·simp only [k3,decide_true,if_true]
     unfold Lr
     by_cases c1:(s.2.1.getD i dB).2.2.2.1.length=6
     ·simp only [c1,if_true]
      rfl
     ·have:¬((s.2.1.getD i dB).2.2.2.1.length:Int)=6:=by omega
      simp only [c1,this,decide_false,age,if_false]
      by_cases c2:(s.2.1.getD i dB).2.2.1=1000
      ·simp only [c2,decide_true,if_true]
      ·have hput:=Ie (n:=n) (b:=s.2.1.getD i dB) (JO h.okO) (by omega) (by omega) (by omega)
       simp only [c2,decide_false,age,if_false,hput,agc]
    ·simp only [k3,decide_false,age,if_false]
     by_cases k4:o.1=4
     ·simp only [k4,decide_true,if_true,Ma JA.2.1 h.okO.2.2.1 hn (h.mode k4),agc]
     ·simp only [k4,decide_false,age,if_false]
      by_cases k7:o.1=7
      ·simp only [k7,decide_true,if_true,Vf JA.2.1 hn,agc]
      ·simp only [k7,decide_false,age,if_false,copied h.yu h.okO h.small hi hn,agc]
theorem Mg {n:Nat} {ms:List mK} {r0:xN} {st:kT} {c:Int} {B:(Int×xN×xN×List mK×Unit→Option (xN×Unit))→Int×xN×xN×List mK×Unit→Option (xN×Unit)}
  (hB:∀L v,B L v=(if decide (v.1<(v.2.2.2.1.length:Int))=true then (if aN v.1 v.2.2.2.1.length then (if (v.2.2.1.2.1.length+[(v.2.2.2.1.getD v.1.toNat dM).1].length) * 8≤140737488355328 then L (IntKind.i64.wrap (v.1+(1:Int)),v.2.1,(v.2.2.1.1,v.2.2.1.2.1++[(v.2.2.2.1.getD v.1.toNat dM).1],v.2.2.1.2.2),v.2.2.2.1,()) else none) else none) else some (v.2.2.1,())))
  (hb:ms.length≤big) (hn:big<n):rounds B n ((0:Int),r0,(c,[],st,()),ms,())=some ((c,ms.map (·.1),st,()),()):=by
 have hb':ms.length≤1048576:=hb
 refine (bE (fun i=>((i:Int),r0,(c,(ms.take i).map (·.1),st,()),ms,())) (fun _=>none) (some ((c,ms.map (·.1),st,()),())) (m:=ms.length) (by simp) (by omega) ?_ ?_).trans (fq (fun _ _ _=>rfl))
 ·intro L i hi _
  have ht:ms.take (i+1)=ms.take i++[ms[i]]:=by simp
  have hl:((ms.take i).map (·.1)).length≤i:=by simp; omega
  simp only [hB,agE,hi,decide_true,if_true,aV hi,oD hi,bL hi (by omega),agx,ht,List.map_append,List.map_cons,List.map_nil]
  rw [if_pos (by omega)]
 ·intro L _
  simp only [hB,Int.lt_irrefl,decide_false,age,if_false,List.take_length]
theorem IY {n:Nat} {s:kT} {o:OpC} (h:Fit s o) (hn:big<n):oh n s o=some (tC (iY s o),()):=by
 unfold oh iY
 by_cases k1:o.1=1
 ·simp only [k1,decide_true,if_true,U3 h hn,agc]
 ·simp only [k1,decide_false,age,if_false,U2 h.yu.1 hn,agc]
  rcases jF s o.2.1 with hp | ⟨i,hp,hi⟩
  ·rw [hp]; rfl
  ·rw [hp]
   have h0:¬((i:Int)<0):=by omega
   simp only [h0,decide_false,age,if_false,O9 h.yu hn,agc,if_pos (aV hi),agm]
   have hB:=h.small _ (dI hi dB)
   have JA:=h.yu.2 _ (dI hi dB)
   have hB1:=hB.1
   have hB2:=hB.2
   have hf:=h.few
   unfold Em
   by_cases k2:o.1=2
   ·have hw:IntKind.i64.wrap ((i:Int)+1)=((i+1:Nat):Int):=bL hi (by omega)
    simp only [k2,decide_true,if_true,hw,agm]
    rw [if_pos ⟨by omega,by omega⟩,if_pos (by simp; omega),if_pos ⟨by omega,by omega⟩,if_pos (by simp; omega)]
    rfl
   ·simp only [k2,decide_false,age,if_false]
    by_cases k3:o.1=3
    ·simp only [k3,decide_true,if_true]
     unfold Lr
     by_cases c1:(s.2.1.getD i dB).2.2.2.1.length=6
     ·have:((s.2.1.getD i dB).2.2.2.1.length:Int)≥6:=by omega
      simp only [c1,this,decide_true,if_true]; rfl
     ·have:¬((s.2.1.getD i dB).2.2.2.1.length:Int)≥6:=by omega
      simp only [c1,this,decide_false,age,if_false]
      by_cases c2:(s.2.1.getD i dB).2.2.1=1000
      ·have:(s.2.1.getD i dB).2.2.1≥1000:=by omega
       simp only [c2,this,decide_true,if_true]; rfl
      ·have:¬(s.2.1.getD i dB).2.2.1≥1000:=by omega
       have hput:=Ig (n:=n) (b:=s.2.1.getD i dB) (JO h.okO) (by omega) (by omega) (by omega)
       simp only [c2,this,decide_false,age,if_false,hput,agc]
       rfl
    ·simp only [k3,decide_false,age,if_false]
     by_cases k4:o.1=4
     ·simp only [k4,decide_true,if_true,Mc JA.2.1 h.okO.2.2.1 hn,agc]
      rfl
     ·simp only [k4,decide_false,age,if_false]
      by_cases k7:o.1=7
      ·simp only [k7,decide_true,if_true,M8 JA.2.1 hn,agc]
       exact Mg (fun _ _=>rfl) (Nat.le_trans (List.length_filter_le _ _) JA.2.1) hn
      ·simp only [k7,decide_false,age,if_false,Rv h.yu h.okO h.small hi hn,agc]
       unfold tC
       by_cases c:(carried s i o).2.1=0
       ·simp only [c,decide_true,agF,age,if_false,if_true]
       ·simp only [c,decide_false,agQ,if_true,if_false]; rfl
theorem copies {n:Nat} (k:Int):dN n k=some (decide (k=5) || decide (k=6),()):=by
 unfold dN
 cases decide (k=5) <;> rfl
theorem Oo {n:Nat} (o:OpC):kG n o=some (decide (o.1=5) || decide (o.1=6),()):=copies (n:=n) o.1
theorem Q8 {n:Nat} (o:OpC):jv n o=some ((decide (o.1=5) || decide (o.1=6)) || decide (o.1=4),()):=by
 unfold jv
 rw [Oo]
 simp only [agc]
 cases (decide (o.1=5) || decide (o.1=6)) <;> rfl
theorem Ul (k:Nat):decide ((k:Int)>0)=!decide ((k:Int)=0):=by
 by_cases h:k=0
 ·subst h; rfl
 ·rw [decide_eq_true (by omega),decide_eq_false (by omega)]; rfl
def xY (o:OpC):Bool:=(((decide (o.1=5) || decide (o.1=6)) || decide (o.2.2.1=[])) && ((((decide (o.1=5) || decide (o.1=6)) || decide (o.1=4)) || decide ((o.2.2.2.1.length:Int)=0)) && ((decide (o.1=4) || decide (o.2.2.2.2.1=0)) &&
 ((decide (o.1=4) || (decide (o.1=3) || decide (o.2.2.2.2.2.1=0))) && (decide (o.1=3) || (decide (o.2.2.2.2.2.2.1=0) && decide ((o.2.2.2.2.2.2.2.1.length:Int)=0)))))))
set_option maxRecDepth 20000 in
theorem only {n:Nat} (o:OpC):lZ n o=some (xY o,()):=by
 unfold lZ xY
 simp only [Oo,Q8,agc]
 generalize (decide (o.1=5) || decide (o.1=6))=c
 generalize decide (o.2.2.1=[])=b1
 generalize decide (o.1=4)=b2
 generalize decide ((o.2.2.2.1.length:Int)=0)=b3
 generalize decide (o.2.2.2.2.1=0)=b4
 generalize decide (o.1=3)=b5
 generalize decide (o.2.2.2.2.2.1=0)=b6
 generalize decide (o.2.2.2.2.2.2.1=0)=b7
 generalize decide ((o.2.2.2.2.2.2.2.1.length:Int)=0)=b8
 revert c b1 b2 b3 b4 b5 b6 b7 b8
 decide +kernel
set_option maxRecDepth 20000 in
theorem form {n:Nat} (o:OpC):pW n o=some (decide (1≤o.1∧o.1≤7) && xY o,()):=by
 unfold pW xY
 simp only [Aj,copies,agc,Ul]
 generalize (decide (o.1=5) || decide (o.1=6))=c
 generalize decide (o.2.2.1=[])=b1
 generalize decide (o.1=4)=b2
 generalize decide ((o.2.2.2.1.length:Int)=0)=b3
 generalize decide (o.2.2.2.2.1=0)=b4
 generalize decide (o.1=3)=b5
 generalize decide (o.2.2.2.2.2.1=0)=b6
 generalize decide (o.2.2.2.2.2.2.1=0)=b7
 generalize decide ((o.2.2.2.2.2.2.2.1.length:Int)=0)=b8
 generalize decide (1≤o.1∧o.1≤7)=b9
 revert c b1 b2 b3 b4 b5 b6 b7 b8 b9
 decide +kernel
def De (us:List Int) (j:Nat):Bool:=!decide (1≤us.getD j 0∧us.getD j 0≤999) || (decide ((j:Int)>0) && decide (us.getD j 0≤us.getD (j - 1) 0))
theorem Nf {n:Nat} {us:List Int} (hb:us.length≤big) (hn:big<n):mU n us=dm (fun j=>if De us j=true then some (some (false,())) else none) (some (true,())) us.length 0:=by
 have hb':us.length≤1048576:=hb
 unfold mU
 refine bE (fun i=>(us,(i:Int),())) (fun j=>if De us j=true then some (some (false,())) else none) (some (true,())) (m:=us.length) rfl (by omega) ?_ ?_
 ·intro L i hi _
  simp only [agE,hi,decide_true,if_true,aV hi,agm,Aj,agc,bL hi (by omega)]
  unfold De
  cases h1:decide (1≤us.getD i 0∧us.getD i 0≤999) with
  | false=>rfl
  | true=>
   cases i with
   | zero=>rfl
   | succ j=>
    have hj:j<us.length:=by omega
    rw [decide_eq_true (show ((j+1:Nat):Int)>0 by omega),zw hj (by omega)]
    simp only [aV hj,if_true,agm,Nat.add_sub_cancel,agF,age,if_false,Bool.false_or,Bool.true_and]
    by_cases hle:us.getD (j+1) 0≤us.getD j 0
    ·simp only [hle,decide_true,if_true]
    ·simp only [hle,decide_false,age,if_false]
 ·intro L _
  simp
theorem Nc {n:Nat} {us:List Int} (hb:us.length≤big) (hn:big<n):lI n us=dm (fun j=>if De us j=true then some (some (false,())) else none) (some (true,())) us.length 0:=by
 have hb':us.length≤1048576:=hb
 unfold lI
 refine bE (fun i=>(us,us,(us.length:Int),(i:Int),())) (fun j=>if De us j=true then some (some (false,())) else none) (some (true,())) (m:=us.length) rfl (by omega) ?_ ?_
 ·intro L i hi _
  have hu:mg n (us.getD i 0)=some (decide (1≤us.getD i 0∧us.getD i 0≤999),()):=by
   unfold mg
   rw [pK,Aj]; rfl
  simp only [agE,hi,decide_true,if_true,aV hi,agm,hu,agc,bL hi (by omega)]
  unfold De
  cases h1:decide (1≤us.getD i 0∧us.getD i 0≤999) with
  | false=>rfl
  | true=>
   cases i with
   | zero=>rfl
   | succ j=>
    have hj:j<us.length:=by omega
    rw [decide_eq_true (show ((j+1:Nat):Int)>0 by omega),zw hj (by omega)]
    simp only [aV hj,if_true,agm,Nat.add_sub_cancel,agF,age,if_false,Bool.false_or,Bool.true_and,ge_iff_le]
    cases decide (us.getD (j+1) 0≤us.getD j 0) <;> rfl
 ·intro L _
  simp
def Ac (us:List Int):Bool:=((dm (fun j=>if De us j=true then some (some (false,())) else none) (some (true,())) us.length 0).getD (false,())).1
theorem Iu (us:List Int):dm (fun j=>if De us j=true then some (some (false,())) else none) (some (true,())) us.length 0=some (Ac us,()):=by
 unfold Ac
 rcases Fe (step:=fun j=>if De us j=true then some (some (false,())) else none) (fin:=some (true,())) (r:=some (false,())) (fun j=>by by_cases h:De us j=true <;> simp [h]) (m:=us.length) (i:=0) with h | h <;> rw [h] <;> rfl
def nJ (o:OpC):Int:=
 if (!(decide (1≤o.1∧o.1≤7) && xY o))=true then 1 else
 if (!decide (nQ o.2.1) || ((decide (o.1=5) || decide (o.1=6)) && !decide (nQ o.2.2.1)))=true then 5 else
 if decide ((o.2.2.2.1.length:Int)>6)=true then 2 else
 if (!Ac o.2.2.2.1 || (decide (o.1=4) && !decide (1≤o.2.2.2.2.1∧o.2.2.2.2.1≤3)) || !decide (0≤o.2.2.2.2.2.1∧o.2.2.2.2.2.1≤15) || !decide (0≤o.2.2.2.2.2.2.1∧o.2.2.2.2.2.2.1≤9999))=true then 3 else
 if decide ((o.2.2.2.2.2.2.2.1.length:Int)>400)=true then 2 else 0
set_option maxRecDepth 20000 in
theorem BM {n:Nat} {o:OpC} (ho:okO o) (hn:big<n):lK n o=some (nJ o,()):=by
 unfold lK nJ
 simp only [form,(name_eq ho.1 hn).2,(name_eq ho.2.1 hn).2,copies,Aj,Nf ho.2.2.1 hn,Iu,agc]
 generalize (decide (1≤o.1∧o.1≤7) && xY o)=b0
 generalize decide (nQ o.2.1)=b1
 generalize (decide (o.1=5) || decide (o.1=6))=b2
 generalize decide (nQ o.2.2.1)=b3
 generalize decide ((o.2.2.2.1.length:Int)>6)=b4
 generalize Ac o.2.2.2.1=b5
 generalize decide (o.1=4)=b6
 generalize decide (1≤o.2.2.2.2.1∧o.2.2.2.2.1≤3)=b7
 generalize decide (0≤o.2.2.2.2.2.1∧o.2.2.2.2.2.1≤15)=b8
 generalize decide (0≤o.2.2.2.2.2.2.1∧o.2.2.2.2.2.2.1≤9999)=b9
 generalize decide ((o.2.2.2.2.2.2.2.1.length:Int)>400)=c
 revert b0 b1 b2 b3 b4 b5 b6 b7 b8 b9 c
 decide +kernel
set_option maxRecDepth 20000 in
theorem BL {n:Nat} {o:OpC} (ho:okO o) (hn:big<n):lH n o=some (nJ o,()):=by
 have hfl:∀x,fD n x=some (decide (0≤x∧x≤15),()):=fun x=>by unfold fD; rw [pK,Aj]; rfl
 have hda:∀x,gH n x=some (decide (0≤x∧x≤9999),()):=fun x=>by unfold gH; rw [pK,Aj]; rfl
 unfold lH nJ
 simp only [only,(name_eq ho.1 hn).1,(name_eq ho.2.1 hn).1,Oo,pK,Aj,Nc ho.2.2.1 hn,Iu,hfl,hda,agc]
 generalize xY o=b0
 generalize decide (1≤o.1∧o.1≤7)=a0
 generalize decide (nQ o.2.1)=b1
 generalize (decide (o.1=5) || decide (o.1=6))=b2
 generalize decide (nQ o.2.2.1)=b3
 generalize decide ((o.2.2.2.1.length:Int)>6)=b4
 generalize Ac o.2.2.2.1=b5
 generalize decide (o.1=4)=b6
 generalize decide (1≤o.2.2.2.2.1∧o.2.2.2.2.1≤3)=b7
 generalize decide (0≤o.2.2.2.2.2.1∧o.2.2.2.2.2.1≤15)=b8
 generalize decide (0≤o.2.2.2.2.2.2.1∧o.2.2.2.2.2.2.1≤9999)=b9
 generalize decide ((o.2.2.2.2.2.2.2.1.length:Int)>400)=c
 revert a0 b0 b1 b2 b3 b4 b5 b6 b7 b8 b9 c
 decide +kernel
def okR (r:xN):Prop:=r.2.1.length≤big∧yu r.2.2.1
theorem K4 (c:Int):okR (bad c):=by
 refine ⟨by simp [bad,big],by simp [bad,big],fun b hb=>?_⟩
 simp [bad] at hb
theorem yw {s:kT} {i:Nat} {b:Bx} {v:Int} (hs:yu s) (hb:okB b):yu (v,s.2.1.set i b,()):=by
 refine ⟨by simpa using hs.1,fun x hx=>?_⟩
 rcases List.mem_or_eq_of_mem_set hx with h | rfl
 ·exact hs.2 x h
 ·exact hb
theorem Cy {b:Bx} {p:mK→Bool} (h:okB b):okB (b.1,b.2.1,b.2.2.1,b.2.2.2.1.filter p,()):=
 ⟨h.1,Nat.le_trans (List.length_filter_le _ _) h.2.1,fun m hm=>h.2.2 m (agu.1 hm).1⟩
theorem LF {s:kT} {i k:Nat} {o:OpC} (hs:yu s) (hsm:∀b∈s.2.1,FQ b) (hi:i<s.2.1.length) (hk:k<s.2.1.length):(sS s i k o).1.length≤big∧yu (sS s i k o).2.2.1:=by
 have hT:(dz o (s.2.1.getD i dB)).length≤6:=Nat.le_trans (List.length_filter_le _ _) (hsm _ (dI hi dB)).2
 have hK:=(hsm _ (dI hk dB)).2
 unfold sS
 split
 ·exact ⟨by simp [big],hs⟩
 ·split
  ·exact ⟨by simp [big],hs⟩
  ·have hP:okB (eX (s.2.1.getD k dB) (dz o (s.2.1.getD i dB))):=Eh (hs.2 _ (dI hk dB)) (fun m hm=>(hs.2 _ (dI hi dB)).2.2 m (agu.1 hm).1) (by unfold big; omega)
   refine ⟨by rw [qa]; unfold big; omega, ?_⟩
   have h1:yu (s.1,s.2.1.set k (eX (s.2.1.getD k dB) (dz o (s.2.1.getD i dB))),()):=yw hs hP
   by_cases h6:o.1=6
   ·simp only [h6,if_true]
    exact yw (s:=(s.1,s.2.1.set k (eX (s.2.1.getD k dB) (dz o (s.2.1.getD i dB))),())) h1 (Cy (hs.2 _ (dI hi dB)))
   ·simp only [h6,if_false]
    exact h1
theorem Lu {s:kT} {o:OpC} (h:Fit s o):(iY s o).1.length≤big∧yu (iY s o).2.2.1:=by
 have hs:=h.yu
 have hf:=h.few
 unfold iY
 by_cases k1:o.1=1
 ·rw [if_pos k1]
  unfold wP
  split
  ·exact ⟨by simp [big],hs⟩
  ·split
   ·exact ⟨by simp [big],hs⟩
   ·split
    ·exact ⟨by simp [big],hs⟩
    ·refine ⟨by simp [big], ?_,fun b hb=>?_⟩
     ·simp [big]; omega
     ·rcases agl.1 hb with hb | hb
      ·exact hs.2 b hb
      ·simp only [agw] at hb
       subst hb
       exact ⟨h.okO.1,by simp [big],by simp⟩
 ·rw [if_neg k1]
  rcases jF s o.2.1 with hp | ⟨i,hp,hi⟩
  ·rw [hp,if_pos (by decide)]
   exact ⟨by simp [big],hs⟩
  ·rw [hp,if_neg (by omega),agm]
   have hB:=h.small _ (dI hi dB)
   have JA:=hs.2 _ (dI hi dB)
   have hB2:=hB.2
   unfold Em
   split
   ·refine ⟨by simp [big], ?_,fun b hb=>?_⟩
    ·simp [big]; omega
    ·rcases agl.1 hb with hb | hb
     ·exact hs.2 b (List.mem_of_mem_take hb)
     ·exact hs.2 b (List.mem_of_mem_drop hb)
   ·split
    ·unfold Lr
     split
     ·exact ⟨by simp [big],hs⟩
     ·split
      ·exact ⟨by simp [big],hs⟩
      ·refine ⟨by simp [big],yw hs (Eh (l:=[_]) JA (fun m hm=>?_) (by simp only [agx]; unfold big; omega))⟩
       simp only [agw] at hm
       subst hm
       exact JO h.okO
    ·split
     ·refine ⟨?_,yw hs ⟨JA.1,by simpa [BP] using JA.2.1,fun m hm=>?_⟩⟩
      ·unfold DW
       rw [List.length_map]
       exact Nat.le_trans (List.length_filter_le _ _) JA.2.1
      ·obtain ⟨x,hx,rfl⟩:=agO.1 hm
       unfold jT
       split
       ·exact JA.2.2 x hx
       ·exact JA.2.2 x hx
     ·split
      ·refine ⟨?_,yw hs (Cy JA)⟩
       unfold Og
       rw [List.length_map]
       exact Nat.le_trans (List.length_filter_le _ _) JA.2.1
      ·unfold carried
       split
       ·exact ⟨by simp [big],hs⟩
       ·split
        ·exact ⟨by simp [big],hs⟩
        ·rename_i hneg _
         rcases jF s o.2.2.1 with hp2 | ⟨k,hp2,hk⟩
         ·rw [hp2] at hneg; exact absurd (by decide) hneg
         ·rw [hp2,agm]
          exact LF hs h.small hi hk
theorem RG {s:kT} {o:OpC} (h:Fit s o):okR (tC (iY s o)):=by
 unfold tC
 split
 ·exact Lu h
 ·exact K4 _
theorem fit {s:kT} {o:OpC} (hs:yu s) (ho:okO o) (hg:GQ s) (hf:nJ o=0):Fit s o:=by
 refine ⟨hs,ho,hg.1,hg.2.1,fun b hb=>?_,fun h4=>?_⟩
 ·obtain ⟨i,hi,rfl⟩:=List.mem_iff_getElem.1 hb
  have:=(hg.2.2 i hi).1
  rw [getD_lt hi] at this
  obtain ⟨_,_,h3,h4,_⟩:=this
  exact ⟨⟨by omega,h3.2⟩,h4⟩
 ·unfold nJ at hf
  split at hf
  ·omega
  ·split at hf
   ·omega
   ·split at hf
    ·omega
    ·split at hf
     ·omega
     ·rename_i hc
      rw [decide_eq_true h4] at hc
      simp only [Bool.not_eq_true,Bool.or_eq_false_iff,Bool.true_and] at hc
      have:=hc.1.1.2
      simpa using this
theorem EM {n:Nat} {s:kT} {o:OpC} (hs:yu s) (ho:okO o) (hg:GQ s) (hn:big<n):∃r:xN,iW n s o=some (r,())∧nX n s o=some (r,())∧okR r∧
  ((nJ o=0∧r=tC (iY s o))∨(nJ o≠0∧r=bad (nJ o))):=by
 obtain ⟨he,c,hc,hgc⟩:=BK hs hn
 have h0:=hgc.2 hg
 unfold iW nX
 rw [hc]
 simp only [agc,h0,decide_true,agF,age,if_false,BM ho hn,BL ho hn]
 by_cases h1:nJ o=0
 ·have hF:=fit hs ho hg h1
  simp only [h1,decide_true,agF,age,if_false,IY hF hn,own hs hn,IX hF hn,agc]
  refine ⟨tC (iY s o),rfl, ?_,RG hF, .inl ⟨trivial,rfl⟩⟩
  unfold tC
  by_cases h2:(iY s o).2.1=0
  ·simp only [h2,decide_true,agF,age,if_false,if_true]
  ·simp only [h2,decide_false,agQ,if_true,if_false]
   rfl
 ·refine ⟨bad (nJ o), ?_, ?_,K4 _, .inr ⟨h1,rfl⟩⟩
  ·simp only [h1,decide_false,agQ,if_true]; rfl
  ·simp only [h1,decide_false,agQ,if_true]; rfl
end Go.Proofs.Ytabnmpabdhmkoaa.nu
