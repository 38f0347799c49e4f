/- Ops on stores: what the printed functions of both sides come to. -/
import Derived.Test.YtailcbngagacaaaGreatStoreMath
set_option linter.unusedVariables false
set_option linter.unusedSimpArgs false
namespace Go.Proofs.YtailcbngagacaaaGreat.ng
open Go Ow nJ oh pO
abbrev OpC:=Int×List Int×List Int×List Int×Int×Int×Int×List Int×Unit
def okO (o:OpC):Prop:=o.2.1.length<=big/\o.2.2.1.length<=big/\o.2.2.2.1.length<=big/\o.2.2.2.2.2.2.2.1.length<=big
theorem Fw {n:Nat} {bs:List Int} (h:bs.length<=big):xM n bs=some (bs,()):=by
 unfold big at h
 unfold xM
 rw [aj (by simp; omega)]
 rfl
theorem clone {n:Nat} {bs:List Int} (h:bs.length<=big):A8 n bs=some (bs,()):=by
 unfold big at h
 unfold A8
 have hc:(([]:List Int).length+bs.length) * 1<=140737488355328:=by simp; omega
 simp only [aj hc]
 cases bs with
 | nil=>exact (aj (show ([]:List Int).isEmpty=true from rfl)).trans (agV (ks:=[.sl 5 (.int .u8)]) (some (([]:List Int),())))
 | cons b bs=>rfl
theorem alO {n:Nat} {ms:List dm} (hb:ms.length<=big) (h:∀m∈ms,rD m) (hn:big<n):Lm n ms=some (ms,()):=by
 have hb':=hb
 unfold big at hb
 unfold Lm
 refine (iA (fun i=>(ms,(i:Int),ms.take i,())) (fun _=>none) (some (ms,())) (m:=ms.length) (by simp) (by omega) ?_ ?_).trans (mQ (fun _ _ _=>rfl))
 ·intro L i hi _
  have ht:ms.take (i+1)=ms.take i++[ms[i]]:=by simp
  have hl:(ms.take i).length<=i:=by simp; omega
  simp only [g_,hi,bQ,a_,dz hi,nT hi,gu hi (by omega),Fw (h ms[i] (jY hi)),aL,jN,ht]
  rw [aj (by omega)]
 ·intro L _
  simp
theorem Ta {n:Nat} {b:Bx} (h:okB b) (hn:big<n):DR n b=some (b,()):=by
 unfold DR
 rw [alO h.2.1 h.2.2 hn]
 rfl
theorem Jo {n:Nat} {s:bP} (h:gU s) (hn:big<n):Bb n s=some (s,()):=by
 have hb:=h.1
 unfold big at hb
 unfold Bb
 refine (iA (fun i=>((i:Int),s,(0,[],()),(s.1,s.2.1.take i,()),())) (fun _=>none) (some (s,())) (m:=s.2.1.length) (by simp) (by have:=h.1; omega) ?_ ?_).trans (mQ (fun _ _ _=>rfl))
 ·intro L i hi _
  have ht:s.2.1.take (i+1)=s.2.1.take i++[s.2.1[i]]:=by simp
  have hl:(s.2.1.take i).length<=i:=by simp; omega
  simp only [g_,hi,bQ,a_,dz hi,nT hi,gu hi (by omega),Ta (h.2 _ (jY hi)) hn,aL,jN,ht]
  rw [aj (by omega)]
 ·intro L _
  simp
theorem own {n:Nat} {s:bP} (h:gU s) (hn:big<n):GG n s=some (s,()):=by
 have hb:=h.1
 unfold big at hb
 unfold GG
 refine (iA (fun i=>(s.2.1,(s.2.1.length:Int),(i:Int),(0,[],()),(s.1,s.2.1.take i,()),())) (fun _=>none) (some (s,())) (m:=s.2.1.length) (by simp) (by have:=h.1; omega) ?_ ?_).trans (mQ (fun _ _ _=>rfl))
 ·intro L i hi _
  have ht:s.2.1.take (i+1)=s.2.1.take i++[s.2.1[i]]:=by simp
  have hl:(s.2.1.take i).length<=i:=by simp; omega
  simp only [g_,hi,bQ,a_,dz hi,nT hi]
  have hB:=h.2 _ (jY hi)
  generalize s.2.1[i]=b at hB ht ⊢
  have hb2:=hB.2.1
  unfold big at hb2
  refine (iA (fun j=>(s.2.1,(s.2.1.length:Int),(i:Int),b.2.2.2.1,(b.2.2.2.1.length:Int),(j:Int),(0,[],()),(s.1,s.2.1.take i,()),(b.1,b.2.1,b.2.2.1,b.2.2.2.1.take j,()),())) (fun _=>none) (L (s.2.1,(s.2.1.length:Int),((i+1:Nat):Int),(0,[],()),(s.1,s.2.1.take (i+1),()),())) (m:=b.2.2.2.1.length) (by simp) (by have:=hB.2.1; omega) ?_ ?_).trans (mQ (fun _ _ _=>rfl))
  ·intro L2 j hj _
   have htj:b.2.2.2.1.take (j+1)=b.2.2.2.1.take j++[b.2.2.2.1[j]]:=by simp
   have hlj:(b.2.2.2.1.take j).length<=j:=by simp; omega
   simp only [g_,hj,bQ,a_,dz hj,nT hj,gu hj (by omega),clone (hB.2.2 _ (jY hj)),aL,jN,htj]
   rw [aj (by omega)]
  ·intro L2 _
   simp only [pJ,d_,bJ,bF,rT,jN,gu hi (by omega),ht]
   rw [aj (by omega)]
 ·intro L _
  simp
def oM (s:bP) (nm:List Int):Int:=if s.2.1.findIdx (fun b=>decide (b.1=nm))<s.2.1.length then ((s.2.1.findIdx (fun b=>decide (b.1=nm)):Nat):Int) else -1
theorem Ak (s:bP) (nm:List Int):oM s nm=-1\/∃i:Nat,oM s nm=(i:Int)/\i<s.2.1.length:=by
 unfold oM
 split
 ·exact .inr ⟨_,rfl,by assumption⟩
 ·exact .inl rfl
theorem S_ {n:Nat} {s:bP} {nm:List Int} (hb:s.2.1.length<=big) (hn:big<n):DN n s nm=some (oM s nm,()):=by
 have hb':=hb
 unfold big at hb
 unfold DN
 refine (iA (fun i=>(s,nm,(i:Int),())) (fun j=>if decide ((s.2.1.getD j dB).1=nm)=true then some (some ((j:Int),())) else none) (some (-1,())) (m:=s.2.1.length) rfl (by omega) ?_ ?_).trans ?_
 ·intro L i hi _
  simp only [g_,hi,bQ,a_,dz hi,eD,gu hi (by omega)]
  split <;> rfl
 ·intro L _
  simp
 ·rw [n_.M3 (p:=fun b:Bx=>decide (b.1=nm)) (r:=fun j=>some ((j:Int),())) s.2.1.length 0 (by omega)]
  simp only [DY,om]
  unfold oM
  split <;> rfl
theorem box {n:Nat} {s:bP} {nm:List Int} (hb:s.2.1.length<=big) (hn:big<n):Dx n s nm=some (oM s nm,()):=by
 unfold Dx
 have h:Pq n s.2.1 nm=some (_,()):=n_.Z8 (p:=fun b:Bx=>decide (b.1=nm)) (q:=fun c x=>Pk n x c) (d:=dB) (fun _ _=>rfl) (fun _=>rfl) (by unfold big at hb; omega) (by omega)
 rw [h]
 rfl
theorem has {n:Nat} {us:List Int} {x:Int} (hb:us.length<=big) (hn:big<n):Bg n us x=some (us.contains x,()):=
 oV.Y7 (fun _ _=>rfl) (by unfold big at hb; omega) (by omega)
theorem contains {n:Nat} {us:List Int} {x:Int} (hb:us.length<=big) (hn:big<n):u_ n us x=some (us.contains x,()):=
 n_.Q9 (fun _ _=>rfl) (by unfold big at hb; omega) (by omega)
def nW (b:Bx) (m:dm):Bx:=(b.1,b.2.1,b.2.2.1+1,b.2.2.2.1++[(b.2.2.1,m.2.1,m.2.2.1,m.2.2.2.1,())],())
theorem abo {n:Nat} {b:Bx} {m:dm} (hm:rD m) (h1:0<=b.2.2.1) (h2:b.2.2.1<=2000) (h3:b.2.2.2.1.length<=2000):Bh n b m=some (b.2.2.1,nW b m,()):=by
 unfold Bh
 rw [Fw hm]
 simp only [aL,jN]
 rw [aj (by omega),wrap_i64 (by omega) (by omega)]
 rfl
theorem abn {n:Nat} {b:Bx} {m:dm} (hm:rD m) (h1:0<=b.2.2.1) (h2:b.2.2.1<=2000) (h3:b.2.2.2.1.length<=2000):KG n b m=some (b.2.2.1,nW b m,()):=by
 unfold KG
 rw [clone hm]
 simp only [aL,jN]
 rw [aj ⟨trivial,by omega⟩,wrap_i64 (x:=b.2.2.1+1) (by omega) (by omega),show b.2.2.1+1 - 1=b.2.2.1 by omega,wrap_i64 (by omega) (by omega)]
 rfl
theorem am1 {n:Nat} {b:Bx} {m:dm} (hm:rD m) (h1:0<=b.2.2.1) (h2:b.2.2.1<=2000) (h3:b.2.2.2.1.length<=2000):Gt n b m=some (b.2.2.1,nW b m,()):=abn hm h1 h2 h3
def turn (was mode fl:Int):Int:=
 if mode=2 then IntKind.i64.wrap ((BitVec.ofInt (IntKind.bits .i64) was ||| BitVec.ofInt (IntKind.bits .i64) fl).toNat) else if mode=3 then IntKind.i64.wrap ((BitVec.ofInt (IntKind.bits .i64) was &&& ~~~ BitVec.ofInt (IntKind.bits .i64) fl).toNat) else fl
def kY (o:OpC) (m:dm):dm:=if o.2.2.2.1.contains m.1=true then (m.1,turn m.2.1 o.2.2.2.2.1 o.2.2.2.2.2.1,m.2.2) else m
def Ci (o:OpC) (b:Bx):Bx:=(b.1,b.2.1,b.2.2.1,b.2.2.2.1.map (kY o),())
def EE (o:OpC) (b:Bx):List Int:=(b.2.2.2.1.filter fun m=>o.2.2.2.1.contains m.1).map (·.1)
theorem flags {n:Nat} (a m f:Int):LA n a m f=some (turn a m f,()):=by
 unfold LA turn
 by_cases h2:m=2
 ·simp [h2]
 ·by_cases h3:m=3 <;> simp [h2,h3]
theorem TM {A:Type} {p:A->Bool} {x:A} (h:p x=false):[x].filter p=[]:=by simp [P9,h]
theorem one_pos {A:Type} {p:A->Bool} {x:A} (h:p x=true):[x].filter p=[x]:=by simp [P9,h]
theorem ace {A:Type} {f:A->A} {xs:List A} {i:Nat} (hi:i<xs.length) (h:f xs[i]=xs[i]):(xs.map f).take i++xs.drop i=(xs.map f).take (i+1)++xs.drop (i+1):=by
 have h1:=TB (xs:=xs) (ys:=xs.map f) (by simp) hi xs[i] (by simp [h])
 rw [<-h1]
 symm
 have hl:i<((xs.map f).take i++xs.drop i).length:=by simp; omega
 have hg:=TA (xs:=xs) (ys:=xs.map f) (by simp) hi xs[i]
 rw [ig,jd hl] at hg
 simp only [tq] at hg
 conv=>lhs; rw [<-hg]
 exact List.set_getElem_self hl
theorem ajd {n:Nat} {b:Bx} {o:OpC} (hb:b.2.2.2.1.length<=big) (ho:o.2.2.2.1.length<=big) (hn:big<n):Lx n b o=some (EE o b,Ci o b,()):=by
 have hb':=hb
 unfold big at hb
 unfold Lx
 obtain ⟨nm,va,ne,ms,u⟩:=b
 have hb:ms.length<=1048576:=hb
 refine (iA (fun i=>(o,(i:Int),(nm,va,ne,(ms.map (kY o)).take i++ms.drop i,()),((ms.take i).filter fun m=>o.2.2.2.1.contains m.1).map (·.1),())) (fun _=>none) (some (EE o (nm,va,ne,ms,()),Ci o (nm,va,ne,ms,()),())) (m:=ms.length) (by simp) (by unfold big at hn; omega) ?_ ?_).trans (mQ (fun _ _ _=>rfl))
 ·intro L i hi _
  have hy:(ms.map (kY o)).length=ms.length:=by simp
  have hlen:=aaJ (xs:=ms) (ys:=ms.map (kY o)) hy (Nat.le_of_lt hi)
  have hget:=TA (xs:=ms) (ys:=ms.map (kY o)) hy hi dM
  have ht:ms.take (i+1)=ms.take i++[ms[i]]:=by simp
  have hl1:(((ms.take i).filter fun m=>o.2.2.2.1.contains m.1).map (·.1)).length<=i:=by
   rw [oQ]; exact lW (qP _ _) (by simp; omega)
  simp only [hlen,g_,hi,bQ,a_,dz hi,eD,rE,hget,has ho hn,aL,flags,gu hi (by omega)]
  cases hc:o.2.2.2.1.contains ms[i].1 with
  | false=>
   have hf:kY o ms[i]=ms[i]:=by unfold kY; rw [hc]; rfl
   rw [aA qM,ace hi hf,ht,y7,TM (p:=fun m:dm=>o.2.2.2.1.contains m.1) hc,h_]
  | true=>
   have hset:=TB (xs:=ms) (ys:=ms.map (kY o)) hy hi (ms[i].1,turn ms[i].2.1 o.2.2.2.2.1 o.2.2.2.2.2.1,ms[i].2.2) (by rw [List.getElem_map]; unfold kY; rw [aj hc])
   have hgs:((ms.map (kY o)).take (i+1)++ms.drop (i+1)).getD i dM=(ms[i].1,turn ms[i].2.1 o.2.2.2.2.1 o.2.2.2.2.2.1,ms[i].2.2):=by
    rw [<-hset,ig,List.getElem?_set_self (by omega)]; rfl
   simp only [a_,hset,hgs,jN]
   rw [aj (by omega),ht,y7,one_pos (p:=fun m:dm=>o.2.2.2.1.contains m.1) hc,rQ]
   rfl
 ·intro L _
  have ht:(ms.map (kY o)).take ms.length=ms.map (kY o):=BD (by simp)
  simp only [ht,oQ,pJ,d_,bJ,bF,rT,P7,h_]
  rfl
theorem ajc {n:Nat} {b:Bx} {o:OpC} (hb:b.2.2.2.1.length<=big) (ho:o.2.2.2.1.length<=big) (hn:big<n) (hm:1<=o.2.2.2.2.1/\o.2.2.2.2.1<=3):KF n b o=some (EE o b,Ci o b,()):=by
 have hb':=hb
 unfold big at hb
 unfold KF
 obtain ⟨nm,va,ne,ms,u⟩:=b
 have hb:ms.length<=1048576:=hb
 refine (iA (fun i=>((ms.length:Int),(i:Int),(nm,va,ne,(ms.map (kY o)).take i++ms.drop i,()),o,((ms.take i).filter fun m=>o.2.2.2.1.contains m.1).map (·.1),())) (fun _=>none) (some (EE o (nm,va,ne,ms,()),Ci o (nm,va,ne,ms,()),())) (m:=ms.length) (by simp) (by unfold big at hn; omega) ?_ ?_).trans (mQ (fun _ _ _=>rfl))
 ·intro L i hi _
  have hy:(ms.map (kY o)).length=ms.length:=by simp
  have hlen:=aaJ (xs:=ms) (ys:=ms.map (kY o)) hy (Nat.le_of_lt hi)
  have hget:=TA (xs:=ms) (ys:=ms.map (kY o)) hy hi dM
  have ht:ms.take (i+1)=ms.take i++[ms[i]]:=by simp
  have hl1:(((ms.take i).filter fun m=>o.2.2.2.1.contains m.1).map (·.1)).length<=i:=by
   rw [oQ]; exact lW (qP _ _) (by simp; omega)
  simp only [hlen,g_,hi,bQ,a_,dz hi,eD,rE,hget,contains ho hn,aL,gu hi (by omega)]
  cases hc:o.2.2.2.1.contains ms[i].1 with
  | false=>
   have hf:kY o ms[i]=ms[i]:=by unfold kY; rw [hc]; rfl
   rw [mI,aj rfl,ace hi hf,ht,y7,TM (p:=fun m:dm=>o.2.2.2.1.contains m.1) hc,h_]
  | true=>
   have hset:=TB (xs:=ms) (ys:=ms.map (kY o)) hy hi (ms[i].1,turn ms[i].2.1 o.2.2.2.2.1 o.2.2.2.2.2.1,ms[i].2.2) (by rw [List.getElem_map]; unfold kY; rw [aj hc])
   rw [jc,aA qM]
   simp only [jN]
   rw [aj (by omega),ht,y7,one_pos (p:=fun m:dm=>o.2.2.2.1.contains m.1) hc,rQ, <-hset]
   unfold turn
   by_cases h1:o.2.2.2.2.1=1
   ·simp [h1]
   ·by_cases h2:o.2.2.2.2.1=2
    ·simp [h2]
    ·have h3:o.2.2.2.2.1=3:=by omega
     simp [h3]
 ·intro L _
  have ht:(ms.map (kY o)).take ms.length=ms.map (kY o):=BD (by simp)
  simp only [ht,pJ,d_,bJ,bF,rT,P7,h_]
  rfl
theorem amT (us:List Int) (u f:Int):oV.pick us 0 u f=us.contains u:=by
 unfold oV.pick
 rw [show BitVec.ofInt (IntKind.bits .i64) f &&& BitVec.ofInt (IntKind.bits .i64) 0=BitVec.ofInt (IntKind.bits .i64) 0 from BitVec.and_zero]
 have:(IntKind.i64.wrap ((BitVec.ofInt (IntKind.bits .i64) 0).toNat:Int))=0:=by decide
 rw [this]
 simp
def Rq (b:Bx):List Int:=(b.2.2.2.1.filter fun m=>rV.del m.2.1).map (·.1)
def Tc (b:Bx):Bx:=(b.1,b.2.1,b.2.2.1,b.2.2.2.1.filter (fun m=>!rV.del m.2.1),())
theorem amX {n:Nat} {b:Bx} (hb:b.2.2.2.1.length<=big) (hn:big<n):AU n b=some (Rq b,Tc b,()):=by
 unfold big at hb hn
 show rV.DF n b=_
 unfold rV.DF
 rw [aj ⟨by omega,by omega⟩]
 rfl
theorem anU {n:Nat} {b:Bx} (hb:b.2.2.2.1.length<=big) (hn:big<n):wK n b [] 8=some (b.2.2.2.1.filter (fun m=>rV.del m.2.1),Tc b,()):=by
 unfold big at hb hn
 show oV.yY oV.pick n b [] 8=_
 unfold oV.yY
 rw [aj ⟨by omega,by omega,by simp,by simp; omega⟩]
 rfl
def eB (o:OpC) (b:Bx):List dm:=b.2.2.2.1.filter fun m=>o.2.2.2.1.contains m.1
def abR (o:OpC) (b:Bx):Bx:=(b.1,b.2.1,b.2.2.1,b.2.2.2.1.filter (fun m=>!o.2.2.2.1.contains m.1),())
theorem acB {n:Nat} {b:Bx} {o:OpC} (hb:b.2.2.2.1.length<=big) (ho:o.2.2.2.1.length<=big) (hn:big<n):wK n b o.2.2.2.1 0=some (eB o b,abR o b,()):=by
 have hb':=hb
 have ho':=ho
 unfold big at hb ho hn
 show oV.yY oV.pick n b o.2.2.2.1 0=_
 unfold oV.yY
 rw [aj ⟨by omega,by omega,by omega,by omega⟩]
 simp only [amT]
 rfl
def ko (b:Bx) (l:List dm):Bx:=l.foldl nW b
def xB (b:Bx):Nat->List Int
 | 0=>[]
 | k+1=>xB b k++[b.2.2.1+(k:Int)]
theorem Ot (b:Bx):∀k,(xB b k).length=k
 | 0=>rfl
 | k+1=>by simp [xB,Ot b k]
theorem am0 (b:Bx) (l:List dm) (m:dm):ko b (l++[m])=nW (ko b l) m:=by simp [ko]
theorem abl (b:Bx):∀l:List dm,(ko b l).2.2.1=b.2.2.1+(l.length:Int)/\(ko b l).2.2.2.1.length=b.2.2.2.1.length+l.length:=by
 intro l
 induction l generalizing b with
 | nil=>simp [ko]
 | cons m l ih=>
  have:=ih (nW b m)
  simp only [ko,List.foldl_cons,gY] at this ⊢
  rw [this.1,this.2]
  simp [nW]
  omega
theorem abm {l:List dm}:∀{b:Bx},okB b->(∀m∈l,rD m)->b.2.2.2.1.length+l.length<=big->okB (ko b l):=by
 induction l with
 | nil=>intro b h _ _; exact h
 | cons m l ih=>
  intro b h hl hb
  simp only [gY] at hb
  refine ih (b:=nW b m) ⟨h.1, ?_, ?_⟩ (fun x hx=>hl x (by simp [hx])) ?_
  ·simp only [nW,bV,jN]; omega
  ·intro x hx
   simp only [nW,bW,gI] at hx
   rcases hx with hx | rfl
   ·exact h.2.2 x hx
   ·exact hl m (by simp)
  ·simp only [nW,bV,jN]; omega
theorem Ut {A:Type} {xs:List A} {k:Nat} (h:k<xs.length) (y d:A):(xs.set k y).getD k d=y:=by
 rw [ig,List.getElem?_set_self h]; rfl
theorem getD_lt {A:Type} {xs:List A} {k:Nat} (h:k<xs.length) (d:A):xs.getD k d=xs[k]:=by
 rw [ig,jd h]; rfl
theorem acd {A:Type} {xs:List A} {k:Nat} (h:k<xs.length) (d:A):xs.set k (xs.getD k d)=xs:=by
 rw [ig,jd h]
 exact List.set_getElem_self h
theorem abp {s:bP} {k j:Nat} {l:List dm} {b:Bx} (hk:k<s.2.1.length) (hj:j<l.length) :
  ((s.2.1.set k (ko b (l.take j))).set k (nW (ko b (l.take j)) l[j]))=s.2.1.set k (ko b (l.take (j+1))):=by
 rw [List.set_set, <-am0]
 congr 2
 simp
theorem X8 {n:Nat} {s:bP} {at':Int} {k:Nat} {o:OpC} {part:Bx} {l:List dm} {b:Bx} {fin:Int×OpC×Int×Int×bP×Bx×List dm×List Int×Unit->Option (List Int×Int×bP×Unit)}
  {B:(Int×OpC×Int×Int×bP×Bx×List dm×List Int×Unit->Option (List Int×Int×bP×Unit))->Int×OpC×Int×Int×bP×Bx×List dm×List Int×Unit->Option (List Int×Int×bP×Unit)}
  (hB:∀L v,B L v=(if decide (v.2.2.2.1<(v.2.2.2.2.2.2.1.length:Int))=true then (if aM v.2.2.2.1 v.2.2.2.2.2.2.1.length then ((Bh n (v.2.2.2.2.1.2.1.getD v.2.2.1.toNat dB) (v.2.2.2.2.2.2.1.getD v.2.2.2.1.toNat dM)).bind fun r5=>(if (v.2.2.2.2.2.2.2.1.length+[r5.1].length) * 8<=140737488355328 then L (v.1,v.2.1,v.2.2.1,IntKind.i64.wrap (v.2.2.2.1+(1:Int)),(v.2.2.2.2.1.1,v.2.2.2.2.1.2.1.set v.2.2.1.toNat r5.2.1,v.2.2.2.2.1.2.2),v.2.2.2.2.2.1,v.2.2.2.2.2.2.1,v.2.2.2.2.2.2.2.1++[r5.1],()) else none)) else none) else fin v))
  (hk:k<s.2.1.length) (hb:s.2.1.getD k dB=b) (hl:∀m∈l,rD m) (hl6:l.length<=6) (h1:0<=b.2.2.1) (h2:b.2.2.1<=1000) (h3:b.2.2.2.1.length<=6) (hn:big<n) :
  rounds B n (at',o,(k:Int),(0:Int),s,part,l,[],())=fin (at',o,(k:Int),(l.length:Int),(s.1,s.2.1.set k (ko b l),()),part,l,xB b l.length,()):=by
 have hn':1048576<n:=hn
 refine (iA (fun j=>(at',o,(k:Int),(j:Int),(s.1,s.2.1.set k (ko b (l.take j)),()),part,l,xB b j,())) (fun _=>none) (fin (at',o,(k:Int),(l.length:Int),(s.1,s.2.1.set k (ko b l),()),part,l,xB b l.length,())) (m:=l.length) ?_ (by omega) ?_ ?_).trans (mQ (fun _ _ _=>rfl))
 ·rw [List.take_zero]
  show _=(_,_,_,_,(s.1,s.2.1.set k b,()),_,_,[],())
  rw [<-hb,acd hk]
  rfl
 ·intro L j hj _
  have hp:=abl b (l.take j)
  have hlt:(l.take j).length=j:=by simp; omega
  rw [hlt] at hp
  have hput:=abo (n:=n) (b:=ko b (l.take j)) (m:=l[j]) (hl _ (jY hj)) (by rw [hp.1]; omega) (by rw [hp.1]; omega) (by rw [hp.2]; omega)
  simp only [hB,g_,hj,bQ,a_,dz hj,eD,getD_lt hj,Ut hk,hput,aL,gu hj (by omega),Ot,jN,abp hk hj]
  rw [aj (by omega),hp.1]
  rfl
 ·intro L _
  simp only [hB,pJ,d_,bJ,bF,rT]
theorem X7 {n:Nat} {s:bP} {at':Int} {k:Nat} {o:OpC} {l:List dm} {b:Bx} {fin:Int×Int×Int×Int×bP×OpC×List dm×List Int×Unit->Option (List Int×Int×bP×Unit)}
  {B:(Int×Int×Int×Int×bP×OpC×List dm×List Int×Unit->Option (List Int×Int×bP×Unit))->Int×Int×Int×Int×bP×OpC×List dm×List Int×Unit->Option (List Int×Int×bP×Unit)}
  (hB:∀L v,B L v=(if decide (v.2.2.2.1<v.2.2.1)=true then (if aM v.2.2.2.1 v.2.2.2.2.2.2.1.length then ((Gt n (v.2.2.2.2.1.2.1.getD v.2.1.toNat dB) (v.2.2.2.2.2.2.1.getD v.2.2.2.1.toNat dM)).bind fun r6=>(if (v.2.2.2.2.2.2.2.1.length+[r6.1].length) * 8<=140737488355328 then L (v.1,v.2.1,v.2.2.1,IntKind.i64.wrap (v.2.2.2.1+(1:Int)),(v.2.2.2.2.1.1,v.2.2.2.2.1.2.1.set v.2.1.toNat r6.2.1,v.2.2.2.2.1.2.2),v.2.2.2.2.2.1,v.2.2.2.2.2.2.1,v.2.2.2.2.2.2.2.1++[r6.1],()) else none)) else none) else fin v))
  (hk:k<s.2.1.length) (hb:s.2.1.getD k dB=b) (hl:∀m∈l,rD m) (hl6:l.length<=6) (h1:0<=b.2.2.1) (h2:b.2.2.1<=1000) (h3:b.2.2.2.1.length<=6) (hn:big<n) :
  rounds B n (at',(k:Int),(l.length:Int),(0:Int),s,o,l,[],())=fin (at',(k:Int),(l.length:Int),(l.length:Int),(s.1,s.2.1.set k (ko b l),()),o,l,xB b l.length,()):=by
 have hn':1048576<n:=hn
 refine (iA (fun j=>(at',(k:Int),(l.length:Int),(j:Int),(s.1,s.2.1.set k (ko b (l.take j)),()),o,l,xB b j,())) (fun _=>none) (fin (at',(k:Int),(l.length:Int),(l.length:Int),(s.1,s.2.1.set k (ko b l),()),o,l,xB b l.length,())) (m:=l.length) ?_ (by omega) ?_ ?_).trans (mQ (fun _ _ _=>rfl))
 ·rw [List.take_zero]
  show _=(_,_,_,_,(s.1,s.2.1.set k b,()),_,_,[],())
  rw [<-hb,acd hk]
  rfl
 ·intro L j hj _
  have hp:=abl b (l.take j)
  have hlt:(l.take j).length=j:=by simp; omega
  rw [hlt] at hp
  have hput:=am1 (n:=n) (b:=ko b (l.take j)) (m:=l[j]) (hl _ (jY hj)) (by rw [hp.1]; omega) (by rw [hp.1]; omega) (by rw [hp.2]; omega)
  simp only [hB,g_,hj,bQ,a_,dz hj,eD,getD_lt hj,Ut hk,hput,aL,gu hj (by omega),Ot,jN,abp hk hj]
  rw [aj (by omega),hp.1]
  rfl
 ·intro L _
  simp only [hB,pJ,d_,bJ,bF,rT]
theorem aau {n:Nat} {ms:List dm} {o:OpC} {a b:Int} {s:bP} {fin:Int×Int×List dm×Int×Int×bP×OpC×List dm×Unit->Option (List Int×Int×bP×Unit)}
  {B:(Int×Int×List dm×Int×Int×bP×OpC×List dm×Unit->Option (List Int×Int×bP×Unit))->Int×Int×List dm×Int×Int×bP×OpC×List dm×Unit->Option (List Int×Int×bP×Unit)}
  (hB:∀L v,B L v=(if decide (v.2.2.2.2.1<v.2.2.2.1)=true then (if aM v.2.2.2.2.1 v.2.2.1.length then ((u_ n v.2.2.2.2.2.2.1.2.2.2.1 ((v.2.2.1.getD v.2.2.2.2.1.toNat dM).1)).bind fun r3=>(if r3.1=true then (if (v.2.2.2.2.2.2.2.1.length+[v.2.2.1.getD v.2.2.2.2.1.toNat dM].length) * 48<=140737488355328 then L (v.1,v.2.1,v.2.2.1,v.2.2.2.1,IntKind.i64.wrap (v.2.2.2.2.1+(1:Int)),v.2.2.2.2.2.1,v.2.2.2.2.2.2.1,v.2.2.2.2.2.2.2.1++[v.2.2.1.getD v.2.2.2.2.1.toNat dM],()) else none) else L (v.1,v.2.1,v.2.2.1,v.2.2.2.1,IntKind.i64.wrap (v.2.2.2.2.1+(1:Int)),v.2.2.2.2.2.1,v.2.2.2.2.2.2.1,v.2.2.2.2.2.2.2.1,()))) else none) else fin v))
  (hb:ms.length<=big) (ho:o.2.2.2.1.length<=big) (hn:big<n) :
  rounds B n (a,b,ms,(ms.length:Int),(0:Int),s,o,[],())=fin (a,b,ms,(ms.length:Int),(ms.length:Int),s,o,ms.filter (fun m=>o.2.2.2.1.contains m.1),()):=by
 have hb':ms.length<=1048576:=hb
 refine (iA (fun i=>(a,b,ms,(ms.length:Int),(i:Int),s,o,(ms.take i).filter (fun m=>o.2.2.2.1.contains m.1),())) (fun _=>none) (fin (a,b,ms,(ms.length:Int),(ms.length:Int),s,o,ms.filter (fun m=>o.2.2.2.1.contains m.1),())) (m:=ms.length) (by simp) (by omega) ?_ ?_).trans (mQ (fun _ _ _=>rfl))
 ·intro L i hi _
  have ht:ms.take (i+1)=ms.take i++[ms[i]]:=by simp
  have hl:((ms.take i).filter fun m=>o.2.2.2.1.contains m.1).length<=i:=lW (qP _ _) (by simp; omega)
  simp only [hB,g_,hi,bQ,a_,dz hi,nT hi,contains ho hn,aL,gu hi (by omega),jN,ht,y7]
  cases hc:o.2.2.2.1.contains ms[i].1 with
  | false=>rw [aA qM,TM (p:=fun m:dm=>o.2.2.2.1.contains m.1) hc,h_]
  | true=>rw [aj rfl,aj (by omega),one_pos (p:=fun m:dm=>o.2.2.2.1.contains m.1) hc]
 ·intro L _
  simp only [hB,pJ,d_,bJ,bF,rT]
def Og (b:Bx):Prop:=(0<=b.2.2.1/\b.2.2.1<=1000)/\b.2.2.2.1.length<=6
def x9 (s:bP) (i k:Nat) (o:OpC):List Int×Int×bP×Unit:=
 if (s.2.1.getD k dB).2.2.2.1.length+(eB o (s.2.1.getD i dB)).length>6 then ([],10,s,()) else
 if (s.2.1.getD k dB).2.2.1+((eB o (s.2.1.getD i dB)).length:Int)>1000 then ([],10,s,()) else
 (xB (s.2.1.getD k dB) (eB o (s.2.1.getD i dB)).length,0,(s.1,if o.1=6 then (s.2.1.set k (ko (s.2.1.getD k dB) (eB o (s.2.1.getD i dB)))).set i (abR o (s.2.1.getD i dB)) else s.2.1.set k (ko (s.2.1.getD k dB) (eB o (s.2.1.getD i dB))),()),())
def carried (s:bP) (i:Nat) (o:OpC):List Int×Int×bP×Unit:=
 if oM s o.2.2.1<0 then ([],4,s,()) else if o.1=6/\oM s o.2.2.1=(i:Int) then ([],9,s,()) else x9 s i (oM s o.2.2.1).toNat o
theorem nD {A:Type} {xs:List A} {k:Nat} (h:k<xs.length) (d:A):xs.getD k d∈xs:=by
 rw [getD_lt h]; exact jY h
theorem alP {n:Nat} {s:bP} {i:Nat} {o:OpC} (hs:gU s) (ho:okO o) (hsm:∀b∈s.2.1,Og b) (hi:i<s.2.1.length) (hn:big<n):Lu n s (i:Int) o=some (carried s i o):=by
 unfold Lu carried
 rw [S_ hs.1 hn]
 simp only [aL]
 rcases Ak s o.2.2.1 with h | ⟨k,h,hk⟩
 ·rw [h]; rfl
 ·rw [h]
  have h0:¬((k:Int)<0):=by omega
  rw [f_ h0,aA qM,aA h0]
  have hA:=hsm _ (nD hi dB)
  have hK:=hsm _ (nD hk dB)
  have xk:=hs.2 _ (nD hi dB)
  have hKo:=hs.2 _ (nD hk dB)
  have hT:(eB o (s.2.1.getD i dB)).length<=6:=lW (qP _ _) hA.2
  have IU:∀m∈eB o (s.2.1.getD i dB),rD m:=fun m hm=>xk.2.2 m (eF.1 hm).1
  have hK2:=hK.2
  have hK1:=hK.1
  by_cases h6:o.1=6
  ·rw [gH h6,aj rfl]
   by_cases he:(k:Int)=(i:Int)
   ·rw [gH he,aj rfl,aj ⟨h6,he⟩]
   ·rw [f_ he,aA qM,aA (show ¬(o.1=6/\(k:Int)=(i:Int)) from fun h=>he h.2),aj (dz hi)]
    simp only [eD,Ta xk hn,aL,acB xk.2.1 ho.2.2.1 hn,aj (dz hk)]
    unfold x9
    have w1:IntKind.i64.wrap (((s.2.1.getD k dB).2.2.2.1.length:Int)+((eB o (s.2.1.getD i dB)).length:Int))=((s.2.1.getD k dB).2.2.2.1.length:Int)+((eB o (s.2.1.getD i dB)).length:Int):=wrap_i64 (by omega) (by omega)
    have w2:IntKind.i64.wrap ((s.2.1.getD k dB).2.2.1+((eB o (s.2.1.getD i dB)).length:Int))=(s.2.1.getD k dB).2.2.1+((eB o (s.2.1.getD i dB)).length:Int):=wrap_i64 (by omega) (by omega)
    simp only [w1,w2]
    by_cases c1:(s.2.1.getD k dB).2.2.2.1.length+(eB o (s.2.1.getD i dB)).length>6
    ·have c1':((s.2.1.getD k dB).2.2.2.1.length:Int)+((eB o (s.2.1.getD i dB)).length:Int)>6:=by omega
     simp only [c1,c1',bQ,a_]
    ·have c1':¬(((s.2.1.getD k dB).2.2.2.1.length:Int)+((eB o (s.2.1.getD i dB)).length:Int)>6):=by omega
     simp only [c1,c1',d_,bJ,bF]
     by_cases c2:(s.2.1.getD k dB).2.2.1+((eB o (s.2.1.getD i dB)).length:Int)>1000
     ·simp only [c2,bQ,a_]
     ·simp only [c2,d_,bJ,bF]
      refine (X8 (s:=s) (k:=k) (l:=eB o (s.2.1.getD i dB)) (b:=s.2.1.getD k dB) (fun _ _=>rfl) hk rfl IU hT hK1.1 hK1.2 hK2 hn).trans ?_
      have hi2:i<(s.2.1.set k (ko (s.2.1.getD k dB) (eB o (s.2.1.getD i dB)))).length:=by simpa using hi
      simp only [h6,bQ,a_,aj (dz hi2),eD]
  ·rw [f_ h6,aA qM,aA (show ¬(o.1=6/\(k:Int)=(i:Int)) from fun h=>h6 h.1),aj (dz hi)]
   simp only [eD,Ta xk hn,aL,acB xk.2.1 ho.2.2.1 hn,aj (dz hk)]
   unfold x9
   have w1:IntKind.i64.wrap (((s.2.1.getD k dB).2.2.2.1.length:Int)+((eB o (s.2.1.getD i dB)).length:Int))=((s.2.1.getD k dB).2.2.2.1.length:Int)+((eB o (s.2.1.getD i dB)).length:Int):=wrap_i64 (by omega) (by omega)
   have w2:IntKind.i64.wrap ((s.2.1.getD k dB).2.2.1+((eB o (s.2.1.getD i dB)).length:Int))=(s.2.1.getD k dB).2.2.1+((eB o (s.2.1.getD i dB)).length:Int):=wrap_i64 (by omega) (by omega)
   simp only [w1,w2]
   by_cases c1:(s.2.1.getD k dB).2.2.2.1.length+(eB o (s.2.1.getD i dB)).length>6
   ·have c1':((s.2.1.getD k dB).2.2.2.1.length:Int)+((eB o (s.2.1.getD i dB)).length:Int)>6:=by omega
    simp only [c1,c1',bQ,a_]
   ·have c1':¬(((s.2.1.getD k dB).2.2.2.1.length:Int)+((eB o (s.2.1.getD i dB)).length:Int)>6):=by omega
    simp only [c1,c1',d_,bJ,bF]
    by_cases c2:(s.2.1.getD k dB).2.2.1+((eB o (s.2.1.getD i dB)).length:Int)>1000
    ·simp only [c2,bQ,a_]
    ·simp only [c2,d_,bJ,bF]
     refine (X8 (s:=s) (k:=k) (l:=eB o (s.2.1.getD i dB)) (b:=s.2.1.getD k dB) (fun _ _=>rfl) hk rfl IU hT hK1.1 hK1.2 hK2 hn).trans ?_
     simp only [h6,d_,bJ,bF]
theorem getD_set_ne {A:Type} {xs:List A} {i k:Nat} (h:k≠i) (y d:A):(xs.set k y).getD i d=xs.getD i d:=by
 rw [ig,ig,List.getElem?_set_ne h]
theorem ahU {n:Nat} {ms:List dm} {o:OpC} (hb:ms.length<=big) (ho:o.2.2.2.1.length<=big) (hn:big<n) :
  yT n ms o=some (((ms.filter fun m=>!o.2.2.2.1.contains m.1).length:Int),(ms.filter fun m=>!o.2.2.2.1.contains m.1)++List.replicate (ms.length - (ms.filter fun m=>!o.2.2.2.1.contains m.1).length) dM,()):=by
 unfold big at hb ho hn
 show n_.Dw n ms o=_
 unfold n_.Dw
 rw [aj ⟨by omega,by omega,by omega,by omega⟩]
 rfl
theorem copied {n:Nat} {s:bP} {i:Nat} {o:OpC} (hs:gU s) (ho:okO o) (hsm:∀b∈s.2.1,Og b) (hi:i<s.2.1.length) (hn:big<n):KM n s (i:Int) o=some (carried s i o):=by
 unfold KM carried
 rw [box hs.1 hn]
 simp only [aL]
 rcases Ak s o.2.2.1 with h | ⟨k,h,hk⟩
 ·rw [h]; rfl
 ·rw [h]
  have h0:¬((k:Int)<0):=by omega
  rw [f_ h0,aA qM,aA h0]
  have hA:=hsm _ (nD hi dB)
  have hK:=hsm _ (nD hk dB)
  have xk:=hs.2 _ (nD hi dB)
  have hKo:=hs.2 _ (nD hk dB)
  have hT:(eB o (s.2.1.getD i dB)).length<=6:=lW (qP _ _) hA.2
  have IU:∀m∈eB o (s.2.1.getD i dB),rD m:=fun m hm=>xk.2.2 m (eF.1 hm).1
  have hK2:=hK.2
  have hK1:=hK.1
  have w1:IntKind.i64.wrap (((s.2.1.getD k dB).2.2.2.1.length:Int)+((eB o (s.2.1.getD i dB)).length:Int))=((s.2.1.getD k dB).2.2.2.1.length:Int)+((eB o (s.2.1.getD i dB)).length:Int):=wrap_i64 (by omega) (by omega)
  have w2:IntKind.i64.wrap ((s.2.1.getD k dB).2.2.1+((eB o (s.2.1.getD i dB)).length:Int))=(s.2.1.getD k dB).2.2.1+((eB o (s.2.1.getD i dB)).length:Int):=wrap_i64 (by omega) (by omega)
  have hlist:(s.2.1.getD i dB).2.2.2.1.filter (fun m=>o.2.2.2.1.contains m.1)=eB o (s.2.1.getD i dB):=rfl
  by_cases h6:o.1=6
  ·rw [gH h6,aj rfl]
   by_cases he:(k:Int)=(i:Int)
   ·rw [gH he,aj rfl,aj ⟨h6,he⟩]
   ·rw [f_ he,aA qM,aA (show ¬(o.1=6/\(k:Int)=(i:Int)) from fun h=>he h.2),aj (dz hi)]
    simp only [eD]
    refine (aau (s:=s) (o:=o) (a:=(i:Int)) (b:=(k:Int)) (ms:=(s.2.1.getD i dB).2.2.2.1) (fun _ _=>rfl) xk.2.1 ho.2.2.1 hn).trans ?_
    simp only [aj (dz hk),eD,hlist,w1]
    unfold x9
    by_cases c1:(s.2.1.getD k dB).2.2.2.1.length+(eB o (s.2.1.getD i dB)).length>6
    ·have c1':((s.2.1.getD k dB).2.2.2.1.length:Int)+((eB o (s.2.1.getD i dB)).length:Int)>6:=by omega
     simp only [c1,c1',bQ,a_]
    ·have c1':¬(((s.2.1.getD k dB).2.2.2.1.length:Int)+((eB o (s.2.1.getD i dB)).length:Int)>6):=by omega
     have hlen:GJ n (eB o (s.2.1.getD i dB))=some (((eB o (s.2.1.getD i dB)).length:Int),()):=rfl
     simp only [c1,c1',d_,bJ,bF,hlen,aL,w2]
     by_cases c2:(s.2.1.getD k dB).2.2.1+((eB o (s.2.1.getD i dB)).length:Int)>1000
     ·simp only [c2,bQ,a_]
     ·simp only [c2,d_,bJ,bF]
      refine (X7 (s:=s) (k:=k) (l:=eB o (s.2.1.getD i dB)) (b:=s.2.1.getD k dB) (fun _ _=>rfl) hk rfl IU hT hK1.1 hK1.2 hK2 hn).trans ?_
      have hki:k≠i:=fun h=>he (by omega)
      have hi2:i<(s.2.1.set k (ko (s.2.1.getD k dB) (eB o (s.2.1.getD i dB)))).length:=by simpa using hi
      simp only [h6,bQ,a_,aj (dz hi2),eD,rE,getD_set_ne hki,ahU xk.2.1 ho.2.2.1 hn,aL,List.set_set,Ut hi2,List.take_left']
      rfl
  ·rw [f_ h6,aA qM,aA (show ¬(o.1=6/\(k:Int)=(i:Int)) from fun h=>h6 h.1),aj (dz hi)]
   simp only [eD]
   refine (aau (s:=s) (o:=o) (a:=(i:Int)) (b:=(k:Int)) (ms:=(s.2.1.getD i dB).2.2.2.1) (fun _ _=>rfl) xk.2.1 ho.2.2.1 hn).trans ?_
   simp only [aj (dz hk),eD,hlist,w1]
   unfold x9
   by_cases c1:(s.2.1.getD k dB).2.2.2.1.length+(eB o (s.2.1.getD i dB)).length>6
   ·have c1':((s.2.1.getD k dB).2.2.2.1.length:Int)+((eB o (s.2.1.getD i dB)).length:Int)>6:=by omega
    simp only [c1,c1',bQ,a_]
   ·have c1':¬(((s.2.1.getD k dB).2.2.2.1.length:Int)+((eB o (s.2.1.getD i dB)).length:Int)>6):=by omega
    have hlen:GJ n (eB o (s.2.1.getD i dB))=some (((eB o (s.2.1.getD i dB)).length:Int),()):=rfl
    simp only [c1,c1',d_,bJ,bF,hlen,aL,w2]
    by_cases c2:(s.2.1.getD k dB).2.2.1+((eB o (s.2.1.getD i dB)).length:Int)>1000
    ·simp only [c2,bQ,a_]
    ·simp only [c2,d_,bJ,bF]
     refine (X7 (s:=s) (k:=k) (l:=eB o (s.2.1.getD i dB)) (b:=s.2.1.getD k dB) (fun _ _=>rfl) hk rfl IU hT hK1.1 hK1.2 hK2 hn).trans ?_
     simp only [h6,d_,bJ,bF]
abbrev kE:=Int×List Int×bP×Unit
def bad (c:Int):kE:=(c,[],(0,[],()),())
def yB (s:bP) (o:OpC):List Int×Int×bP×Unit:=
 if oM s o.2.1>=0 then ([],6,s,()) else if s.2.1.length=3 then ([],10,s,()) else if s.1=1000 then ([],10,s,()) else ([],0,(s.1+1,s.2.1++[(o.2.1,s.1,1,[],())],()),())
def Ik (s:bP) (i:Nat) (o:OpC):List Int×Int×bP×Unit:=
 if (s.2.1.getD i dB).2.2.2.1.length=6 then ([],10,s,()) else if (s.2.1.getD i dB).2.2.1=1000 then ([],10,s,()) else
  ([(s.2.1.getD i dB).2.2.1],0,(s.1,s.2.1.set i (nW (s.2.1.getD i dB) (0,o.2.2.2.2.2.1,o.2.2.2.2.2.2.1,o.2.2.2.2.2.2.2.1,())),()),())
def JV (s:bP) (i:Nat) (o:OpC):List Int×Int×bP×Unit:=
 if o.1=2 then ([],0,(s.1,s.2.1.take i++s.2.1.drop (i+1),()),()) else
 if o.1=3 then Ik s i o else
 if o.1=4 then (EE o (s.2.1.getD i dB),0,(s.1,s.2.1.set i (Ci o (s.2.1.getD i dB)),()),()) else
 if o.1=7 then (Rq (s.2.1.getD i dB),0,(s.1,s.2.1.set i (Tc (s.2.1.getD i dB)),()),()) else carried s i o
def oW (s:bP) (o:OpC):List Int×Int×bP×Unit:=
 if o.1=1 then yB s o else if oM s o.2.1<0 then ([],4,s,()) else JV s (oM s o.2.1).toNat o
def mW (r:List Int×Int×bP×Unit):kE:=if r.2.1=0 then (0,r.1,r.2.2.1,()) else bad r.2.1
structure Fit (s:bP) (o:OpC):Prop where
 gU:gU s
 okO:okO o
 val:1<=s.1/\s.1<=1000
 few:s.2.1.length<=3
 small:∀b∈s.2.1,Og b
 mode:o.1=4->1<=o.2.2.2.2.1/\o.2.2.2.2.1<=3
theorem made {n:Nat} {s:bP} {o:OpC} (h:Fit s o) (hn:big<n):KN n s o.2.1=some ((yB s o).2.1,(yB s o).2.2.1,())/\(yB s o).1=[]:=by
 have hf:=h.few
 have hv:=h.val
 unfold KN yB
 rw [box h.gU.1 hn]
 simp only [aL]
 by_cases c0:oM s o.2.1>=0
 ·simp only [c0,bQ,a_,and_self]
 ·simp only [c0,d_,bJ,bF]
  by_cases c1:s.2.1.length=3
  ·simp only [c1,a_]
   exact ⟨rfl,trivial⟩
  ·have:¬(s.2.1.length:Int)=3:=by omega
   simp only [c1,this,d_,bJ,bF]
   by_cases c2:s.1=1000
   ·simp only [c2,bQ,a_,and_self]
   ·simp only [c2,d_,bJ,bF,jN,eX]
    rw [aj (by omega),wrap_i64 (by omega) (by omega)]
theorem alQ {n:Nat} {s:bP} {o:OpC} (h:Fit s o) (hn:big<n):LC n s o=some (mW (yB s o),()):=by
 have hf:=h.few
 have hv:=h.val
 unfold LC yB
 rw [S_ h.gU.1 hn]
 simp only [aL]
 by_cases c0:oM s o.2.1>=0
 ·simp only [c0,bQ,a_]; rfl
 ·simp only [c0,d_,bJ,bF]
  by_cases c1:s.2.1.length=3
  ·have:(s.2.1.length:Int)>=3:=by omega
   simp only [c1,this,bQ,a_]; rfl
  ·have:¬(s.2.1.length:Int)>=3:=by omega
   simp only [c1,this,d_,bJ,bF]
   by_cases c2:s.1=1000
   ·have:s.1>=1000:=by omega
    simp only [c2,bQ,a_]; rfl
   ·have:¬s.1>=1000:=by omega
    simp only [c2,this,d_,bJ,bF,Jo h.gU hn,aL,jN]
    rw [aj (by omega),wrap_i64 (by omega) (by omega)]
    rfl
theorem TL {o:OpC} (ho:okO o):rD (0,o.2.2.2.2.2.1,o.2.2.2.2.2.2.1,o.2.2.2.2.2.2.2.1,()):=ho.2.2.2
theorem ag5 {n:Nat} {s:bP} {o:OpC} (h:Fit s o) (hn:big<n):KL n s o=some (oW s o):=by
 unfold KL oW
 by_cases k1:o.1=1
 ·obtain ⟨h1,h2⟩:=made h hn
  simp only [k1,bQ,a_,h1,aL]
  rw [<-h2]
 ·simp only [k1,d_,bJ,bF,box h.gU.1 hn,aL]
  rcases Ak s o.2.1 with hp | ⟨i,hp,hi⟩
  ·rw [hp]; rfl
  ·rw [hp]
   have h0:¬((i:Int)<0):=by omega
   simp only [h0,d_,bJ,bF,aj (dz hi),eD]
   have hB:=h.small _ (nD hi dB)
   have qX:=h.gU.2 _ (nD hi dB)
   have hB1:=hB.1
   have hB2:=hB.2
   have hf:=h.few
   unfold JV
   by_cases k2:o.1=2
   ·have hw:IntKind.i64.wrap ((i:Int)+1)=((i+1:Nat):Int):=gu hi (by omega)
    have hdel:DI n s.2.1 (i:Int) ((i+1:Nat):Int)=some (((s.2.1.length - 1:Nat):Int),s.2.1.take i++s.2.1.drop (i+1)++[dB],()):=by
     show n_.vK dB s.2.1 (i:Int) ((i+1:Nat):Int)=_
     unfold n_.vK
     rw [aj ⟨by omega,by omega,by omega⟩]
     simp only [eD,Nat.add_sub_cancel_left]
     rfl
    have hl:(s.2.1.take i++s.2.1.drop (i+1)).length=s.2.1.length - 1:=by simp; omega
    simp only [k2,bQ,a_,hw,hdel,aL,eD]
    rw [<-hl,List.take_left']
    rfl
   ·simp only [k2,d_,bJ,bF]
    by_cases k3:o.1=3
    ·simp only [k3,bQ,a_]
     unfold Ik
     by_cases c1:(s.2.1.getD i dB).2.2.2.1.length=6
     ·simp only [c1,a_]
      rfl
     ·have:¬((s.2.1.getD i dB).2.2.2.1.length:Int)=6:=by omega
      simp only [c1,this,d_,bJ,bF]
      by_cases c2:(s.2.1.getD i dB).2.2.1=1000
      ·simp only [c2,bQ,a_]
      ·have hput:=abn (n:=n) (b:=s.2.1.getD i dB) (TL h.okO) (by omega) (by omega) (by omega)
       simp only [c2,d_,bJ,bF,hput,aL]
    ·simp only [k3,d_,bJ,bF]
     by_cases k4:o.1=4
     ·simp only [k4,bQ,a_,ajc qX.2.1 h.okO.2.2.1 hn (h.mode k4),aL]
     ·simp only [k4,d_,bJ,bF]
      by_cases k7:o.1=7
      ·simp only [k7,bQ,a_,amX qX.2.1 hn,aL]
      ·simp only [k7,d_,bJ,bF,copied h.gU h.okO h.small hi hn,aL]
theorem ajr {n:Nat} {ms:List dm} {r0:kE} {st:bP} {c:Int} {B:(Int×kE×kE×List dm×Unit->Option (kE×Unit))->Int×kE×kE×List dm×Unit->Option (kE×Unit)}
  (hB:∀L v,B L v=(if decide (v.1<(v.2.2.2.1.length:Int))=true then (if aM v.1 v.2.2.2.1.length then (if (v.2.2.1.2.1.length+[(v.2.2.2.1.getD v.1.toNat dM).1].length) * 8<=140737488355328 then L (IntKind.i64.wrap (v.1+(1:Int)),v.2.1,(v.2.2.1.1,v.2.2.1.2.1++[(v.2.2.2.1.getD v.1.toNat dM).1],v.2.2.1.2.2),v.2.2.2.1,()) else none) else none) else some (v.2.2.1,())))
  (hb:ms.length<=big) (hn:big<n):rounds B n ((0:Int),r0,(c,[],st,()),ms,())=some ((c,ms.map (·.1),st,()),()):=by
 have hb':ms.length<=1048576:=hb
 refine (iA (fun i=>((i:Int),r0,(c,(ms.take i).map (·.1),st,()),ms,())) (fun _=>none) (some ((c,ms.map (·.1),st,()),())) (m:=ms.length) (by simp) (by omega) ?_ ?_).trans (mQ (fun _ _ _=>rfl))
 ·intro L i hi _
  have ht:ms.take (i+1)=ms.take i++[ms[i]]:=by simp
  have hl:((ms.take i).map (·.1)).length<=i:=by simp; omega
  simp only [hB,g_,hi,bQ,a_,dz hi,nT hi,gu hi (by omega),jN,ht,rQ,lD,List.map_nil]
  rw [aj (by omega)]
 ·intro L _
  simp only [hB,pJ,d_,bJ,bF,rT]
theorem ag6 {n:Nat} {s:bP} {o:OpC} (h:Fit s o) (hn:big<n):Lt n s o=some (mW (oW s o),()):=by
 unfold Lt oW
 by_cases k1:o.1=1
 ·simp only [k1,bQ,a_,alQ h hn,aL]
 ·simp only [k1,d_,bJ,bF,S_ h.gU.1 hn,aL]
  rcases Ak s o.2.1 with hp | ⟨i,hp,hi⟩
  ·rw [hp]; rfl
  ·rw [hp]
   have h0:¬((i:Int)<0):=by omega
   simp only [h0,d_,bJ,bF,Jo h.gU hn,aL,aj (dz hi),eD]
   have hB:=h.small _ (nD hi dB)
   have qX:=h.gU.2 _ (nD hi dB)
   have hB1:=hB.1
   have hB2:=hB.2
   have hf:=h.few
   unfold JV
   by_cases k2:o.1=2
   ·have hw:IntKind.i64.wrap ((i:Int)+1)=((i+1:Nat):Int):=gu hi (by omega)
    simp only [k2,bQ,a_,hw,eD]
    rw [aj ⟨by omega,by omega,by omega⟩,aj ⟨by first | trivial | rfl,by first | trivial | rfl,by omega⟩,aj ⟨by omega,by omega,by omega⟩,aj ⟨by omega,by omega,by first | trivial | rfl,by first | trivial | rfl,by omega⟩]
    rfl
   ·simp only [k2,d_,bJ,bF]
    by_cases k3:o.1=3
    ·simp only [k3,bQ,a_]
     unfold Ik
     by_cases c1:(s.2.1.getD i dB).2.2.2.1.length=6
     ·have:((s.2.1.getD i dB).2.2.2.1.length:Int)>=6:=by omega
      simp only [c1,this,bQ,a_]; rfl
     ·have:¬((s.2.1.getD i dB).2.2.2.1.length:Int)>=6:=by omega
      simp only [c1,this,d_,bJ,bF]
      by_cases c2:(s.2.1.getD i dB).2.2.1=1000
      ·have:(s.2.1.getD i dB).2.2.1>=1000:=by omega
       simp only [c2,this,bQ,a_]; rfl
      ·have:¬(s.2.1.getD i dB).2.2.1>=1000:=by omega
       have hput:=abo (n:=n) (b:=s.2.1.getD i dB) (TL h.okO) (by omega) (by omega) (by omega)
       simp only [c2,this,d_,bJ,bF,hput,aL]
       rfl
    ·simp only [k3,d_,bJ,bF]
     by_cases k4:o.1=4
     ·simp only [k4,bQ,a_,ajd qX.2.1 h.okO.2.2.1 hn,aL]
      rfl
     ·simp only [k4,d_,bJ,bF]
      by_cases k7:o.1=7
      ·simp only [k7,bQ,a_,anU qX.2.1 hn,aL]
       exact ajr (fun _ _=>rfl) (lW (qP _ _) qX.2.1) hn
      ·simp only [k7,d_,bJ,bF,alP h.gU h.okO h.small hi hn,aL]
       unfold mW
       by_cases c:(carried s i o).2.1=0
       ·simp only [c,bQ,jc,bJ,bF,a_]
       ·simp only [c,d_,mI,a_,bF]; rfl
theorem copies {n:Nat} (k:Int):ve n k=some (decide (k=5) || decide (k=6),()):=by
 unfold ve
 cases decide (k=5) <;> rfl
theorem RS {n:Nat} (o:OpC):Gx n o=some (decide (o.1=5) || decide (o.1=6),()):=copies (n:=n) o.1
theorem ajY {n:Nat} (o:OpC):Gy n o=some ((decide (o.1=5) || decide (o.1=6)) || decide (o.1=4),()):=by
 unfold Gy
 rw [RS]
 simp only [aL]
 cases (decide (o.1=5) || decide (o.1=6)) <;> rfl
theorem ajw (k:Nat):decide ((k:Int)>0)=!decide ((k:Int)=0):=by
 by_cases h:k=0
 ·subst h; rfl
 ·rw [gH (by omega),f_ (by omega)]; rfl
def vM (o:OpC):Bool:=(((decide (o.1=5) || decide (o.1=6)) || decide (o.2.2.1=[])) && ((((decide (o.1=5) || decide (o.1=6)) || decide (o.1=4)) || decide ((o.2.2.2.1.length:Int)=0)) && ((decide (o.1=4) || decide (o.2.2.2.2.1=0)) &&
 ((decide (o.1=4) || (decide (o.1=3) || decide (o.2.2.2.2.2.1=0))) && (decide (o.1=3) || (decide (o.2.2.2.2.2.2.1=0) && decide ((o.2.2.2.2.2.2.2.1.length:Int)=0)))))))
set_option maxRecDepth 20000 in
theorem only {n:Nat} (o:OpC):KH n o=some (vM o,()):=by
 unfold KH vM
 simp only [RS,ajY,aL]
 generalize (decide (o.1=5) || decide (o.1=6))=c
 generalize decide (o.2.2.1=[])=b1
 generalize decide (o.1=4)=b2
 generalize decide ((o.2.2.2.1.length:Int)=0)=b3
 generalize decide (o.2.2.2.2.1=0)=b4
 generalize decide (o.1=3)=b5
 generalize decide (o.2.2.2.2.2.1=0)=b6
 generalize decide (o.2.2.2.2.2.2.1=0)=b7
 generalize decide ((o.2.2.2.2.2.2.2.1.length:Int)=0)=b8
 revert c b1 b2 b3 b4 b5 b6 b7 b8
 decide +kernel
set_option maxRecDepth 20000 in
theorem form {n:Nat} (o:OpC):LB n o=some (decide (1<=o.1/\o.1<=7) && vM o,()):=by
 unfold LB vM
 simp only [um,copies,aL,ajw]
 generalize (decide (o.1=5) || decide (o.1=6))=c
 generalize decide (o.2.2.1=[])=b1
 generalize decide (o.1=4)=b2
 generalize decide ((o.2.2.2.1.length:Int)=0)=b3
 generalize decide (o.2.2.2.2.1=0)=b4
 generalize decide (o.1=3)=b5
 generalize decide (o.2.2.2.2.2.1=0)=b6
 generalize decide (o.2.2.2.2.2.2.1=0)=b7
 generalize decide ((o.2.2.2.2.2.2.2.1.length:Int)=0)=b8
 generalize decide (1<=o.1/\o.1<=7)=b9
 revert c b1 b2 b3 b4 b5 b6 b7 b8 b9
 decide +kernel
def vJ (us:List Int) (j:Nat):Bool:=!decide (1<=us.getD j 0/\us.getD j 0<=999) || (decide ((j:Int)>0) && decide (us.getD j 0<=us.getD (j - 1) 0))
theorem an5 {n:Nat} {us:List Int} (hb:us.length<=big) (hn:big<n):G5 n us=gz (fun j=>if vJ us j=true then some (some (false,())) else none) (some (true,())) us.length 0:=by
 have hb':us.length<=1048576:=hb
 unfold G5
 refine iA (fun i=>(us,(i:Int),())) (fun j=>if vJ us j=true then some (some (false,())) else none) (some (true,())) (m:=us.length) rfl (by omega) ?_ ?_
 ·intro L i hi _
  simp only [g_,hi,bQ,a_,dz hi,eD,um,aL,gu hi (by omega)]
  unfold vJ
  cases h1:decide (1<=us.getD i 0/\us.getD i 0<=999) with
  | false=>rfl
  | true=>
   cases i with
   | zero=>rfl
   | succ j=>
    have hj:j<us.length:=by omega
    rw [gH (show ((j+1:Nat):Int)>0 by omega),UY hj (by omega)]
    simp only [dz hj,a_,eD,Nat.add_sub_cancel,jc,bJ,bF,Gd,yM]
    by_cases hle:us.getD (j+1) 0<=us.getD j 0
    ·simp only [hle,bQ,a_]
    ·simp only [hle,d_,bJ,bF]
 ·intro L _
  simp
theorem an4 {n:Nat} {us:List Int} (hb:us.length<=big) (hn:big<n):GI n us=gz (fun j=>if vJ us j=true then some (some (false,())) else none) (some (true,())) us.length 0:=by
 have hb':us.length<=1048576:=hb
 unfold GI
 refine iA (fun i=>(us,us,(us.length:Int),(i:Int),())) (fun j=>if vJ us j=true then some (some (false,())) else none) (some (true,())) (m:=us.length) rfl (by omega) ?_ ?_
 ·intro L i hi _
  have hu:DD n (us.getD i 0)=some (decide (1<=us.getD i 0/\us.getD i 0<=999),()):=by
   unfold DD
   rw [AA,um]; rfl
  simp only [g_,hi,bQ,a_,dz hi,eD,hu,aL,gu hi (by omega)]
  unfold vJ
  cases h1:decide (1<=us.getD i 0/\us.getD i 0<=999) with
  | false=>rfl
  | true=>
   cases i with
   | zero=>rfl
   | succ j=>
    have hj:j<us.length:=by omega
    rw [gH (show ((j+1:Nat):Int)>0 by omega),UY hj (by omega)]
    simp only [dz hj,a_,eD,Nat.add_sub_cancel,jc,bJ,bF,Gd,yM,ge_iff_le]
    cases decide (us.getD (j+1) 0<=us.getD j 0) <;> rfl
 ·intro L _
  simp
def yK (us:List Int):Bool:=((gz (fun j=>if vJ us j=true then some (some (false,())) else none) (some (true,())) us.length 0).getD (false,())).1
theorem UQ (us:List Int):gz (fun j=>if vJ us j=true then some (some (false,())) else none) (some (true,())) us.length 0=some (yK us,()):=by
 unfold yK
 rcases YF (step:=fun j=>if vJ us j=true then some (some (false,())) else none) (fin:=some (true,())) (r:=some (false,())) (fun j=>by by_cases h:vJ us j=true <;> simp [h]) (m:=us.length) (i:=0) with h | h <;> rw [h] <;> rfl
def iF (o:OpC):Int:=
 if (!(decide (1<=o.1/\o.1<=7) && vM o))=true then 1 else
 if (!decide (nU o.2.1) || ((decide (o.1=5) || decide (o.1=6)) && !decide (nU o.2.2.1)))=true then 5 else
 if decide ((o.2.2.2.1.length:Int)>6)=true then 2 else
 if (!yK o.2.2.2.1 || (decide (o.1=4) && !decide (1<=o.2.2.2.2.1/\o.2.2.2.2.1<=3)) || !decide (0<=o.2.2.2.2.2.1/\o.2.2.2.2.2.1<=15) || !decide (0<=o.2.2.2.2.2.2.1/\o.2.2.2.2.2.2.1<=9999))=true then 3 else
 if decide ((o.2.2.2.2.2.2.2.1.length:Int)>400)=true then 2 else 0
set_option maxRecDepth 20000 in
theorem Rc {n:Nat} {o:OpC} (ho:okO o) (hn:big<n):GZ n o=some (iF o,()):=by
 unfold GZ iF
 simp only [form,(name_eq ho.1 hn).2,(name_eq ho.2.1 hn).2,copies,um,an5 ho.2.2.1 hn,UQ,aL]
 generalize (decide (1<=o.1/\o.1<=7) && vM o)=b0
 generalize decide (nU o.2.1)=b1
 generalize (decide (o.1=5) || decide (o.1=6))=b2
 generalize decide (nU o.2.2.1)=b3
 generalize decide ((o.2.2.2.1.length:Int)>6)=b4
 generalize yK o.2.2.2.1=b5
 generalize decide (o.1=4)=b6
 generalize decide (1<=o.2.2.2.2.1/\o.2.2.2.2.1<=3)=b7
 generalize decide (0<=o.2.2.2.2.2.1/\o.2.2.2.2.2.1<=15)=b8
 generalize decide (0<=o.2.2.2.2.2.2.1/\o.2.2.2.2.2.2.1<=9999)=b9
 generalize decide ((o.2.2.2.2.2.2.2.1.length:Int)>400)=c
 revert b0 b1 b2 b3 b4 b5 b6 b7 b8 b9 c
 decide +kernel
set_option maxRecDepth 20000 in
theorem Yz {n:Nat} {o:OpC} (ho:okO o) (hn:big<n):Gw n o=some (iF o,()):=by
 have hfl:∀x,xI n x=some (decide (0<=x/\x<=15),()):=fun x=>by unfold xI; rw [AA,um]; rfl
 have hda:∀x,xK n x=some (decide (0<=x/\x<=9999),()):=fun x=>by unfold xK; rw [AA,um]; rfl
 unfold Gw iF
 simp only [only,(name_eq ho.1 hn).1,(name_eq ho.2.1 hn).1,RS,AA,um,an4 ho.2.2.1 hn,UQ,hfl,hda,aL]
 generalize vM o=b0
 generalize decide (1<=o.1/\o.1<=7)=a0
 generalize decide (nU o.2.1)=b1
 generalize (decide (o.1=5) || decide (o.1=6))=b2
 generalize decide (nU o.2.2.1)=b3
 generalize decide ((o.2.2.2.1.length:Int)>6)=b4
 generalize yK o.2.2.2.1=b5
 generalize decide (o.1=4)=b6
 generalize decide (1<=o.2.2.2.2.1/\o.2.2.2.2.1<=3)=b7
 generalize decide (0<=o.2.2.2.2.2.1/\o.2.2.2.2.2.1<=15)=b8
 generalize decide (0<=o.2.2.2.2.2.2.1/\o.2.2.2.2.2.2.1<=9999)=b9
 generalize decide ((o.2.2.2.2.2.2.2.1.length:Int)>400)=c
 revert a0 b0 b1 b2 b3 b4 b5 b6 b7 b8 b9 c
 decide +kernel
def Aj (r:kE):Prop:=r.2.1.length<=big/\gU r.2.2.1
theorem FD (c:Int):Aj (bad c):=by
 refine ⟨by simp [bad,big],by simp [bad,big],fun b hb=>?_⟩
 simp [bad] at hb
theorem JC {s:bP} {i:Nat} {b:Bx} {v:Int} (hs:gU s) (hb:okB b):gU (v,s.2.1.set i b,()):=by
 refine ⟨by simpa using hs.1,fun x hx=>?_⟩
 rcases Xg hx with h | rfl
 ·exact hs.2 x h
 ·exact hb
theorem aaY {b:Bx} {p:dm->Bool} (h:okB b):okB (b.1,b.2.1,b.2.2.1,b.2.2.2.1.filter p,()):=
 ⟨h.1,lW (qP _ _) h.2.1,fun m hm=>h.2.2 m (eF.1 hm).1⟩
theorem ahA {s:bP} {i k:Nat} {o:OpC} (hs:gU s) (hsm:∀b∈s.2.1,Og b) (hi:i<s.2.1.length) (hk:k<s.2.1.length):(x9 s i k o).1.length<=big/\gU (x9 s i k o).2.2.1:=by
 have hT:(eB o (s.2.1.getD i dB)).length<=6:=lW (qP _ _) (hsm _ (nD hi dB)).2
 have hK:=(hsm _ (nD hk dB)).2
 unfold x9
 split
 ·exact ⟨by simp [big],hs⟩
 ·split
  ·exact ⟨by simp [big],hs⟩
  ·have hP:okB (ko (s.2.1.getD k dB) (eB o (s.2.1.getD i dB))):=abm (hs.2 _ (nD hk dB)) (fun m hm=>(hs.2 _ (nD hi dB)).2.2 m (eF.1 hm).1) (by unfold big; omega)
   refine ⟨by rw [Ot]; unfold big; omega, ?_⟩
   have h1:gU (s.1,s.2.1.set k (ko (s.2.1.getD k dB) (eB o (s.2.1.getD i dB))),()):=JC hs hP
   by_cases h6:o.1=6
   ·simp only [h6,a_]
    exact JC (s:=(s.1,s.2.1.set k (ko (s.2.1.getD k dB) (eB o (s.2.1.getD i dB))),())) h1 (aaY (hs.2 _ (nD hi dB)))
   ·simp only [h6,bF]
    exact h1
theorem ag4 {s:bP} {o:OpC} (h:Fit s o):(oW s o).1.length<=big/\gU (oW s o).2.2.1:=by
 have hs:=h.gU
 have hf:=h.few
 unfold oW
 by_cases k1:o.1=1
 ·rw [aj k1]
  unfold yB
  split
  ·exact ⟨by simp [big],hs⟩
  ·split
   ·exact ⟨by simp [big],hs⟩
   ·split
    ·exact ⟨by simp [big],hs⟩
    ·refine ⟨by simp [big], ?_,fun b hb=>?_⟩
     ·simp [big]; omega
     ·rcases bW.1 hb with hb | hb
      ·exact hs.2 b hb
      ·simp only [gI] at hb
       subst hb
       exact ⟨h.okO.1,by simp [big],by simp⟩
 ·rw [aA k1]
  rcases Ak s o.2.1 with hp | ⟨i,hp,hi⟩
  ·rw [hp,aj (by decide)]
   exact ⟨by simp [big],hs⟩
  ·rw [hp,aA (by omega),eD]
   have hB:=h.small _ (nD hi dB)
   have qX:=hs.2 _ (nD hi dB)
   have hB2:=hB.2
   unfold JV
   split
   ·refine ⟨by simp [big], ?_,fun b hb=>?_⟩
    ·simp [big]; omega
    ·rcases bW.1 hb with hb | hb
     ·exact hs.2 b (Mg hb)
     ·exact hs.2 b (List.mem_of_mem_drop hb)
   ·split
    ·unfold Ik
     split
     ·exact ⟨by simp [big],hs⟩
     ·split
      ·exact ⟨by simp [big],hs⟩
      ·refine ⟨by simp [big],JC hs (abm (l:=[_]) qX (fun m hm=>?_) (by simp only [jN]; unfold big; omega))⟩
       simp only [gI] at hm
       subst hm
       exact TL h.okO
    ·split
     ·refine ⟨?_,JC hs ⟨qX.1,by simpa [Ci] using qX.2.1,fun m hm=>?_⟩⟩
      ·unfold EE
       rw [oQ]
       exact lW (qP _ _) qX.2.1
      ·obtain ⟨x,hx,rfl⟩:=fI.1 hm
       unfold kY
       split
       ·exact qX.2.2 x hx
       ·exact qX.2.2 x hx
     ·split
      ·refine ⟨?_,JC hs (aaY qX)⟩
       unfold Rq
       rw [oQ]
       exact lW (qP _ _) qX.2.1
      ·unfold carried
       split
       ·exact ⟨by simp [big],hs⟩
       ·split
        ·exact ⟨by simp [big],hs⟩
        ·rename_i hneg _
         rcases Ak s o.2.2.1 with hp2 | ⟨k,hp2,hk⟩
         ·rw [hp2] at hneg; exact absurd (by decide) hneg
         ·rw [hp2,eD]
          exact ahA hs h.small hi hk
theorem am8 {s:bP} {o:OpC} (h:Fit s o):Aj (mW (oW s o)):=by
 unfold mW
 split
 ·exact ag4 h
 ·exact FD _
theorem fit {s:bP} {o:OpC} (hs:gU s) (ho:okO o) (hg:nE s) (hf:iF o=0):Fit s o:=by
 refine ⟨hs,ho,hg.1,hg.2.1,fun b hb=>?_,fun h4=>?_⟩
 ·obtain ⟨i,hi,rfl⟩:=sZ.1 hb
  have:=(hg.2.2 i hi).1
  rw [getD_lt hi] at this
  obtain ⟨_,_,h3,h4,_⟩:=this
  exact ⟨⟨by omega,h3.2⟩,h4⟩
 ·unfold iF at hf
  split at hf
  ·omega
  ·split at hf
   ·omega
   ·split at hf
    ·omega
    ·split at hf
     ·omega
     ·rename_i hc
      rw [gH h4] at hc
      simp only [Bool.not_eq_true,AL,yM] at hc
      have:=hc.1.1.2
      simpa using this
theorem XJ {n:Nat} {s:bP} {o:OpC} (hs:gU s) (ho:okO o) (hg:nE s) (hn:big<n):∃r:kE,yU n s o=some (r,())/\Dz n s o=some (r,())/\Aj r/\
  ((iF o=0/\r=mW (oW s o))\/(iF o≠0/\r=bad (iF o))):=by
 obtain ⟨he,c,hc,hgc⟩:=zQ hs hn
 have h0:=hgc.2 hg
 unfold yU Dz
 rw [hc]
 simp only [aL,h0,bQ,jc,bJ,bF,Rc ho hn,Yz ho hn]
 by_cases h1:iF o=0
 ·have hF:=fit hs ho hg h1
  simp only [h1,bQ,jc,bJ,bF,ag6 hF hn,own hs hn,ag5 hF hn,aL]
  refine ⟨mW (oW s o),rfl, ?_,am8 hF, .inl ⟨trivial,rfl⟩⟩
  unfold mW
  by_cases h2:(oW s o).2.1=0
  ·simp only [h2,bQ,jc,bJ,bF,a_]
  ·simp only [h2,d_,mI,a_,bF]
   rfl
 ·refine ⟨bad (iF o), ?_, ?_,FD _, .inr ⟨h1,rfl⟩⟩
  ·simp only [h1,d_,mI,a_]; rfl
  ·simp only [h1,d_,mI,a_]; rfl
end Go.Proofs.YtailcbngagacaaaGreat.ng
