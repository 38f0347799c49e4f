/- Ops on stores: what the printed functions of both sides come to. -/
import Derived.Test.YtailcbngagacaabGreatStoreMath
set_option linter.unusedVariables false
set_option linter.unusedSimpArgs false
namespace Go.Proofs.YtailcbngagacaabGreat.mP
open Go Ow ni nM oQ
abbrev OpC:=Int×List Int×List Int×List Int×Int×Int×Int×List Int×Unit
def okO (o:OpC):Prop:=o.2.1.length<=big/\o.2.2.1.length<=big/\o.2.2.2.1.length<=big/\o.2.2.2.2.2.2.2.1.length<=big
theorem Jl {n:Nat} {bs:List Int} (h:bs.length<=big):yY n bs=some (bs,()):=by
 unfold big at h
 unfold yY
 rw [ak (by simp; omega)]
 rfl
theorem clone {n:Nat} {bs:List Int} (h:bs.length<=big):yS n bs=some (bs,()):=by
 unfold big at h
 unfold yS
 have hc:(([]:List Int).length+bs.length) * 1<=140737488355328:=by simp; omega
 simp only [ak hc]
 cases bs with
 | nil=>exact (ak (show ([]:List Int).isEmpty=true from rfl)).trans (ag6 (ks:=[.sl 5 (.int .u8)]) (some (([]:List Int),())))
 | cons b bs=>rfl
theorem al2 {n:Nat} {ms:List dm} (hb:ms.length<=big) (h:∀m∈ms,rz m) (hn:big<n):Lv n ms=some (ms,()):=by
 have hb':=hb
 unfold big at hb
 unfold Lv
 refine (iy (fun i=>(ms,(i:Int),ms.take i,())) (fun _=>none) (some (ms,())) (m:=ms.length) (by simp) (by omega) ?_ ?_).trans (mh (fun _ _ _=>rfl))
 ·intro L i hi _
  have ht:ms.take (i+1)=ms.take i++[ms[i]]:=by simp
  have hl:(ms.take i).length<=i:=by simp; omega
  simp only [gZ,hi,bL,a_,dA hi,oD hi,gp hi (by omega),Jl (h ms[i] (ku hi)),aJ,jC,ht]
  rw [ak (by omega)]
 ·intro L _
  simp
theorem Tm {n:Nat} {b:Bx} (h:okB b) (hn:big<n):DT n b=some (b,()):=by
 unfold DT
 rw [al2 h.2.1 h.2.2 hn]
 rfl
theorem Jm {n:Nat} {s:bQ} (h:gW s) (hn:big<n):Ba n s=some (s,()):=by
 have hb:=h.1
 unfold big at hb
 unfold Ba
 refine (iy (fun i=>((i:Int),s,(0,[],()),(s.1,s.2.1.take i,()),())) (fun _=>none) (some (s,())) (m:=s.2.1.length) (by simp) (by have:=h.1; omega) ?_ ?_).trans (mh (fun _ _ _=>rfl))
 ·intro L i hi _
  have ht:s.2.1.take (i+1)=s.2.1.take i++[s.2.1[i]]:=by simp
  have hl:(s.2.1.take i).length<=i:=by simp; omega
  simp only [gZ,hi,bL,a_,dA hi,oD hi,gp hi (by omega),Tm (h.2 _ (ku hi)) hn,aJ,jC,ht]
  rw [ak (by omega)]
 ·intro L _
  simp
theorem own {n:Nat} {s:bQ} (h:gW s) (hn:big<n):Dv n s=some (s,()):=by
 have hb:=h.1
 unfold big at hb
 unfold Dv
 refine (iy (fun i=>(s.2.1,(s.2.1.length:Int),(i:Int),(0,[],()),(s.1,s.2.1.take i,()),())) (fun _=>none) (some (s,())) (m:=s.2.1.length) (by simp) (by have:=h.1; omega) ?_ ?_).trans (mh (fun _ _ _=>rfl))
 ·intro L i hi _
  have ht:s.2.1.take (i+1)=s.2.1.take i++[s.2.1[i]]:=by simp
  have hl:(s.2.1.take i).length<=i:=by simp; omega
  simp only [gZ,hi,bL,a_,dA hi,oD hi]
  have hB:=h.2 _ (ku hi)
  generalize s.2.1[i]=b at hB ht ⊢
  have hb2:=hB.2.1
  unfold big at hb2
  refine (iy (fun j=>(s.2.1,(s.2.1.length:Int),(i:Int),b.2.2.2.1,(b.2.2.2.1.length:Int),(j:Int),(0,[],()),(s.1,s.2.1.take i,()),(b.1,b.2.1,b.2.2.1,b.2.2.2.1.take j,()),())) (fun _=>none) (L (s.2.1,(s.2.1.length:Int),((i+1:Nat):Int),(0,[],()),(s.1,s.2.1.take (i+1),()),())) (m:=b.2.2.2.1.length) (by simp) (by have:=hB.2.1; omega) ?_ ?_).trans (mh (fun _ _ _=>rfl))
  ·intro L2 j hj _
   have htj:b.2.2.2.1.take (j+1)=b.2.2.2.1.take j++[b.2.2.2.1[j]]:=by simp
   have hlj:(b.2.2.2.1.take j).length<=j:=by simp; omega
   simp only [gZ,hj,bL,a_,dA hj,oD hj,gp hj (by omega),clone (hB.2.2 _ (ku hj)),aJ,jC,htj]
   rw [ak (by omega)]
  ·intro L2 _
   simp only [pJ,eB,bG,bE,rP,jC,gp hi (by omega),ht]
   rw [ak (by omega)]
 ·intro L _
  simp
def oK (s:bQ) (nm:List Int):Int:=if s.2.1.findIdx (fun b=>decide (b.1=nm))<s.2.1.length then ((s.2.1.findIdx (fun b=>decide (b.1=nm)):Nat):Int) else -1
theorem Ak (s:bQ) (nm:List Int):oK s nm=-1\/∃i:Nat,oK s nm=(i:Int)/\i<s.2.1.length:=by
 unfold oK
 split
 ·exact .inr ⟨_,rfl,by assumption⟩
 ·exact .inl rfl
theorem Tj {n:Nat} {s:bQ} {nm:List Int} (hb:s.2.1.length<=big) (hn:big<n):DR n s nm=some (oK s nm,()):=by
 have hb':=hb
 unfold big at hb
 unfold DR
 refine (iy (fun i=>(s,nm,(i:Int),())) (fun j=>if decide ((s.2.1.getD j dB).1=nm)=true then some (some ((j:Int),())) else none) (some (-1,())) (m:=s.2.1.length) rfl (by omega) ?_ ?_).trans ?_
 ·intro L i hi _
  simp only [gZ,hi,bL,a_,dA hi,eF,gp hi (by omega)]
  split <;> rfl
 ·intro L _
  simp
 ·rw [n_.MZ (p:=fun b:Bx=>decide (b.1=nm)) (r:=fun j=>some ((j:Int),())) s.2.1.length 0 (by omega)]
  simp only [D5,og]
  unfold oK
  split <;> rfl
theorem box {n:Nat} {s:bQ} {nm:List Int} (hb:s.2.1.length<=big) (hn:big<n):Dt n s nm=some (oK s nm,()):=by
 unfold Dt
 have h:Pm n s.2.1 nm=some (_,()):=n_.aac (p:=fun b:Bx=>decide (b.1=nm)) (q:=fun c x=>Pf n x c) (d:=dB) (fun _ _=>rfl) (fun _=>rfl) (by unfold big at hb; omega) (by omega)
 rw [h]
 rfl
theorem has {n:Nat} {us:List Int} {x:Int} (hb:us.length<=big) (hn:big<n):Bf n us x=some (us.contains x,()):=
 oU.Zd (fun _ _=>rfl) (by unfold big at hb; omega) (by omega)
theorem contains {n:Nat} {us:List Int} {x:Int} (hb:us.length<=big) (hn:big<n):uZ n us x=some (us.contains x,()):=
 n_.Rc (fun _ _=>rfl) (by unfold big at hb; omega) (by omega)
def nW (b:Bx) (m:dm):Bx:=(b.1,b.2.1,b.2.2.1+1,b.2.2.2.1++[(b.2.2.1,m.2.1,m.2.2.1,m.2.2.2.1,())],())
theorem abp {n:Nat} {b:Bx} {m:dm} (hm:rz m) (h1:0<=b.2.2.1) (h2:b.2.2.1<=2000) (h3:b.2.2.2.1.length<=2000):Bg n b m=some (b.2.2.1,nW b m,()):=by
 unfold Bg
 rw [Jl hm]
 simp only [aJ,jC]
 rw [ak (by omega),wrap_i64 (by omega) (by omega)]
 rfl
theorem abo {n:Nat} {b:Bx} {m:dm} (hm:rz m) (h1:0<=b.2.2.1) (h2:b.2.2.1<=2000) (h3:b.2.2.2.1.length<=2000):KM n b m=some (b.2.2.1,nW b m,()):=by
 unfold KM
 rw [clone hm]
 simp only [aJ,jC]
 rw [ak ⟨trivial,by omega⟩,wrap_i64 (x:=b.2.2.1+1) (by omega) (by omega),show b.2.2.1+1 - 1=b.2.2.1 by omega,wrap_i64 (by omega) (by omega)]
 rfl
theorem anf {n:Nat} {b:Bx} {m:dm} (hm:rz m) (h1:0<=b.2.2.1) (h2:b.2.2.1<=2000) (h3:b.2.2.2.1.length<=2000):Gq n b m=some (b.2.2.1,nW b m,()):=abo hm h1 h2 h3
def turn (was mode fl:Int):Int:=
 if mode=2 then IntKind.i64.wrap ((BitVec.ofInt (IntKind.bits .i64) was ||| BitVec.ofInt (IntKind.bits .i64) fl).toNat) else if mode=3 then IntKind.i64.wrap ((BitVec.ofInt (IntKind.bits .i64) was &&& ~~~ BitVec.ofInt (IntKind.bits .i64) fl).toNat) else fl
def kY (o:OpC) (m:dm):dm:=if o.2.2.2.1.contains m.1=true then (m.1,turn m.2.1 o.2.2.2.2.1 o.2.2.2.2.2.1,m.2.2) else m
def B_ (o:OpC) (b:Bx):Bx:=(b.1,b.2.1,b.2.2.1,b.2.2.2.1.map (kY o),())
def EH (o:OpC) (b:Bx):List Int:=(b.2.2.2.1.filter fun m=>o.2.2.2.1.contains m.1).map (·.1)
theorem flags {n:Nat} (a m f:Int):LH n a m f=some (turn a m f,()):=by
 unfold LH turn
 by_cases h2:m=2
 ·simp [h2]
 ·by_cases h3:m=3 <;> simp [h2,h3]
theorem TU {A:Type} {p:A->Bool} {x:A} (h:p x=false):[x].filter p=[]:=by simp [P_,h]
theorem one_pos {A:Type} {p:A->Bool} {x:A} (h:p x=true):[x].filter p=[x]:=by simp [P_,h]
theorem acf {A:Type} {f:A->A} {xs:List A} {i:Nat} (hi:i<xs.length) (h:f xs[i]=xs[i]):(xs.map f).take i++xs.drop i=(xs.map f).take (i+1)++xs.drop (i+1):=by
 have h1:=TJ (xs:=xs) (ys:=xs.map f) (by simp) hi xs[i] (by simp [h])
 rw [<-h1]
 symm
 have hl:i<((xs.map f).take i++xs.drop i).length:=by simp; omega
 have hg:=TH (xs:=xs) (ys:=xs.map f) (by simp) hi xs[i]
 rw [h_,jc hl] at hg
 simp only [sV] at hg
 conv=>lhs; rw [<-hg]
 exact List.set_getElem_self hl
theorem ajo {n:Nat} {b:Bx} {o:OpC} (hb:b.2.2.2.1.length<=big) (ho:o.2.2.2.1.length<=big) (hn:big<n):LG n b o=some (EH o b,B_ o b,()):=by
 have hb':=hb
 unfold big at hb
 unfold LG
 obtain ⟨nm,va,ne,ms,u⟩:=b
 have hb:ms.length<=1048576:=hb
 refine (iy (fun i=>(o,(i:Int),(nm,va,ne,(ms.map (kY o)).take i++ms.drop i,()),((ms.take i).filter fun m=>o.2.2.2.1.contains m.1).map (·.1),())) (fun _=>none) (some (EH o (nm,va,ne,ms,()),B_ o (nm,va,ne,ms,()),())) (m:=ms.length) (by simp) (by unfold big at hn; omega) ?_ ?_).trans (mh (fun _ _ _=>rfl))
 ·intro L i hi _
  have hy:(ms.map (kY o)).length=ms.length:=by simp
  have hlen:=aaK (xs:=ms) (ys:=ms.map (kY o)) hy (Nat.le_of_lt hi)
  have hget:=TH (xs:=ms) (ys:=ms.map (kY o)) hy hi dM
  have ht:ms.take (i+1)=ms.take i++[ms[i]]:=by simp
  have hl1:(((ms.take i).filter fun m=>o.2.2.2.1.contains m.1).map (·.1)).length<=i:=by
   rw [oO]; exact lY (qN _ _) (by simp; omega)
  simp only [hlen,gZ,hi,bL,a_,dA hi,eF,rA,hget,has ho hn,aJ,flags,gp hi (by omega)]
  cases hc:o.2.2.2.1.contains ms[i].1 with
  | false=>
   have hf:kY o ms[i]=ms[i]:=by unfold kY; rw [hc]; rfl
   rw [aA qK,acf hi hf,ht,y9,TU (p:=fun m:dm=>o.2.2.2.1.contains m.1) hc,gT]
  | true=>
   have hset:=TJ (xs:=ms) (ys:=ms.map (kY o)) hy hi (ms[i].1,turn ms[i].2.1 o.2.2.2.2.1 o.2.2.2.2.2.1,ms[i].2.2) (by rw [List.getElem_map]; unfold kY; rw [ak hc])
   have hgs:((ms.map (kY o)).take (i+1)++ms.drop (i+1)).getD i dM=(ms[i].1,turn ms[i].2.1 o.2.2.2.2.1 o.2.2.2.2.2.1,ms[i].2.2):=by
    rw [<-hset,h_,List.getElem?_set_self (by omega)]; rfl
   simp only [a_,hset,hgs,jC]
   rw [ak (by omega),ht,y9,one_pos (p:=fun m:dm=>o.2.2.2.1.contains m.1) hc,rM]
   rfl
 ·intro L _
  have ht:(ms.map (kY o)).take ms.length=ms.map (kY o):=HV (by simp)
  simp only [ht,oO,pJ,eB,bG,bE,rP,P8,gT]
  rfl
theorem ajn {n:Nat} {b:Bx} {o:OpC} (hb:b.2.2.2.1.length<=big) (ho:o.2.2.2.1.length<=big) (hn:big<n) (hm:1<=o.2.2.2.2.1/\o.2.2.2.2.1<=3):KL n b o=some (EH o b,B_ o b,()):=by
 have hb':=hb
 unfold big at hb
 unfold KL
 obtain ⟨nm,va,ne,ms,u⟩:=b
 have hb:ms.length<=1048576:=hb
 refine (iy (fun i=>((ms.length:Int),(i:Int),(nm,va,ne,(ms.map (kY o)).take i++ms.drop i,()),o,((ms.take i).filter fun m=>o.2.2.2.1.contains m.1).map (·.1),())) (fun _=>none) (some (EH o (nm,va,ne,ms,()),B_ o (nm,va,ne,ms,()),())) (m:=ms.length) (by simp) (by unfold big at hn; omega) ?_ ?_).trans (mh (fun _ _ _=>rfl))
 ·intro L i hi _
  have hy:(ms.map (kY o)).length=ms.length:=by simp
  have hlen:=aaK (xs:=ms) (ys:=ms.map (kY o)) hy (Nat.le_of_lt hi)
  have hget:=TH (xs:=ms) (ys:=ms.map (kY o)) hy hi dM
  have ht:ms.take (i+1)=ms.take i++[ms[i]]:=by simp
  have hl1:(((ms.take i).filter fun m=>o.2.2.2.1.contains m.1).map (·.1)).length<=i:=by
   rw [oO]; exact lY (qN _ _) (by simp; omega)
  simp only [hlen,gZ,hi,bL,a_,dA hi,eF,rA,hget,contains ho hn,aJ,gp hi (by omega)]
  cases hc:o.2.2.2.1.contains ms[i].1 with
  | false=>
   have hf:kY o ms[i]=ms[i]:=by unfold kY; rw [hc]; rfl
   rw [lD,ak rfl,acf hi hf,ht,y9,TU (p:=fun m:dm=>o.2.2.2.1.contains m.1) hc,gT]
  | true=>
   have hset:=TJ (xs:=ms) (ys:=ms.map (kY o)) hy hi (ms[i].1,turn ms[i].2.1 o.2.2.2.2.1 o.2.2.2.2.2.1,ms[i].2.2) (by rw [List.getElem_map]; unfold kY; rw [ak hc])
   rw [iB,aA qK]
   simp only [jC]
   rw [ak (by omega),ht,y9,one_pos (p:=fun m:dm=>o.2.2.2.1.contains m.1) hc,rM, <-hset]
   unfold turn
   by_cases h1:o.2.2.2.2.1=1
   ·simp [h1]
   ·by_cases h2:o.2.2.2.2.1=2
    ·simp [h2]
    ·have h3:o.2.2.2.2.1=3:=by omega
     simp [h3]
 ·intro L _
  have ht:(ms.map (kY o)).take ms.length=ms.map (kY o):=HV (by simp)
  simp only [ht,pJ,eB,bG,bE,rP,P8,gT]
  rfl
theorem am7 (us:List Int) (u f:Int):oU.pick us 0 u f=us.contains u:=by
 unfold oU.pick
 rw [show BitVec.ofInt (IntKind.bits .i64) f &&& BitVec.ofInt (IntKind.bits .i64) 0=BitVec.ofInt (IntKind.bits .i64) 0 from BitVec.and_zero]
 have:(IntKind.i64.wrap ((BitVec.ofInt (IntKind.bits .i64) 0).toNat:Int))=0:=by decide
 rw [this]
 simp
def Ry (b:Bx):List Int:=(b.2.2.2.1.filter fun m=>rR.del m.2.1).map (·.1)
def Tp (b:Bx):Bx:=(b.1,b.2.1,b.2.2.1,b.2.2.2.1.filter (fun m=>!rR.del m.2.1),())
theorem ana {n:Nat} {b:Bx} (hb:b.2.2.2.1.length<=big) (hn:big<n):AR n b=some (Ry b,Tp b,()):=by
 unfold big at hb hn
 show rR.DD n b=_
 unfold rR.DD
 rw [ak ⟨by omega,by omega⟩]
 rfl
theorem an9 {n:Nat} {b:Bx} (hb:b.2.2.2.1.length<=big) (hn:big<n):wJ n b [] 8=some (b.2.2.2.1.filter (fun m=>rR.del m.2.1),Tp b,()):=by
 unfold big at hb hn
 show oU.y7 oU.pick n b [] 8=_
 unfold oU.y7
 rw [ak ⟨by omega,by omega,by simp,by simp; omega⟩]
 rfl
def eD (o:OpC) (b:Bx):List dm:=b.2.2.2.1.filter fun m=>o.2.2.2.1.contains m.1
def abQ (o:OpC) (b:Bx):Bx:=(b.1,b.2.1,b.2.2.1,b.2.2.2.1.filter (fun m=>!o.2.2.2.1.contains m.1),())
theorem acC {n:Nat} {b:Bx} {o:OpC} (hb:b.2.2.2.1.length<=big) (ho:o.2.2.2.1.length<=big) (hn:big<n):wJ n b o.2.2.2.1 0=some (eD o b,abQ o b,()):=by
 have hb':=hb
 have ho':=ho
 unfold big at hb ho hn
 show oU.y7 oU.pick n b o.2.2.2.1 0=_
 unfold oU.y7
 rw [ak ⟨by omega,by omega,by omega,by omega⟩]
 simp only [am7]
 rfl
def j_ (b:Bx) (l:List dm):Bx:=l.foldl nW b
def xz (b:Bx):Nat->List Int
 | 0=>[]
 | k+1=>xz b k++[b.2.2.1+(k:Int)]
theorem Oi (b:Bx):∀k,(xz b k).length=k
 | 0=>rfl
 | k+1=>by simp [xz,Oi b k]
theorem ane (b:Bx) (l:List dm) (m:dm):j_ b (l++[m])=nW (j_ b l) m:=by simp [j_]
theorem abm (b:Bx):∀l:List dm,(j_ b l).2.2.1=b.2.2.1+(l.length:Int)/\(j_ b l).2.2.2.1.length=b.2.2.2.1.length+l.length:=by
 intro l
 induction l generalizing b with
 | nil=>simp [j_]
 | cons m l ih=>
  have:=ih (nW b m)
  simp only [j_,List.foldl_cons,ig] at this ⊢
  rw [this.1,this.2]
  simp [nW]
  omega
theorem abn {l:List dm}:∀{b:Bx},okB b->(∀m∈l,rz m)->b.2.2.2.1.length+l.length<=big->okB (j_ b l):=by
 induction l with
 | nil=>intro b h _ _; exact h
 | cons m l ih=>
  intro b h hl hb
  simp only [ig] at hb
  refine ih (b:=nW b m) ⟨h.1, ?_, ?_⟩ (fun x hx=>hl x (by simp [hx])) ?_
  ·simp only [nW,bX,jC]; omega
  ·intro x hx
   simp only [nW,bW,fV] at hx
   rcases hx with hx | rfl
   ·exact h.2.2 x hx
   ·exact hl m (by simp)
  ·simp only [nW,bX,jC]; omega
theorem UA {A:Type} {xs:List A} {k:Nat} (h:k<xs.length) (y d:A):(xs.set k y).getD k d=y:=by
 rw [h_,List.getElem?_set_self h]; rfl
theorem getD_lt {A:Type} {xs:List A} {k:Nat} (h:k<xs.length) (d:A):xs.getD k d=xs[k]:=by
 rw [h_,jc h]; rfl
theorem ace {A:Type} {xs:List A} {k:Nat} (h:k<xs.length) (d:A):xs.set k (xs.getD k d)=xs:=by
 rw [h_,jc h]
 exact List.set_getElem_self h
theorem abq {s:bQ} {k j:Nat} {l:List dm} {b:Bx} (hk:k<s.2.1.length) (hj:j<l.length) :
  ((s.2.1.set k (j_ b (l.take j))).set k (nW (j_ b (l.take j)) l[j]))=s.2.1.set k (j_ b (l.take (j+1))):=by
 rw [List.set_set, <-ane]
 congr 2
 simp
theorem Ye {n:Nat} {s:bQ} {at':Int} {k:Nat} {o:OpC} {part:Bx} {l:List dm} {b:Bx} {fin:Int×OpC×Int×Int×bQ×Bx×List dm×List Int×Unit->Option (List Int×Int×bQ×Unit)}
  {B:(Int×OpC×Int×Int×bQ×Bx×List dm×List Int×Unit->Option (List Int×Int×bQ×Unit))->Int×OpC×Int×Int×bQ×Bx×List dm×List Int×Unit->Option (List Int×Int×bQ×Unit)}
  (hB:∀L v,B L v=(if decide (v.2.2.2.1<(v.2.2.2.2.2.2.1.length:Int))=true then (if aN v.2.2.2.1 v.2.2.2.2.2.2.1.length then ((Bg n (v.2.2.2.2.1.2.1.getD v.2.2.1.toNat dB) (v.2.2.2.2.2.2.1.getD v.2.2.2.1.toNat dM)).bind fun r5=>(if (v.2.2.2.2.2.2.2.1.length+[r5.1].length) * 8<=140737488355328 then L (v.1,v.2.1,v.2.2.1,IntKind.i64.wrap (v.2.2.2.1+(1:Int)),(v.2.2.2.2.1.1,v.2.2.2.2.1.2.1.set v.2.2.1.toNat r5.2.1,v.2.2.2.2.1.2.2),v.2.2.2.2.2.1,v.2.2.2.2.2.2.1,v.2.2.2.2.2.2.2.1++[r5.1],()) else none)) else none) else fin v))
  (hk:k<s.2.1.length) (hb:s.2.1.getD k dB=b) (hl:∀m∈l,rz m) (hl6:l.length<=6) (h1:0<=b.2.2.1) (h2:b.2.2.1<=1000) (h3:b.2.2.2.1.length<=6) (hn:big<n) :
  rounds B n (at',o,(k:Int),(0:Int),s,part,l,[],())=fin (at',o,(k:Int),(l.length:Int),(s.1,s.2.1.set k (j_ b l),()),part,l,xz b l.length,()):=by
 have hn':1048576<n:=hn
 refine (iy (fun j=>(at',o,(k:Int),(j:Int),(s.1,s.2.1.set k (j_ b (l.take j)),()),part,l,xz b j,())) (fun _=>none) (fin (at',o,(k:Int),(l.length:Int),(s.1,s.2.1.set k (j_ b l),()),part,l,xz b l.length,())) (m:=l.length) ?_ (by omega) ?_ ?_).trans (mh (fun _ _ _=>rfl))
 ·rw [List.take_zero]
  show _=(_,_,_,_,(s.1,s.2.1.set k b,()),_,_,[],())
  rw [<-hb,ace hk]
  rfl
 ·intro L j hj _
  have hp:=abm b (l.take j)
  have hlt:(l.take j).length=j:=by simp; omega
  rw [hlt] at hp
  have hput:=abp (n:=n) (b:=j_ b (l.take j)) (m:=l[j]) (hl _ (ku hj)) (by rw [hp.1]; omega) (by rw [hp.1]; omega) (by rw [hp.2]; omega)
  simp only [hB,gZ,hj,bL,a_,dA hj,eF,getD_lt hj,UA hk,hput,aJ,gp hj (by omega),Oi,jC,abq hk hj]
  rw [ak (by omega),hp.1]
  rfl
 ·intro L _
  simp only [hB,pJ,eB,bG,bE,rP]
theorem Yd {n:Nat} {s:bQ} {at':Int} {k:Nat} {o:OpC} {l:List dm} {b:Bx} {fin:Int×Int×Int×Int×bQ×OpC×List dm×List Int×Unit->Option (List Int×Int×bQ×Unit)}
  {B:(Int×Int×Int×Int×bQ×OpC×List dm×List Int×Unit->Option (List Int×Int×bQ×Unit))->Int×Int×Int×Int×bQ×OpC×List dm×List Int×Unit->Option (List Int×Int×bQ×Unit)}
  (hB:∀L v,B L v=(if decide (v.2.2.2.1<v.2.2.1)=true then (if aN v.2.2.2.1 v.2.2.2.2.2.2.1.length then ((Gq n (v.2.2.2.2.1.2.1.getD v.2.1.toNat dB) (v.2.2.2.2.2.2.1.getD v.2.2.2.1.toNat dM)).bind fun r6=>(if (v.2.2.2.2.2.2.2.1.length+[r6.1].length) * 8<=140737488355328 then L (v.1,v.2.1,v.2.2.1,IntKind.i64.wrap (v.2.2.2.1+(1:Int)),(v.2.2.2.2.1.1,v.2.2.2.2.1.2.1.set v.2.1.toNat r6.2.1,v.2.2.2.2.1.2.2),v.2.2.2.2.2.1,v.2.2.2.2.2.2.1,v.2.2.2.2.2.2.2.1++[r6.1],()) else none)) else none) else fin v))
  (hk:k<s.2.1.length) (hb:s.2.1.getD k dB=b) (hl:∀m∈l,rz m) (hl6:l.length<=6) (h1:0<=b.2.2.1) (h2:b.2.2.1<=1000) (h3:b.2.2.2.1.length<=6) (hn:big<n) :
  rounds B n (at',(k:Int),(l.length:Int),(0:Int),s,o,l,[],())=fin (at',(k:Int),(l.length:Int),(l.length:Int),(s.1,s.2.1.set k (j_ b l),()),o,l,xz b l.length,()):=by
 have hn':1048576<n:=hn
 refine (iy (fun j=>(at',(k:Int),(l.length:Int),(j:Int),(s.1,s.2.1.set k (j_ b (l.take j)),()),o,l,xz b j,())) (fun _=>none) (fin (at',(k:Int),(l.length:Int),(l.length:Int),(s.1,s.2.1.set k (j_ b l),()),o,l,xz b l.length,())) (m:=l.length) ?_ (by omega) ?_ ?_).trans (mh (fun _ _ _=>rfl))
 ·rw [List.take_zero]
  show _=(_,_,_,_,(s.1,s.2.1.set k b,()),_,_,[],())
  rw [<-hb,ace hk]
  rfl
 ·intro L j hj _
  have hp:=abm b (l.take j)
  have hlt:(l.take j).length=j:=by simp; omega
  rw [hlt] at hp
  have hput:=anf (n:=n) (b:=j_ b (l.take j)) (m:=l[j]) (hl _ (ku hj)) (by rw [hp.1]; omega) (by rw [hp.1]; omega) (by rw [hp.2]; omega)
  simp only [hB,gZ,hj,bL,a_,dA hj,eF,getD_lt hj,UA hk,hput,aJ,gp hj (by omega),Oi,jC,abq hk hj]
  rw [ak (by omega),hp.1]
  rfl
 ·intro L _
  simp only [hB,pJ,eB,bG,bE,rP]
theorem aav {n:Nat} {ms:List dm} {o:OpC} {a b:Int} {s:bQ} {fin:Int×Int×List dm×Int×Int×bQ×OpC×List dm×Unit->Option (List Int×Int×bQ×Unit)}
  {B:(Int×Int×List dm×Int×Int×bQ×OpC×List dm×Unit->Option (List Int×Int×bQ×Unit))->Int×Int×List dm×Int×Int×bQ×OpC×List dm×Unit->Option (List Int×Int×bQ×Unit)}
  (hB:∀L v,B L v=(if decide (v.2.2.2.2.1<v.2.2.2.1)=true then (if aN v.2.2.2.2.1 v.2.2.1.length then ((uZ n v.2.2.2.2.2.2.1.2.2.2.1 ((v.2.2.1.getD v.2.2.2.2.1.toNat dM).1)).bind fun r3=>(if r3.1=true then (if (v.2.2.2.2.2.2.2.1.length+[v.2.2.1.getD v.2.2.2.2.1.toNat dM].length) * 48<=140737488355328 then L (v.1,v.2.1,v.2.2.1,v.2.2.2.1,IntKind.i64.wrap (v.2.2.2.2.1+(1:Int)),v.2.2.2.2.2.1,v.2.2.2.2.2.2.1,v.2.2.2.2.2.2.2.1++[v.2.2.1.getD v.2.2.2.2.1.toNat dM],()) else none) else L (v.1,v.2.1,v.2.2.1,v.2.2.2.1,IntKind.i64.wrap (v.2.2.2.2.1+(1:Int)),v.2.2.2.2.2.1,v.2.2.2.2.2.2.1,v.2.2.2.2.2.2.2.1,()))) else none) else fin v))
  (hb:ms.length<=big) (ho:o.2.2.2.1.length<=big) (hn:big<n) :
  rounds B n (a,b,ms,(ms.length:Int),(0:Int),s,o,[],())=fin (a,b,ms,(ms.length:Int),(ms.length:Int),s,o,ms.filter (fun m=>o.2.2.2.1.contains m.1),()):=by
 have hb':ms.length<=1048576:=hb
 refine (iy (fun i=>(a,b,ms,(ms.length:Int),(i:Int),s,o,(ms.take i).filter (fun m=>o.2.2.2.1.contains m.1),())) (fun _=>none) (fin (a,b,ms,(ms.length:Int),(ms.length:Int),s,o,ms.filter (fun m=>o.2.2.2.1.contains m.1),())) (m:=ms.length) (by simp) (by omega) ?_ ?_).trans (mh (fun _ _ _=>rfl))
 ·intro L i hi _
  have ht:ms.take (i+1)=ms.take i++[ms[i]]:=by simp
  have hl:((ms.take i).filter fun m=>o.2.2.2.1.contains m.1).length<=i:=lY (qN _ _) (by simp; omega)
  simp only [hB,gZ,hi,bL,a_,dA hi,oD hi,contains ho hn,aJ,gp hi (by omega),jC,ht,y9]
  cases hc:o.2.2.2.1.contains ms[i].1 with
  | false=>rw [aA qK,TU (p:=fun m:dm=>o.2.2.2.1.contains m.1) hc,gT]
  | true=>rw [ak rfl,ak (by omega),one_pos (p:=fun m:dm=>o.2.2.2.1.contains m.1) hc]
 ·intro L _
  simp only [hB,pJ,eB,bG,bE,rP]
def Oa (b:Bx):Prop:=(0<=b.2.2.1/\b.2.2.1<=1000)/\b.2.2.2.1.length<=6
def x8 (s:bQ) (i k:Nat) (o:OpC):List Int×Int×bQ×Unit:=
 if (s.2.1.getD k dB).2.2.2.1.length+(eD o (s.2.1.getD i dB)).length>6 then ([],10,s,()) else
 if (s.2.1.getD k dB).2.2.1+((eD o (s.2.1.getD i dB)).length:Int)>1000 then ([],10,s,()) else
 (xz (s.2.1.getD k dB) (eD o (s.2.1.getD i dB)).length,0,(s.1,if o.1=6 then (s.2.1.set k (j_ (s.2.1.getD k dB) (eD o (s.2.1.getD i dB)))).set i (abQ o (s.2.1.getD i dB)) else s.2.1.set k (j_ (s.2.1.getD k dB) (eD o (s.2.1.getD i dB))),()),())
def carried (s:bQ) (i:Nat) (o:OpC):List Int×Int×bQ×Unit:=
 if oK s o.2.2.1<0 then ([],4,s,()) else if o.1=6/\oK s o.2.2.1=(i:Int) then ([],9,s,()) else x8 s i (oK s o.2.2.1).toNat o
theorem nE {A:Type} {xs:List A} {k:Nat} (h:k<xs.length) (d:A):xs.getD k d∈xs:=by
 rw [getD_lt h]; exact ku h
theorem al3 {n:Nat} {s:bQ} {i:Nat} {o:OpC} (hs:gW s) (ho:okO o) (hsm:∀b∈s.2.1,Oa b) (hi:i<s.2.1.length) (hn:big<n):LF n s (i:Int) o=some (carried s i o):=by
 unfold LF carried
 rw [Tj hs.1 hn]
 simp only [aJ]
 rcases Ak s o.2.2.1 with h | ⟨k,h,hk⟩
 ·rw [h]; rfl
 ·rw [h]
  have h0:¬((k:Int)<0):=by omega
  rw [fH h0,aA qK,aA h0]
  have hA:=hsm _ (nE hi dB)
  have hK:=hsm _ (nE hk dB)
  have xh:=hs.2 _ (nE hi dB)
  have hKo:=hs.2 _ (nE hk dB)
  have hT:(eD o (s.2.1.getD i dB)).length<=6:=lY (qN _ _) hA.2
  have IL:∀m∈eD o (s.2.1.getD i dB),rz m:=fun m hm=>xh.2.2 m (eG.1 hm).1
  have hK2:=hK.2
  have hK1:=hK.1
  by_cases h6:o.1=6
  ·rw [gB h6,ak rfl]
   by_cases he:(k:Int)=(i:Int)
   ·rw [gB he,ak rfl,ak ⟨h6,he⟩]
   ·rw [fH he,aA qK,aA (show ¬(o.1=6/\(k:Int)=(i:Int)) from fun h=>he h.2),ak (dA hi)]
    simp only [eF,Tm xh hn,aJ,acC xh.2.1 ho.2.2.1 hn,ak (dA hk)]
    unfold x8
    have w1:IntKind.i64.wrap (((s.2.1.getD k dB).2.2.2.1.length:Int)+((eD o (s.2.1.getD i dB)).length:Int))=((s.2.1.getD k dB).2.2.2.1.length:Int)+((eD o (s.2.1.getD i dB)).length:Int):=wrap_i64 (by omega) (by omega)
    have w2:IntKind.i64.wrap ((s.2.1.getD k dB).2.2.1+((eD o (s.2.1.getD i dB)).length:Int))=(s.2.1.getD k dB).2.2.1+((eD o (s.2.1.getD i dB)).length:Int):=wrap_i64 (by omega) (by omega)
    simp only [w1,w2]
    by_cases c1:(s.2.1.getD k dB).2.2.2.1.length+(eD o (s.2.1.getD i dB)).length>6
    ·have c1':((s.2.1.getD k dB).2.2.2.1.length:Int)+((eD o (s.2.1.getD i dB)).length:Int)>6:=by omega
     simp only [c1,c1',bL,a_]
    ·have c1':¬(((s.2.1.getD k dB).2.2.2.1.length:Int)+((eD o (s.2.1.getD i dB)).length:Int)>6):=by omega
     simp only [c1,c1',eB,bG,bE]
     by_cases c2:(s.2.1.getD k dB).2.2.1+((eD o (s.2.1.getD i dB)).length:Int)>1000
     ·simp only [c2,bL,a_]
     ·simp only [c2,eB,bG,bE]
      refine (Ye (s:=s) (k:=k) (l:=eD o (s.2.1.getD i dB)) (b:=s.2.1.getD k dB) (fun _ _=>rfl) hk rfl IL hT hK1.1 hK1.2 hK2 hn).trans ?_
      have hi2:i<(s.2.1.set k (j_ (s.2.1.getD k dB) (eD o (s.2.1.getD i dB)))).length:=by simpa using hi
      simp only [h6,bL,a_,ak (dA hi2),eF]
  ·rw [fH h6,aA qK,aA (show ¬(o.1=6/\(k:Int)=(i:Int)) from fun h=>h6 h.1),ak (dA hi)]
   simp only [eF,Tm xh hn,aJ,acC xh.2.1 ho.2.2.1 hn,ak (dA hk)]
   unfold x8
   have w1:IntKind.i64.wrap (((s.2.1.getD k dB).2.2.2.1.length:Int)+((eD o (s.2.1.getD i dB)).length:Int))=((s.2.1.getD k dB).2.2.2.1.length:Int)+((eD o (s.2.1.getD i dB)).length:Int):=wrap_i64 (by omega) (by omega)
   have w2:IntKind.i64.wrap ((s.2.1.getD k dB).2.2.1+((eD o (s.2.1.getD i dB)).length:Int))=(s.2.1.getD k dB).2.2.1+((eD o (s.2.1.getD i dB)).length:Int):=wrap_i64 (by omega) (by omega)
   simp only [w1,w2]
   by_cases c1:(s.2.1.getD k dB).2.2.2.1.length+(eD o (s.2.1.getD i dB)).length>6
   ·have c1':((s.2.1.getD k dB).2.2.2.1.length:Int)+((eD o (s.2.1.getD i dB)).length:Int)>6:=by omega
    simp only [c1,c1',bL,a_]
   ·have c1':¬(((s.2.1.getD k dB).2.2.2.1.length:Int)+((eD o (s.2.1.getD i dB)).length:Int)>6):=by omega
    simp only [c1,c1',eB,bG,bE]
    by_cases c2:(s.2.1.getD k dB).2.2.1+((eD o (s.2.1.getD i dB)).length:Int)>1000
    ·simp only [c2,bL,a_]
    ·simp only [c2,eB,bG,bE]
     refine (Ye (s:=s) (k:=k) (l:=eD o (s.2.1.getD i dB)) (b:=s.2.1.getD k dB) (fun _ _=>rfl) hk rfl IL hT hK1.1 hK1.2 hK2 hn).trans ?_
     simp only [h6,eB,bG,bE]
theorem getD_set_ne {A:Type} {xs:List A} {i k:Nat} (h:k≠i) (y d:A):(xs.set k y).getD i d=xs.getD i d:=by
 rw [h_,h_,List.getElem?_set_ne h]
theorem ah5 {n:Nat} {ms:List dm} {o:OpC} (hb:ms.length<=big) (ho:o.2.2.2.1.length<=big) (hn:big<n) :
  yT n ms o=some (((ms.filter fun m=>!o.2.2.2.1.contains m.1).length:Int),(ms.filter fun m=>!o.2.2.2.1.contains m.1)++List.replicate (ms.length - (ms.filter fun m=>!o.2.2.2.1.contains m.1).length) dM,()):=by
 unfold big at hb ho hn
 show n_.Dr n ms o=_
 unfold n_.Dr
 rw [ak ⟨by omega,by omega,by omega,by omega⟩]
 rfl
theorem copied {n:Nat} {s:bQ} {i:Nat} {o:OpC} (hs:gW s) (ho:okO o) (hsm:∀b∈s.2.1,Oa b) (hi:i<s.2.1.length) (hn:big<n):KU n s (i:Int) o=some (carried s i o):=by
 unfold KU carried
 rw [box hs.1 hn]
 simp only [aJ]
 rcases Ak s o.2.2.1 with h | ⟨k,h,hk⟩
 ·rw [h]; rfl
 ·rw [h]
  have h0:¬((k:Int)<0):=by omega
  rw [fH h0,aA qK,aA h0]
  have hA:=hsm _ (nE hi dB)
  have hK:=hsm _ (nE hk dB)
  have xh:=hs.2 _ (nE hi dB)
  have hKo:=hs.2 _ (nE hk dB)
  have hT:(eD o (s.2.1.getD i dB)).length<=6:=lY (qN _ _) hA.2
  have IL:∀m∈eD o (s.2.1.getD i dB),rz m:=fun m hm=>xh.2.2 m (eG.1 hm).1
  have hK2:=hK.2
  have hK1:=hK.1
  have w1:IntKind.i64.wrap (((s.2.1.getD k dB).2.2.2.1.length:Int)+((eD o (s.2.1.getD i dB)).length:Int))=((s.2.1.getD k dB).2.2.2.1.length:Int)+((eD o (s.2.1.getD i dB)).length:Int):=wrap_i64 (by omega) (by omega)
  have w2:IntKind.i64.wrap ((s.2.1.getD k dB).2.2.1+((eD o (s.2.1.getD i dB)).length:Int))=(s.2.1.getD k dB).2.2.1+((eD o (s.2.1.getD i dB)).length:Int):=wrap_i64 (by omega) (by omega)
  have hlist:(s.2.1.getD i dB).2.2.2.1.filter (fun m=>o.2.2.2.1.contains m.1)=eD o (s.2.1.getD i dB):=rfl
  by_cases h6:o.1=6
  ·rw [gB h6,ak rfl]
   by_cases he:(k:Int)=(i:Int)
   ·rw [gB he,ak rfl,ak ⟨h6,he⟩]
   ·rw [fH he,aA qK,aA (show ¬(o.1=6/\(k:Int)=(i:Int)) from fun h=>he h.2),ak (dA hi)]
    simp only [eF]
    refine (aav (s:=s) (o:=o) (a:=(i:Int)) (b:=(k:Int)) (ms:=(s.2.1.getD i dB).2.2.2.1) (fun _ _=>rfl) xh.2.1 ho.2.2.1 hn).trans ?_
    simp only [ak (dA hk),eF,hlist,w1]
    unfold x8
    by_cases c1:(s.2.1.getD k dB).2.2.2.1.length+(eD o (s.2.1.getD i dB)).length>6
    ·have c1':((s.2.1.getD k dB).2.2.2.1.length:Int)+((eD o (s.2.1.getD i dB)).length:Int)>6:=by omega
     simp only [c1,c1',bL,a_]
    ·have c1':¬(((s.2.1.getD k dB).2.2.2.1.length:Int)+((eD o (s.2.1.getD i dB)).length:Int)>6):=by omega
     have hlen:Gw n (eD o (s.2.1.getD i dB))=some (((eD o (s.2.1.getD i dB)).length:Int),()):=rfl
     simp only [c1,c1',eB,bG,bE,hlen,aJ,w2]
     by_cases c2:(s.2.1.getD k dB).2.2.1+((eD o (s.2.1.getD i dB)).length:Int)>1000
     ·simp only [c2,bL,a_]
     ·simp only [c2,eB,bG,bE]
      refine (Yd (s:=s) (k:=k) (l:=eD o (s.2.1.getD i dB)) (b:=s.2.1.getD k dB) (fun _ _=>rfl) hk rfl IL hT hK1.1 hK1.2 hK2 hn).trans ?_
      have hki:k≠i:=fun h=>he (by omega)
      have hi2:i<(s.2.1.set k (j_ (s.2.1.getD k dB) (eD o (s.2.1.getD i dB)))).length:=by simpa using hi
      simp only [h6,bL,a_,ak (dA hi2),eF,rA,getD_set_ne hki,ah5 xh.2.1 ho.2.2.1 hn,aJ,List.set_set,UA hi2,List.take_left']
      rfl
  ·rw [fH h6,aA qK,aA (show ¬(o.1=6/\(k:Int)=(i:Int)) from fun h=>h6 h.1),ak (dA hi)]
   simp only [eF]
   refine (aav (s:=s) (o:=o) (a:=(i:Int)) (b:=(k:Int)) (ms:=(s.2.1.getD i dB).2.2.2.1) (fun _ _=>rfl) xh.2.1 ho.2.2.1 hn).trans ?_
   simp only [ak (dA hk),eF,hlist,w1]
   unfold x8
   by_cases c1:(s.2.1.getD k dB).2.2.2.1.length+(eD o (s.2.1.getD i dB)).length>6
   ·have c1':((s.2.1.getD k dB).2.2.2.1.length:Int)+((eD o (s.2.1.getD i dB)).length:Int)>6:=by omega
    simp only [c1,c1',bL,a_]
   ·have c1':¬(((s.2.1.getD k dB).2.2.2.1.length:Int)+((eD o (s.2.1.getD i dB)).length:Int)>6):=by omega
    have hlen:Gw n (eD o (s.2.1.getD i dB))=some (((eD o (s.2.1.getD i dB)).length:Int),()):=rfl
    simp only [c1,c1',eB,bG,bE,hlen,aJ,w2]
    by_cases c2:(s.2.1.getD k dB).2.2.1+((eD o (s.2.1.getD i dB)).length:Int)>1000
    ·simp only [c2,bL,a_]
    ·simp only [c2,eB,bG,bE]
     refine (Yd (s:=s) (k:=k) (l:=eD o (s.2.1.getD i dB)) (b:=s.2.1.getD k dB) (fun _ _=>rfl) hk rfl IL hT hK1.1 hK1.2 hK2 hn).trans ?_
     simp only [h6,eB,bG,bE]
abbrev kI:=Int×List Int×bQ×Unit
def bad (c:Int):kI:=(c,[],(0,[],()),())
def yA (s:bQ) (o:OpC):List Int×Int×bQ×Unit:=
 if oK s o.2.1>=0 then ([],6,s,()) else if s.2.1.length=3 then ([],10,s,()) else if s.1=1000 then ([],10,s,()) else ([],0,(s.1+1,s.2.1++[(o.2.1,s.1,1,[],())],()),())
def Ig (s:bQ) (i:Nat) (o:OpC):List Int×Int×bQ×Unit:=
 if (s.2.1.getD i dB).2.2.2.1.length=6 then ([],10,s,()) else if (s.2.1.getD i dB).2.2.1=1000 then ([],10,s,()) else
  ([(s.2.1.getD i dB).2.2.1],0,(s.1,s.2.1.set i (nW (s.2.1.getD i dB) (0,o.2.2.2.2.2.1,o.2.2.2.2.2.2.1,o.2.2.2.2.2.2.2.1,())),()),())
def JV (s:bQ) (i:Nat) (o:OpC):List Int×Int×bQ×Unit:=
 if o.1=2 then ([],0,(s.1,s.2.1.take i++s.2.1.drop (i+1),()),()) else
 if o.1=3 then Ig s i o else
 if o.1=4 then (EH o (s.2.1.getD i dB),0,(s.1,s.2.1.set i (B_ o (s.2.1.getD i dB)),()),()) else
 if o.1=7 then (Ry (s.2.1.getD i dB),0,(s.1,s.2.1.set i (Tp (s.2.1.getD i dB)),()),()) else carried s i o
def oV (s:bQ) (o:OpC):List Int×Int×bQ×Unit:=
 if o.1=1 then yA s o else if oK s o.2.1<0 then ([],4,s,()) else JV s (oK s o.2.1).toNat o
def mX (r:List Int×Int×bQ×Unit):kI:=if r.2.1=0 then (0,r.1,r.2.2.1,()) else bad r.2.1
structure Fit (s:bQ) (o:OpC):Prop where
 gW:gW s
 okO:okO o
 val:1<=s.1/\s.1<=1000
 few:s.2.1.length<=3
 small:∀b∈s.2.1,Oa b
 mode:o.1=4->1<=o.2.2.2.2.1/\o.2.2.2.2.1<=3
theorem made {n:Nat} {s:bQ} {o:OpC} (h:Fit s o) (hn:big<n):KV n s o.2.1=some ((yA s o).2.1,(yA s o).2.2.1,())/\(yA s o).1=[]:=by
 have hf:=h.few
 have hv:=h.val
 unfold KV yA
 rw [box h.gW.1 hn]
 simp only [aJ]
 by_cases c0:oK s o.2.1>=0
 ·simp only [c0,bL,a_,and_self]
 ·simp only [c0,eB,bG,bE]
  by_cases c1:s.2.1.length=3
  ·simp only [c1,a_]
   exact ⟨rfl,trivial⟩
  ·have:¬(s.2.1.length:Int)=3:=by omega
   simp only [c1,this,eB,bG,bE]
   by_cases c2:s.1=1000
   ·simp only [c2,bL,a_,and_self]
   ·simp only [c2,eB,bG,bE,jC,eY]
    rw [ak (by omega),wrap_i64 (by omega) (by omega)]
theorem al4 {n:Nat} {s:bQ} {o:OpC} (h:Fit s o) (hn:big<n):LK n s o=some (mX (yA s o),()):=by
 have hf:=h.few
 have hv:=h.val
 unfold LK yA
 rw [Tj h.gW.1 hn]
 simp only [aJ]
 by_cases c0:oK s o.2.1>=0
 ·simp only [c0,bL,a_]; rfl
 ·simp only [c0,eB,bG,bE]
  by_cases c1:s.2.1.length=3
  ·have:(s.2.1.length:Int)>=3:=by omega
   simp only [c1,this,bL,a_]; rfl
  ·have:¬(s.2.1.length:Int)>=3:=by omega
   simp only [c1,this,eB,bG,bE]
   by_cases c2:s.1=1000
   ·have:s.1>=1000:=by omega
    simp only [c2,bL,a_]; rfl
   ·have:¬s.1>=1000:=by omega
    simp only [c2,this,eB,bG,bE,Jm h.gW hn,aJ,jC]
    rw [ak (by omega),wrap_i64 (by omega) (by omega)]
    rfl
theorem TT {o:OpC} (ho:okO o):rz (0,o.2.2.2.2.2.1,o.2.2.2.2.2.2.1,o.2.2.2.2.2.2.2.1,()):=ho.2.2.2
theorem ahf {n:Nat} {s:bQ} {o:OpC} (h:Fit s o) (hn:big<n):KT n s o=some (oV s o):=by
 unfold KT oV
 by_cases k1:o.1=1
 ·obtain ⟨h1,h2⟩:=made h hn
  simp only [k1,bL,a_,h1,aJ]
  rw [<-h2]
 ·simp only [k1,eB,bG,bE,box h.gW.1 hn,aJ]
  rcases Ak s o.2.1 with hp | ⟨i,hp,hi⟩
  ·rw [hp]; rfl
  ·rw [hp]
   have h0:¬((i:Int)<0):=by omega
   simp only [h0,eB,bG,bE,ak (dA hi),eF]
   have hB:=h.small _ (nE hi dB)
   have qU:=h.gW.2 _ (nE hi dB)
   have hB1:=hB.1
   have hB2:=hB.2
   have hf:=h.few
   unfold JV
   by_cases k2:o.1=2
   ·have hw:IntKind.i64.wrap ((i:Int)+1)=((i+1:Nat):Int):=gp hi (by omega)
    have hdel:DF n s.2.1 (i:Int) ((i+1:Nat):Int)=some (((s.2.1.length - 1:Nat):Int),s.2.1.take i++s.2.1.drop (i+1)++[dB],()):=by
     show n_.vK dB s.2.1 (i:Int) ((i+1:Nat):Int)=_
     unfold n_.vK
     rw [ak ⟨by omega,by omega,by omega⟩]
     simp only [eF,Nat.add_sub_cancel_left]
     rfl
    have hl:(s.2.1.take i++s.2.1.drop (i+1)).length=s.2.1.length - 1:=by simp; omega
    simp only [k2,bL,a_,hw,hdel,aJ,eF]
    rw [<-hl,List.take_left']
    rfl
   ·simp only [k2,eB,bG,bE]
    by_cases k3:o.1=3
    ·simp only [k3,bL,a_]
     unfold Ig
     by_cases c1:(s.2.1.getD i dB).2.2.2.1.length=6
     ·simp only [c1,a_]
      rfl
     ·have:¬((s.2.1.getD i dB).2.2.2.1.length:Int)=6:=by omega
      simp only [c1,this,eB,bG,bE]
      by_cases c2:(s.2.1.getD i dB).2.2.1=1000
      ·simp only [c2,bL,a_]
      ·have hput:=abo (n:=n) (b:=s.2.1.getD i dB) (TT h.okO) (by omega) (by omega) (by omega)
       simp only [c2,eB,bG,bE,hput,aJ]
    ·simp only [k3,eB,bG,bE]
     by_cases k4:o.1=4
     ·simp only [k4,bL,a_,ajn qU.2.1 h.okO.2.2.1 hn (h.mode k4),aJ]
     ·simp only [k4,eB,bG,bE]
      by_cases k7:o.1=7
      ·simp only [k7,bL,a_,ana qU.2.1 hn,aJ]
      ·simp only [k7,eB,bG,bE,copied h.gW h.okO h.small hi hn,aJ]
theorem ajD {n:Nat} {ms:List dm} {r0:kI} {st:bQ} {c:Int} {B:(Int×kI×kI×List dm×Unit->Option (kI×Unit))->Int×kI×kI×List dm×Unit->Option (kI×Unit)}
  (hB:∀L v,B L v=(if decide (v.1<(v.2.2.2.1.length:Int))=true then (if aN v.1 v.2.2.2.1.length then (if (v.2.2.1.2.1.length+[(v.2.2.2.1.getD v.1.toNat dM).1].length) * 8<=140737488355328 then L (IntKind.i64.wrap (v.1+(1:Int)),v.2.1,(v.2.2.1.1,v.2.2.1.2.1++[(v.2.2.2.1.getD v.1.toNat dM).1],v.2.2.1.2.2),v.2.2.2.1,()) else none) else none) else some (v.2.2.1,())))
  (hb:ms.length<=big) (hn:big<n):rounds B n ((0:Int),r0,(c,[],st,()),ms,())=some ((c,ms.map (·.1),st,()),()):=by
 have hb':ms.length<=1048576:=hb
 refine (iy (fun i=>((i:Int),r0,(c,(ms.take i).map (·.1),st,()),ms,())) (fun _=>none) (some ((c,ms.map (·.1),st,()),())) (m:=ms.length) (by simp) (by omega) ?_ ?_).trans (mh (fun _ _ _=>rfl))
 ·intro L i hi _
  have ht:ms.take (i+1)=ms.take i++[ms[i]]:=by simp
  have hl:((ms.take i).map (·.1)).length<=i:=by simp; omega
  simp only [hB,gZ,hi,bL,a_,dA hi,oD hi,gp hi (by omega),jC,ht,rM,lG,List.map_nil]
  rw [ak (by omega)]
 ·intro L _
  simp only [hB,pJ,eB,bG,bE,rP]
theorem ahg {n:Nat} {s:bQ} {o:OpC} (h:Fit s o) (hn:big<n):LC n s o=some (mX (oV s o),()):=by
 unfold LC oV
 by_cases k1:o.1=1
 ·simp only [k1,bL,a_,al4 h hn,aJ]
 ·simp only [k1,eB,bG,bE,Tj h.gW.1 hn,aJ]
  rcases Ak s o.2.1 with hp | ⟨i,hp,hi⟩
  ·rw [hp]; rfl
  ·rw [hp]
   have h0:¬((i:Int)<0):=by omega
   simp only [h0,eB,bG,bE,Jm h.gW hn,aJ,ak (dA hi),eF]
   have hB:=h.small _ (nE hi dB)
   have qU:=h.gW.2 _ (nE hi dB)
   have hB1:=hB.1
   have hB2:=hB.2
   have hf:=h.few
   unfold JV
   by_cases k2:o.1=2
   ·have hw:IntKind.i64.wrap ((i:Int)+1)=((i+1:Nat):Int):=gp hi (by omega)
    simp only [k2,bL,a_,hw,eF]
    rw [ak ⟨by omega,by omega,by omega⟩,ak ⟨by first | trivial | rfl,by first | trivial | rfl,by omega⟩,ak ⟨by omega,by omega,by omega⟩,ak ⟨by omega,by omega,by first | trivial | rfl,by first | trivial | rfl,by omega⟩]
    rfl
   ·simp only [k2,eB,bG,bE]
    by_cases k3:o.1=3
    ·simp only [k3,bL,a_]
     unfold Ig
     by_cases c1:(s.2.1.getD i dB).2.2.2.1.length=6
     ·have:((s.2.1.getD i dB).2.2.2.1.length:Int)>=6:=by omega
      simp only [c1,this,bL,a_]; rfl
     ·have:¬((s.2.1.getD i dB).2.2.2.1.length:Int)>=6:=by omega
      simp only [c1,this,eB,bG,bE]
      by_cases c2:(s.2.1.getD i dB).2.2.1=1000
      ·have:(s.2.1.getD i dB).2.2.1>=1000:=by omega
       simp only [c2,this,bL,a_]; rfl
      ·have:¬(s.2.1.getD i dB).2.2.1>=1000:=by omega
       have hput:=abp (n:=n) (b:=s.2.1.getD i dB) (TT h.okO) (by omega) (by omega) (by omega)
       simp only [c2,this,eB,bG,bE,hput,aJ]
       rfl
    ·simp only [k3,eB,bG,bE]
     by_cases k4:o.1=4
     ·simp only [k4,bL,a_,ajo qU.2.1 h.okO.2.2.1 hn,aJ]
      rfl
     ·simp only [k4,eB,bG,bE]
      by_cases k7:o.1=7
      ·simp only [k7,bL,a_,an9 qU.2.1 hn,aJ]
       exact ajD (fun _ _=>rfl) (lY (qN _ _) qU.2.1) hn
      ·simp only [k7,eB,bG,bE,al3 h.gW h.okO h.small hi hn,aJ]
       unfold mX
       by_cases c:(carried s i o).2.1=0
       ·simp only [c,bL,iB,bG,bE,a_]
       ·simp only [c,eB,lD,a_,bE]; rfl
theorem copies {n:Nat} (k:Int):u7 n k=some (decide (k=5) || decide (k=6),()):=by
 unfold u7
 cases decide (k=5) <;> rfl
theorem RZ {n:Nat} (o:OpC):Gt n o=some (decide (o.1=5) || decide (o.1=6),()):=copies (n:=n) o.1
theorem aj_ {n:Nat} (o:OpC):Gu n o=some ((decide (o.1=5) || decide (o.1=6)) || decide (o.1=4),()):=by
 unfold Gu
 rw [RZ]
 simp only [aJ]
 cases (decide (o.1=5) || decide (o.1=6)) <;> rfl
theorem ajI (k:Nat):decide ((k:Int)>0)=!decide ((k:Int)=0):=by
 by_cases h:k=0
 ·subst h; rfl
 ·rw [gB (by omega),fH (by omega)]; rfl
def vM (o:OpC):Bool:=(((decide (o.1=5) || decide (o.1=6)) || decide (o.2.2.1=[])) && ((((decide (o.1=5) || decide (o.1=6)) || decide (o.1=4)) || decide ((o.2.2.2.1.length:Int)=0)) && ((decide (o.1=4) || decide (o.2.2.2.2.1=0)) &&
 ((decide (o.1=4) || (decide (o.1=3) || decide (o.2.2.2.2.2.1=0))) && (decide (o.1=3) || (decide (o.2.2.2.2.2.2.1=0) && decide ((o.2.2.2.2.2.2.2.1.length:Int)=0)))))))
set_option maxRecDepth 20000 in
theorem only {n:Nat} (o:OpC):KO n o=some (vM o,()):=by
 unfold KO vM
 simp only [RZ,aj_,aJ]
 generalize (decide (o.1=5) || decide (o.1=6))=c
 generalize decide (o.2.2.1=[])=b1
 generalize decide (o.1=4)=b2
 generalize decide ((o.2.2.2.1.length:Int)=0)=b3
 generalize decide (o.2.2.2.2.1=0)=b4
 generalize decide (o.1=3)=b5
 generalize decide (o.2.2.2.2.2.1=0)=b6
 generalize decide (o.2.2.2.2.2.2.1=0)=b7
 generalize decide ((o.2.2.2.2.2.2.2.1.length:Int)=0)=b8
 revert c b1 b2 b3 b4 b5 b6 b7 b8
 decide +kernel
set_option maxRecDepth 20000 in
theorem form {n:Nat} (o:OpC):LJ n o=some (decide (1<=o.1/\o.1<=7) && vM o,()):=by
 unfold LJ vM
 simp only [uK,copies,aJ,ajI]
 generalize (decide (o.1=5) || decide (o.1=6))=c
 generalize decide (o.2.2.1=[])=b1
 generalize decide (o.1=4)=b2
 generalize decide ((o.2.2.2.1.length:Int)=0)=b3
 generalize decide (o.2.2.2.2.1=0)=b4
 generalize decide (o.1=3)=b5
 generalize decide (o.2.2.2.2.2.1=0)=b6
 generalize decide (o.2.2.2.2.2.2.1=0)=b7
 generalize decide ((o.2.2.2.2.2.2.2.1.length:Int)=0)=b8
 generalize decide (1<=o.1/\o.1<=7)=b9
 revert c b1 b2 b3 b4 b5 b6 b7 b8 b9
 decide +kernel
def vJ (us:List Int) (j:Nat):Bool:=!decide (1<=us.getD j 0/\us.getD j 0<=999) || (decide ((j:Int)>0) && decide (us.getD j 0<=us.getD (j - 1) 0))
theorem aoi {n:Nat} {us:List Int} (hb:us.length<=big) (hn:big<n):GQ n us=gD (fun j=>if vJ us j=true then some (some (false,())) else none) (some (true,())) us.length 0:=by
 have hb':us.length<=1048576:=hb
 unfold GQ
 refine iy (fun i=>(us,(i:Int),())) (fun j=>if vJ us j=true then some (some (false,())) else none) (some (true,())) (m:=us.length) rfl (by omega) ?_ ?_
 ·intro L i hi _
  simp only [gZ,hi,bL,a_,dA hi,eF,uK,aJ,gp hi (by omega)]
  unfold vJ
  cases h1:decide (1<=us.getD i 0/\us.getD i 0<=999) with
  | false=>rfl
  | true=>
   cases i with
   | zero=>rfl
   | succ j=>
    have hj:j<us.length:=by omega
    rw [gB (show ((j+1:Nat):Int)>0 by omega),U5 hj (by omega)]
    simp only [dA hj,a_,eF,Nat.add_sub_cancel,iB,bG,bE,Gf,yL]
    by_cases hle:us.getD (j+1) 0<=us.getD j 0
    ·simp only [hle,bL,a_]
    ·simp only [hle,eB,bG,bE]
 ·intro L _
  simp
theorem aoh {n:Nat} {us:List Int} (hb:us.length<=big) (hn:big<n):Gv n us=gD (fun j=>if vJ us j=true then some (some (false,())) else none) (some (true,())) us.length 0:=by
 have hb':us.length<=1048576:=hb
 unfold Gv
 refine iy (fun i=>(us,us,(us.length:Int),(i:Int),())) (fun j=>if vJ us j=true then some (some (false,())) else none) (some (true,())) (m:=us.length) rfl (by omega) ?_ ?_
 ·intro L i hi _
  have hu:Dz n (us.getD i 0)=some (decide (1<=us.getD i 0/\us.getD i 0<=999),()):=by
   unfold Dz
   rw [Da,uK]; rfl
  simp only [gZ,hi,bL,a_,dA hi,eF,hu,aJ,gp hi (by omega)]
  unfold vJ
  cases h1:decide (1<=us.getD i 0/\us.getD i 0<=999) with
  | false=>rfl
  | true=>
   cases i with
   | zero=>rfl
   | succ j=>
    have hj:j<us.length:=by omega
    rw [gB (show ((j+1:Nat):Int)>0 by omega),U5 hj (by omega)]
    simp only [dA hj,a_,eF,Nat.add_sub_cancel,iB,bG,bE,Gf,yL,ge_iff_le]
    cases decide (us.getD (j+1) 0<=us.getD j 0) <;> rfl
 ·intro L _
  simp
def yK (us:List Int):Bool:=((gD (fun j=>if vJ us j=true then some (some (false,())) else none) (some (true,())) us.length 0).getD (false,())).1
theorem UZ (us:List Int):gD (fun j=>if vJ us j=true then some (some (false,())) else none) (some (true,())) us.length 0=some (yK us,()):=by
 unfold yK
 rcases YL (step:=fun j=>if vJ us j=true then some (some (false,())) else none) (fin:=some (true,())) (r:=some (false,())) (fun j=>by by_cases h:vJ us j=true <;> simp [h]) (m:=us.length) (i:=0) with h | h <;> rw [h] <;> rfl
def iC (o:OpC):Int:=
 if (!(decide (1<=o.1/\o.1<=7) && vM o))=true then 1 else
 if (!decide (nU o.2.1) || ((decide (o.1=5) || decide (o.1=6)) && !decide (nU o.2.2.1)))=true then 5 else
 if decide ((o.2.2.2.1.length:Int)>6)=true then 2 else
 if (!yK o.2.2.2.1 || (decide (o.1=4) && !decide (1<=o.2.2.2.2.1/\o.2.2.2.2.1<=3)) || !decide (0<=o.2.2.2.2.2.1/\o.2.2.2.2.2.1<=15) || !decide (0<=o.2.2.2.2.2.2.1/\o.2.2.2.2.2.2.1<=9999))=true then 3 else
 if decide ((o.2.2.2.2.2.2.2.1.length:Int)>400)=true then 2 else 0
set_option maxRecDepth 20000 in
theorem Rl {n:Nat} {o:OpC} (ho:okO o) (hn:big<n):GN n o=some (iC o,()):=by
 unfold GN iC
 simp only [form,(name_eq ho.1 hn).2,(name_eq ho.2.1 hn).2,copies,uK,aoi ho.2.2.1 hn,UZ,aJ]
 generalize (decide (1<=o.1/\o.1<=7) && vM o)=b0
 generalize decide (nU o.2.1)=b1
 generalize (decide (o.1=5) || decide (o.1=6))=b2
 generalize decide (nU o.2.2.1)=b3
 generalize decide ((o.2.2.2.1.length:Int)>6)=b4
 generalize yK o.2.2.2.1=b5
 generalize decide (o.1=4)=b6
 generalize decide (1<=o.2.2.2.2.1/\o.2.2.2.2.1<=3)=b7
 generalize decide (0<=o.2.2.2.2.2.1/\o.2.2.2.2.2.1<=15)=b8
 generalize decide (0<=o.2.2.2.2.2.2.1/\o.2.2.2.2.2.2.1<=9999)=b9
 generalize decide ((o.2.2.2.2.2.2.2.1.length:Int)>400)=c
 revert b0 b1 b2 b3 b4 b5 b6 b7 b8 b9 c
 decide +kernel
set_option maxRecDepth 20000 in
theorem YF {n:Nat} {o:OpC} (ho:okO o) (hn:big<n):Gs n o=some (iC o,()):=by
 have hfl:∀x,xI n x=some (decide (0<=x/\x<=15),()):=fun x=>by unfold xI; rw [Da,uK]; rfl
 have hda:∀x,xJ n x=some (decide (0<=x/\x<=9999),()):=fun x=>by unfold xJ; rw [Da,uK]; rfl
 unfold Gs iC
 simp only [only,(name_eq ho.1 hn).1,(name_eq ho.2.1 hn).1,RZ,Da,uK,aoh ho.2.2.1 hn,UZ,hfl,hda,aJ]
 generalize vM o=b0
 generalize decide (1<=o.1/\o.1<=7)=a0
 generalize decide (nU o.2.1)=b1
 generalize (decide (o.1=5) || decide (o.1=6))=b2
 generalize decide (nU o.2.2.1)=b3
 generalize decide ((o.2.2.2.1.length:Int)>6)=b4
 generalize yK o.2.2.2.1=b5
 generalize decide (o.1=4)=b6
 generalize decide (1<=o.2.2.2.2.1/\o.2.2.2.2.1<=3)=b7
 generalize decide (0<=o.2.2.2.2.2.1/\o.2.2.2.2.2.1<=15)=b8
 generalize decide (0<=o.2.2.2.2.2.2.1/\o.2.2.2.2.2.2.1<=9999)=b9
 generalize decide ((o.2.2.2.2.2.2.2.1.length:Int)>400)=c
 revert a0 b0 b1 b2 b3 b4 b5 b6 b7 b8 b9 c
 decide +kernel
def Aj (r:kI):Prop:=r.2.1.length<=big/\gW r.2.2.1
theorem FH (c:Int):Aj (bad c):=by
 refine ⟨by simp [bad,big],by simp [bad,big],fun b hb=>?_⟩
 simp [bad] at hb
theorem JA {s:bQ} {i:Nat} {b:Bx} {v:Int} (hs:gW s) (hb:okB b):gW (v,s.2.1.set i b,()):=by
 refine ⟨by simpa using hs.1,fun x hx=>?_⟩
 rcases Xq hx with h | rfl
 ·exact hs.2 x h
 ·exact hb
theorem aaZ {b:Bx} {p:dm->Bool} (h:okB b):okB (b.1,b.2.1,b.2.2.1,b.2.2.2.1.filter p,()):=
 ⟨h.1,lY (qN _ _) h.2.1,fun m hm=>h.2.2 m (eG.1 hm).1⟩
theorem ahL {s:bQ} {i k:Nat} {o:OpC} (hs:gW s) (hsm:∀b∈s.2.1,Oa b) (hi:i<s.2.1.length) (hk:k<s.2.1.length):(x8 s i k o).1.length<=big/\gW (x8 s i k o).2.2.1:=by
 have hT:(eD o (s.2.1.getD i dB)).length<=6:=lY (qN _ _) (hsm _ (nE hi dB)).2
 have hK:=(hsm _ (nE hk dB)).2
 unfold x8
 split
 ·exact ⟨by simp [big],hs⟩
 ·split
  ·exact ⟨by simp [big],hs⟩
  ·have hP:okB (j_ (s.2.1.getD k dB) (eD o (s.2.1.getD i dB))):=abn (hs.2 _ (nE hk dB)) (fun m hm=>(hs.2 _ (nE hi dB)).2.2 m (eG.1 hm).1) (by unfold big; omega)
   refine ⟨by rw [Oi]; unfold big; omega, ?_⟩
   have h1:gW (s.1,s.2.1.set k (j_ (s.2.1.getD k dB) (eD o (s.2.1.getD i dB))),()):=JA hs hP
   by_cases h6:o.1=6
   ·simp only [h6,a_]
    exact JA (s:=(s.1,s.2.1.set k (j_ (s.2.1.getD k dB) (eD o (s.2.1.getD i dB))),())) h1 (aaZ (hs.2 _ (nE hi dB)))
   ·simp only [h6,bE]
    exact h1
theorem ahe {s:bQ} {o:OpC} (h:Fit s o):(oV s o).1.length<=big/\gW (oV s o).2.2.1:=by
 have hs:=h.gW
 have hf:=h.few
 unfold oV
 by_cases k1:o.1=1
 ·rw [ak k1]
  unfold yA
  split
  ·exact ⟨by simp [big],hs⟩
  ·split
   ·exact ⟨by simp [big],hs⟩
   ·split
    ·exact ⟨by simp [big],hs⟩
    ·refine ⟨by simp [big], ?_,fun b hb=>?_⟩
     ·simp [big]; omega
     ·rcases bW.1 hb with hb | hb
      ·exact hs.2 b hb
      ·simp only [fV] at hb
       subst hb
       exact ⟨h.okO.1,by simp [big],by simp⟩
 ·rw [aA k1]
  rcases Ak s o.2.1 with hp | ⟨i,hp,hi⟩
  ·rw [hp,ak (by decide)]
   exact ⟨by simp [big],hs⟩
  ·rw [hp,aA (by omega),eF]
   have hB:=h.small _ (nE hi dB)
   have qU:=hs.2 _ (nE hi dB)
   have hB2:=hB.2
   unfold JV
   split
   ·refine ⟨by simp [big], ?_,fun b hb=>?_⟩
    ·simp [big]; omega
    ·rcases bW.1 hb with hb | hb
     ·exact hs.2 b (Mg hb)
     ·exact hs.2 b (List.mem_of_mem_drop hb)
   ·split
    ·unfold Ig
     split
     ·exact ⟨by simp [big],hs⟩
     ·split
      ·exact ⟨by simp [big],hs⟩
      ·refine ⟨by simp [big],JA hs (abn (l:=[_]) qU (fun m hm=>?_) (by simp only [jC]; unfold big; omega))⟩
       simp only [fV] at hm
       subst hm
       exact TT h.okO
    ·split
     ·refine ⟨?_,JA hs ⟨qU.1,by simpa [B_] using qU.2.1,fun m hm=>?_⟩⟩
      ·unfold EH
       rw [oO]
       exact lY (qN _ _) qU.2.1
      ·obtain ⟨x,hx,rfl⟩:=fK.1 hm
       unfold kY
       split
       ·exact qU.2.2 x hx
       ·exact qU.2.2 x hx
     ·split
      ·refine ⟨?_,JA hs (aaZ qU)⟩
       unfold Ry
       rw [oO]
       exact lY (qN _ _) qU.2.1
      ·unfold carried
       split
       ·exact ⟨by simp [big],hs⟩
       ·split
        ·exact ⟨by simp [big],hs⟩
        ·rename_i hneg _
         rcases Ak s o.2.2.1 with hp2 | ⟨k,hp2,hk⟩
         ·rw [hp2] at hneg; exact absurd (by decide) hneg
         ·rw [hp2,eF]
          exact ahL hs h.small hi hk
theorem ann {s:bQ} {o:OpC} (h:Fit s o):Aj (mX (oV s o)):=by
 unfold mX
 split
 ·exact ahe h
 ·exact FH _
theorem fit {s:bQ} {o:OpC} (hs:gW s) (ho:okO o) (hg:nG s) (hf:iC o=0):Fit s o:=by
 refine ⟨hs,ho,hg.1,hg.2.1,fun b hb=>?_,fun h4=>?_⟩
 ·obtain ⟨i,hi,rfl⟩:=sU.1 hb
  have:=(hg.2.2 i hi).1
  rw [getD_lt hi] at this
  obtain ⟨_,_,h3,h4,_⟩:=this
  exact ⟨⟨by omega,h3.2⟩,h4⟩
 ·unfold iC at hf
  split at hf
  ·omega
  ·split at hf
   ·omega
   ·split at hf
    ·omega
    ·split at hf
     ·omega
     ·rename_i hc
      rw [gB h4] at hc
      simp only [Bool.not_eq_true,AJ,yL] at hc
      have:=hc.1.1.2
      simpa using this
theorem XQ {n:Nat} {s:bQ} {o:OpC} (hs:gW s) (ho:okO o) (hg:nG s) (hn:big<n):∃r:kI,yU n s o=some (r,())/\AX n s o=some (r,())/\Aj r/\
  ((iC o=0/\r=mX (oV s o))\/(iC o≠0/\r=bad (iC o))):=by
 obtain ⟨he,c,hc,hgc⟩:=zR hs hn
 have h0:=hgc.2 hg
 unfold yU AX
 rw [hc]
 simp only [aJ,h0,bL,iB,bG,bE,Rl ho hn,YF ho hn]
 by_cases h1:iC o=0
 ·have hF:=fit hs ho hg h1
  simp only [h1,bL,iB,bG,bE,ahg hF hn,own hs hn,ahf hF hn,aJ]
  refine ⟨mX (oV s o),rfl, ?_,ann hF, .inl ⟨trivial,rfl⟩⟩
  unfold mX
  by_cases h2:(oV s o).2.1=0
  ·simp only [h2,bL,iB,bG,bE,a_]
  ·simp only [h2,eB,lD,a_,bE]
   rfl
 ·refine ⟨bad (iC o), ?_, ?_,FH _, .inr ⟨h1,rfl⟩⟩
  ·simp only [h1,eB,lD,a_]; rfl
  ·simp only [h1,eB,lD,a_]; rfl
end Go.Proofs.YtailcbngagacaabGreat.mP
