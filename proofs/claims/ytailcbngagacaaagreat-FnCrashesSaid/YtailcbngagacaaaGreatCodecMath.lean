/- Packing and reading of ops, on both sides. -/
import Derived.Test.YtailcbngagacaaaGreatGoodMath
set_option linter.unusedVariables false
set_option linter.unusedSimpArgs false
namespace Go.Proofs.YtailcbngagacaaaGreat.uA
open Go Ow nJ oh vB pO ng yZ
def dA (l:List Int):Prop:=∀x∈l,0<=x/\x<=255
theorem Ac {l:List Int} (h:dA l) (k:Nat):dA (l.take k):=fun x hx=>h x (Mg hx)
theorem Fh {l:List Int} (h:dA l) (k:Nat):dA (l.drop k):=fun x hx=>h x (List.mem_of_mem_drop hx)
theorem uO {l m:List Int} (h:dA l) (h':dA m):dA (l++m):=fun x hx=>(bW.1 hx).elim (h x) (h' x)
theorem vU {x:Int} {m:List Int} (h:0<=x/\x<=255) (h':dA m):dA (x :: m):=fun y hy=>(bT.1 hy).elim (fun e=>e▸h) (h' y)
theorem Z9 (k:Nat):dA (List.replicate k 0):=fun x hx=>by rw [(List.mem_replicate.1 hx).2]; omega
theorem Jk {n:Int} (h0:0<=n) (h1:n<=65535):dA (two n):=vU (by omega) (vU (by omega) (fun x hx=>absurd hx (wR)))
theorem CO {l:List Int} (h:dA l) (i:Nat):0<=l.getD i 0/\l.getD i 0<=255:=by
 by_cases hi:i<l.length
 ·rw [getD_lt hi]; exact h _ (jY hi)
 ·rw [ig,uE (by omega)]
  exact ⟨Bo _,by show (0:Int)<=255; omega⟩
theorem wrap_u8 {x:Int} (h1:0<=x) (h2:x<=255):IntKind.u8.wrap x=x:=by
 simp [IntKind.wrap,IntKind.bits,IntKind.signed]
 omega
theorem F5 {n:Nat} {x:Int} (h0:0<=x) (h1:x<=65535):yS n x=some (two x,()):=by
 unfold yS two
 rw [DT h0,Bp h0,wrap_i64 (by omega) (by omega),wrap_u8 (by omega) (by omega),wrap_u8 (by omega) (by omega)]
 rfl
theorem Kb {n:Nat} {x:Int} (h0:0<=x) (h1:x<=65535):Bj n x=some (two x,()):=F5 (n:=n) h0 h1
theorem acu (l:List Int) (x:Int):pE (l++[x])=(pE l * 31+x) % 65521:=by simp [pE]
theorem Ol:∀(l:List Int),0<=pE l/\pE l<=65520:=fun l=>by
 rcases List.eq_nil_or_concat l with rfl | ⟨m,x,rfl⟩
 ·exact ⟨by decide,by decide⟩
 ·rw [List.concat_eq_append,acu]; omega
theorem acw {l:List Int} (h:dA l) {i:Nat} (hi:i<l.length):(IntKind.i64.wrap ((IntKind.i64.wrap (pE (l.take i) * (31:Int)))+(IntKind.i64.wrap l[i]))).tmod (65521:Int)=pE (l.take (i+1)):=by
 have h1:=Ol (l.take i)
 have h2:=h _ (jY hi)
 rw [Mh hi,acu,wrap_i64 (x:=pE (l.take i) * 31) (by omega) (by omega),wrap_i64 (x:=l[i]) (by omega) (by omega),wrap_i64 (by omega) (by omega),Bp (by omega)]
theorem anR {n:Nat} {l:List Int} (h:dA l) (hb:l.length<=big) (hn:big<n):KS n l=some (pE l,()):=by
 have hb':l.length<=1048576:=hb
 unfold KS
 refine (iA (fun i=>(pE (l.take i),l,(l.length:Int),(i:Int),())) (fun _=>none) (some (pE l,())) (m:=l.length) rfl (by omega) ?_ ?_).trans (mQ (fun _ _ _=>rfl))
 ·intro L i hi _
  simp only [g_,hi,bQ,a_,dz hi,nT hi,gu hi (by omega),acw h hi]
  rfl
 ·intro L _
  simp
theorem anS {n:Nat} {l:List Int} (h:dA l) (hb:l.length<=big) (hn:big<n):LF n l=some (pE l,()):=by
 have hb':l.length<=1048576:=hb
 unfold LF
 refine (iA (fun i=>(l,pE (l.take i),(i:Int),())) (fun _=>none) (some (pE l,())) (m:=l.length) rfl (by omega) ?_ ?_).trans (mQ (fun _ _ _=>rfl))
 ·intro L i hi _
  simp only [g_,hi,bQ,a_,dz hi,nT hi,gu hi (by omega),acw h hi]
  rfl
 ·intro L _
  simp
theorem Rj {R:Type} {p:Nat->Bool} {r fin:R} (hne:r≠fin):∀{m i:Nat},gz (fun j=>if p j=true then some r else none) fin m i=fin->∀j,i<=j->j<i+m->p j=false
 | 0,i,_,j,h1,h2=>by omega
 | m+1,i,h,j,h1,h2=>by
  rw [gz] at h
  cases hp:p i with
  | true=>rw [hp] at h; exact absurd h hne
  | false=>
   rw [hp] at h
   by_cases e:j=i
   ·rw [e]; exact hp
   ·exact Rj hne h j (by omega) (by omega)
theorem UR {us:List Int} (h:yK us=true):∀u∈us,1<=u/\u<=999:=by
 intro u hu
 obtain ⟨j,hj,rfl⟩:=sZ.1 hu
 have h1:=UQ us
 rw [h] at h1
 have h2:=Rj (by simp) h1 j (fT _) (by omega)
 unfold vJ at h2
 rw [getD_lt hj] at h2
 have:=(AL.1 h2).1
 simpa using this
structure oo (o:OpC):Prop where
 ro:RO o
 data:dA o.2.2.2.2.2.2.2.1
theorem oo.mode {o:OpC} (h:oo o):0<=o.2.2.2.2.1/\o.2.2.2.2.1<=3:=by
 by_cases h4:o.1=4
 ·have:=h.ro.mode h4; omega
 ·have:=h.ro.form
  unfold vM at this
  simp only [bg,nZ,dH,h4,false_or] at this
  have:=this.2.2.1
  omega
theorem oo.box {o:OpC} (h:oo o):o.2.1.length<=8/\dA o.2.1:=⟨h.ro.box.1.2,fun c hc=>by have:=h.ro.box.2 c hc; omega⟩
theorem oo.to' {o:OpC} (h:oo o):o.2.2.1.length<=8/\dA o.2.2.1:=by
 by_cases h4:o.1=5\/o.1=6
 ·have:=h.ro.to' h4
  exact ⟨this.1.2,fun c hc=>by have:=this.2 c hc; omega⟩
 ·have h5:o.1≠5:=fun e=>h4 (.inl e)
  have h6:o.1≠6:=fun e=>h4 (.inr e)
  have:=h.ro.form
  unfold vM at this
  simp only [bg,nZ,dH,h5,h6,false_or] at this
  rw [this.1]
  exact ⟨fT _,fun x hx=>absurd hx (wR)⟩
theorem alD {us:List Int} (h:∀u∈us,1<=u/\u<=999):dA (us.flatMap two):=fun x hx=>by
 obtain ⟨u,hu,hx⟩:=jZ.1 hx
 have:=h u hu
 exact Jk (by omega) (by omega) x hx
theorem oo.body {o:OpC} (h:oo o):dA (jR o)/\(jR o).length<=500:=by
 have h1:=h.box
 have h2:=h.to'
 have h3:=h.mode
 have h4:=h.ro
 have h5:=h4.kind
 have h6:=h4.few
 have h7:=h4.flags
 have h8:=h4.date
 have h9:=h4.data
 refine ⟨?_,by rw [Jp]; omega⟩
 unfold jR
 exact vU (by omega) (vU (by omega) (uO h1.2 (vU (by omega) (uO h2.2 (vU (by omega) (uO (alD (UR h4.Kc)) (vU (by omega) (vU (by omega) (uO (Jk h8.1 (by omega)) (uO (Jk (by omega) (by omega)) h.data))))))))))
theorem oo.head {o:OpC} (h:oo o):dA (qZ o)/\(qZ o).length<=502:=by
 have:=h.body
 exact ⟨uO (Jk (by omega) (by omega)) this.1,by rw [aar]; omega⟩
def qB (o:OpC):List Int:=o.1 :: (o.2.1.length:Int) :: (o.2.1++(o.2.2.1.length:Int) :: (o.2.2.1++[(o.2.2.2.1.length:Int)]))
def MI (o:OpC):List Int:=o.2.2.2.2.1 :: o.2.2.2.2.2.1 :: (two o.2.2.2.2.2.2.1++(two (o.2.2.2.2.2.2.2.1.length:Int)++o.2.2.2.2.2.2.2.1))
theorem XR (o:OpC):jR o=qB o++(o.2.2.2.1.flatMap two++MI o):=by simp [jR,qB,MI]
theorem acE (us:List Int) {i:Nat} (hi:i<us.length):(us.take (i+1)).flatMap two=(us.take i).flatMap two++two us[i]:=by
 rw [Mh hi,L6,kQ,Bu,h_]
theorem amL {n:Nat} {o:OpC} (h:oo o) (hn:big<n):KP n o=some (bZ o,()):=by
 have h1:=h.box
 have h2:=h.to'
 have h3:=h.mode
 have h4:=h.ro
 have h5:=h4.kind
 have h6:=h4.few
 have h7:=h4.flags
 have h8:=h4.date
 have h9:=h4.data
 have hb:=h.body
 have hh:=h.head
 have hu:=UR h4.Kc
 have hs:=Ol (qZ o)
 unfold big at hn
 unfold KP
 rw [wrap_u8 (x:=o.1) (by omega) (by omega),wrap_u8 (x:=(o.2.1.length:Int)) (by omega) (by omega),wrap_u8 (x:=(o.2.2.1.length:Int)) (by omega) (by omega),wrap_u8 (x:=(o.2.2.2.1.length:Int)) (by omega) (by omega)]
 rw [aj (by simp only [bV,gY,mY]; omega),aj (by simp only [bV,gY,mY]; omega),aj (by simp only [bV,gY,mY]; omega),aj (by simp only [bV,gY,mY]; omega)]
 have ef:((([o.1,(o.2.1.length:Int)]++o.2.1)++[(o.2.2.1.length:Int)])++o.2.2.1)++[(o.2.2.2.1.length:Int)]=qB o:=by simp [qB]
 have lf:(qB o).length<=100:=by simp only [qB,bV,gY,mY]; omega
 rw [ef]
 refine (iA (fun i=>(o.2.2.2.1,(o.2.2.2.1.length:Int),(i:Int),o,qB o++(o.2.2.2.1.take i).flatMap two,())) (fun _=>none) (some (bZ o,())) (m:=o.2.2.2.1.length) (by simp) (by omega) ?_ ?_).trans (mQ (fun _ _ _=>rfl))
 ·intro L i hi _
  have hr:=hu _ (jY hi)
  simp only [g_,hi,bQ,a_,dz hi,nT hi,gu hi (by omega),F5 (n:=n) (show 0<=o.2.2.2.1[i] by omega) (by omega),aL,acE _ hi,gD]
  rw [aj (by simp only [bV,Jr,qG,mZ]; omega)]
 ·intro L _
  have lb:((qB o++o.2.2.2.1.flatMap two).length:Nat)<=200:=by simp only [bV,Jr]; omega
  simp only [pJ,d_,bJ,bF,rT]
  rw [aj (by simp only [gY,mY]; omega),F5 h8.1 (by omega)]
  simp only [aL]
  rw [aj (by simp only [bV,gY,mY,qG] at lb ⊢; omega)]
  unfold sQ
  simp only [aL]
  rw [F5 (by omega) (by omega)]
  simp only [aL]
  rw [aj (by simp only [bV,gY,mY,qG] at lb ⊢; omega),aj (by simp only [bV,gY,mY,qG] at lb ⊢; omega)]
  rw [wrap_u8 (x:=o.2.2.2.2.1) (by omega) (by omega),wrap_u8 (x:=o.2.2.2.2.2.1) (by omega) (by omega)]
  have eb:((((qB o++o.2.2.2.1.flatMap two)++[o.2.2.2.2.1,o.2.2.2.2.2.1])++two o.2.2.2.2.2.2.1)++two (o.2.2.2.2.2.2.2.1.length:Int))++o.2.2.2.2.2.2.2.1=jR o:=by rw [XR]; simp [MI]
  rw [eb,wrap_i64 (x:=((jR o).length:Int)+4) (by omega) (by omega),F5 (by omega) (by omega)]
  simp only [aL]
  rw [aj (by rw [qG]; omega)]
  have eh:two (((jR o).length:Int)+4)++jR o=qZ o:=rfl
  rw [eh,anR hh.1 (by unfold big; omega) (by unfold big; omega)]
  simp only [aL]
  rw [F5 hs.1 (by omega)]
  simp only [aL]
  rw [aj (by rw [qG]; omega)]
  rfl
theorem TP {n:Nat} {o:OpC} (h:oo o) (hn:big<n):G7 n o=some (bZ o,()):=by
 have h1:=h.box
 have h2:=h.to'
 have h3:=h.mode
 have h4:=h.ro
 have h5:=h4.kind
 have h6:=h4.few
 have h7:=h4.flags
 have h8:=h4.date
 have h9:=h4.data
 have hb:=h.body
 have hh:=h.head
 have hu:=UR h4.Kc
 have hs:=Ol (qZ o)
 unfold big at hn
 unfold G7
 rw [wrap_u8 (x:=o.1) (by omega) (by omega),wrap_u8 (x:=(o.2.1.length:Int)) (by omega) (by omega),wrap_u8 (x:=(o.2.2.1.length:Int)) (by omega) (by omega),wrap_u8 (x:=(o.2.2.2.1.length:Int)) (by omega) (by omega)]
 rw [aj (by simp only [bV,gY,mY]; omega),aj (by simp only [bV,gY,mY]; omega),aj (by simp only [bV,gY,mY]; omega),aj (by simp only [bV,gY,mY]; omega)]
 have ef:((([(0:Int),(0:Int),o.1,(o.2.1.length:Int)]++o.2.1)++[(o.2.2.1.length:Int)])++o.2.2.1)++[(o.2.2.2.1.length:Int)]=0 :: 0 :: qB o:=by simp [qB]
 have lf:(0 :: 0 :: qB o).length<=100:=by simp only [qB,bV,gY,mY]; omega
 rw [ef]
 refine (iA (fun i=>(o,(i:Int),(0 :: 0 :: qB o)++(o.2.2.2.1.take i).flatMap two,())) (fun _=>none) (some (bZ o,())) (m:=o.2.2.2.1.length) (by simp) (by omega) ?_ ?_).trans (mQ (fun _ _ _=>rfl))
 ·intro L i hi _
  have hr:=hu _ (jY hi)
  simp only [g_,hi,bQ,a_,dz hi,nT hi,gu hi (by omega),Kb (n:=n) (show 0<=o.2.2.2.1[i] by omega) (by omega),aL,acE _ hi,gD]
  rw [aj (by simp only [bV,Jr,qG,mZ] at lf ⊢; omega)]
 ·intro L _
  have lb:((0 :: 0 :: qB o)++o.2.2.2.1.flatMap two).length<=200:=by rw [bV,Jr]; omega
  simp only [pJ,d_,bJ,bF,rT]
  rw [aj (by simp only [gY,mY] at lb ⊢; omega),Kb h8.1 (by omega)]
  simp only [aL]
  rw [aj (by simp only [bV,gY,mY,qG] at lb ⊢; omega),Kb (by omega) (by omega)]
  simp only [aL]
  rw [aj (by simp only [bV,gY,mY,qG] at lb ⊢; omega),aj (by simp only [bV,gY,mY,qG] at lb ⊢; omega)]
  rw [wrap_u8 (x:=o.2.2.2.2.1) (by omega) (by omega),wrap_u8 (x:=o.2.2.2.2.2.1) (by omega) (by omega)]
  have eb:(((((0 :: 0 :: qB o)++o.2.2.2.1.flatMap two)++[o.2.2.2.2.1,o.2.2.2.2.2.1])++two o.2.2.2.2.2.2.1)++two (o.2.2.2.2.2.2.2.1.length:Int))++o.2.2.2.2.2.2.2.1=0 :: 0 :: jR o:=by rw [XR]; simp [MI]
  have el:((0 :: 0 :: jR o).length:Int)+2=((jR o).length:Int)+4:=by simp only [gY]; omega
  rw [eb,el,wrap_i64 (x:=((jR o).length:Int)+4) (by omega) (by omega),Kb (by omega) (by omega)]
  simp only [aL]
  rw [aj (by rw [qG]; simp only [gY]; omega)]
  have eh:two (((jR o).length:Int)+4)++(0 :: 0 :: jR o).drop (two (((jR o).length:Int)+4)).length=qZ o:=rfl
  rw [eh,anS hh.1 (by unfold big; omega) (by unfold big; omega)]
  simp only [aL]
  rw [Kb hs.1 (by omega)]
  simp only [aL]
  rw [aj (by rw [qG]; omega)]
  rfl
end Go.Proofs.YtailcbngagacaaaGreat.uA
