/- Packing and reading of ops, on both sides. -/
import Derived.Test.YtailcbngagacaabGreatGoodMath
set_option linter.unusedVariables false
set_option linter.unusedSimpArgs false
namespace Go.Proofs.YtailcbngagacaabGreat.uu
open Go Ow ni nM vo oQ mP xL
def dF (l:List Int):Prop:=∀x∈l,0<=x/\x<=255
theorem Cz {l:List Int} (h:dF l) (k:Nat):dF (l.take k):=fun x hx=>h x (Mg hx)
theorem Fq {l:List Int} (h:dF l) (k:Nat):dF (l.drop k):=fun x hx=>h x (List.mem_of_mem_drop hx)
theorem uI {l m:List Int} (h:dF l) (h':dF m):dF (l++m):=fun x hx=>(bW.1 hx).elim (h x) (h' x)
theorem vT {x:Int} {m:List Int} (h:0<=x/\x<=255) (h':dF m):dF (x :: m):=fun y hy=>(bT.1 hy).elim (fun e=>e▸h) (h' y)
theorem aad (k:Nat):dF (List.replicate k 0):=fun x hx=>by rw [(List.mem_replicate.1 hx).2]; omega
theorem Jh {n:Int} (h0:0<=n) (h1:n<=65535):dF (two n):=vT (by omega) (vT (by omega) (fun x hx=>absurd hx (zb)))
theorem Cy {l:List Int} (h:dF l) (i:Nat):0<=l.getD i 0/\l.getD i 0<=255:=by
 by_cases hi:i<l.length
 ·rw [getD_lt hi]; exact h _ (ku hi)
 ·rw [h_,uy (by omega)]
  exact ⟨DV _,by show (0:Int)<=255; omega⟩
theorem wrap_u8 {x:Int} (h1:0<=x) (h2:x<=255):IntKind.u8.wrap x=x:=by
 simp [IntKind.wrap,IntKind.bits,IntKind.signed]
 omega
theorem F6 {n:Nat} {x:Int} (h0:0<=x) (h1:x<=65535):yR n x=some (two x,()):=by
 unfold yR two
 rw [DW h0,Bn h0,wrap_i64 (by omega) (by omega),wrap_u8 (by omega) (by omega),wrap_u8 (by omega) (by omega)]
 rfl
theorem Kc {n:Nat} {x:Int} (h0:0<=x) (h1:x<=65535):Bh n x=some (two x,()):=F6 (n:=n) h0 h1
theorem acv (l:List Int) (x:Int):pE (l++[x])=(pE l * 31+x) % 65521:=by simp [pE]
theorem Od:∀(l:List Int),0<=pE l/\pE l<=65520:=fun l=>by
 rcases List.eq_nil_or_concat l with rfl | ⟨m,x,rfl⟩
 ·exact ⟨by decide,by decide⟩
 ·rw [List.concat_eq_append,acv]; omega
theorem acy {l:List Int} (h:dF l) {i:Nat} (hi:i<l.length):(IntKind.i64.wrap ((IntKind.i64.wrap (pE (l.take i) * (31:Int)))+(IntKind.i64.wrap l[i]))).tmod (65521:Int)=pE (l.take (i+1)):=by
 have h1:=Od (l.take i)
 have h2:=h _ (ku hi)
 rw [Qd hi,acv,wrap_i64 (x:=pE (l.take i) * 31) (by omega) (by omega),wrap_i64 (x:=l[i]) (by omega) (by omega),wrap_i64 (by omega) (by omega),Bn (by omega)]
theorem an6 {n:Nat} {l:List Int} (h:dF l) (hb:l.length<=big) (hn:big<n):KZ n l=some (pE l,()):=by
 have hb':l.length<=1048576:=hb
 unfold KZ
 refine (iy (fun i=>(pE (l.take i),l,(l.length:Int),(i:Int),())) (fun _=>none) (some (pE l,())) (m:=l.length) rfl (by omega) ?_ ?_).trans (mh (fun _ _ _=>rfl))
 ·intro L i hi _
  simp only [gZ,hi,bL,a_,dA hi,oD hi,gp hi (by omega),acy h hi]
  rfl
 ·intro L _
  simp
theorem an7 {n:Nat} {l:List Int} (h:dF l) (hb:l.length<=big) (hn:big<n):LP n l=some (pE l,()):=by
 have hb':l.length<=1048576:=hb
 unfold LP
 refine (iy (fun i=>(l,pE (l.take i),(i:Int),())) (fun _=>none) (some (pE l,())) (m:=l.length) rfl (by omega) ?_ ?_).trans (mh (fun _ _ _=>rfl))
 ·intro L i hi _
  simp only [gZ,hi,bL,a_,dA hi,oD hi,gp hi (by omega),acy h hi]
  rfl
 ·intro L _
  simp
theorem Ro {R:Type} {p:Nat->Bool} {r fin:R} (hne:r≠fin):∀{m i:Nat},gD (fun j=>if p j=true then some r else none) fin m i=fin->∀j,i<=j->j<i+m->p j=false
 | 0,i,_,j,h1,h2=>by omega
 | m+1,i,h,j,h1,h2=>by
  rw [gD] at h
  cases hp:p i with
  | true=>rw [hp] at h; exact absurd h hne
  | false=>
   rw [hp] at h
   by_cases e:j=i
   ·rw [e]; exact hp
   ·exact Ro hne h j (by omega) (by omega)
theorem U0 {us:List Int} (h:yK us=true):∀u∈us,1<=u/\u<=999:=by
 intro u hu
 obtain ⟨j,hj,rfl⟩:=sU.1 hu
 have h1:=UZ us
 rw [h] at h1
 have h2:=Ro (by simp) h1 j (gq _) (by omega)
 unfold vJ at h2
 rw [getD_lt hj] at h2
 have:=(AJ.1 h2).1
 simpa using this
structure ng (o:OpC):Prop where
 ro:RO o
 data:dF o.2.2.2.2.2.2.2.1
theorem ng.mode {o:OpC} (h:ng o):0<=o.2.2.2.2.1/\o.2.2.2.2.1<=3:=by
 by_cases h4:o.1=4
 ·have:=h.ro.mode h4; omega
 ·have:=h.ro.form
  unfold vM at this
  simp only [bg,nZ,dS,h4,false_or] at this
  have:=this.2.2.1
  omega
theorem ng.box {o:OpC} (h:ng o):o.2.1.length<=8/\dF o.2.1:=⟨h.ro.box.1.2,fun c hc=>by have:=h.ro.box.2 c hc; omega⟩
theorem ng.to' {o:OpC} (h:ng o):o.2.2.1.length<=8/\dF o.2.2.1:=by
 by_cases h4:o.1=5\/o.1=6
 ·have:=h.ro.to' h4
  exact ⟨this.1.2,fun c hc=>by have:=this.2 c hc; omega⟩
 ·have h5:o.1≠5:=fun e=>h4 (.inl e)
  have h6:o.1≠6:=fun e=>h4 (.inr e)
  have:=h.ro.form
  unfold vM at this
  simp only [bg,nZ,dS,h5,h6,false_or] at this
  rw [this.1]
  exact ⟨gq _,fun x hx=>absurd hx (zb)⟩
theorem alO {us:List Int} (h:∀u∈us,1<=u/\u<=999):dF (us.flatMap two):=fun x hx=>by
 obtain ⟨u,hu,hx⟩:=jY.1 hx
 have:=h u hu
 exact Jh (by omega) (by omega) x hx
theorem ng.body {o:OpC} (h:ng o):dF (jQ o)/\(jQ o).length<=500:=by
 have h1:=h.box
 have h2:=h.to'
 have h3:=h.mode
 have h4:=h.ro
 have h5:=h4.kind
 have h6:=h4.few
 have h7:=h4.flags
 have h8:=h4.date
 have h9:=h4.data
 refine ⟨?_,by rw [Jn]; omega⟩
 unfold jQ
 exact vT (by omega) (vT (by omega) (uI h1.2 (vT (by omega) (uI h2.2 (vT (by omega) (uI (alO (U0 h4.Ke)) (vT (by omega) (vT (by omega) (uI (Jh h8.1 (by omega)) (uI (Jh (by omega) (by omega)) h.data))))))))))
theorem ng.head {o:OpC} (h:ng o):dF (qW o)/\(qW o).length<=502:=by
 have:=h.body
 exact ⟨uI (Jh (by omega) (by omega)) this.1,by rw [aas]; omega⟩
def qz (o:OpC):List Int:=o.1 :: (o.2.1.length:Int) :: (o.2.1++(o.2.2.1.length:Int) :: (o.2.2.1++[(o.2.2.2.1.length:Int)]))
def MG (o:OpC):List Int:=o.2.2.2.2.1 :: o.2.2.2.2.2.1 :: (two o.2.2.2.2.2.2.1++(two (o.2.2.2.2.2.2.2.1.length:Int)++o.2.2.2.2.2.2.2.1))
theorem XZ (o:OpC):jQ o=qz o++(o.2.2.2.1.flatMap two++MG o):=by simp [jQ,qz,MG]
theorem acF (us:List Int) {i:Nat} (hi:i<us.length):(us.take (i+1)).flatMap two=(us.take i).flatMap two++two us[i]:=by
 rw [Qd hi,D6,kS,xO,gT]
theorem aa7 {n:Nat} {o:OpC} (h:ng o) (hn:big<n):Gx n o=some (bU o,()):=by
 have h1:=h.box
 have h2:=h.to'
 have h3:=h.mode
 have h4:=h.ro
 have h5:=h4.kind
 have h6:=h4.few
 have h7:=h4.flags
 have h8:=h4.date
 have h9:=h4.data
 have hb:=h.body
 have hh:=h.head
 have hu:=U0 h4.Ke
 have hs:=Od (qW o)
 unfold big at hn
 unfold Gx
 rw [wrap_u8 (x:=o.1) (by omega) (by omega),wrap_u8 (x:=(o.2.1.length:Int)) (by omega) (by omega),wrap_u8 (x:=(o.2.2.1.length:Int)) (by omega) (by omega),wrap_u8 (x:=(o.2.2.2.1.length:Int)) (by omega) (by omega)]
 rw [ak (by simp only [bX,ig,mZ]; omega),ak (by simp only [bX,ig,mZ]; omega),ak (by simp only [bX,ig,mZ]; omega),ak (by simp only [bX,ig,mZ]; omega)]
 have ef:((([o.1,(o.2.1.length:Int)]++o.2.1)++[(o.2.2.1.length:Int)])++o.2.2.1)++[(o.2.2.2.1.length:Int)]=qz o:=by simp [qz]
 have lf:(qz o).length<=100:=by simp only [qz,bX,ig,mZ]; omega
 rw [ef]
 refine (iy (fun i=>(o.2.2.2.1,(o.2.2.2.1.length:Int),(i:Int),o,qz o++(o.2.2.2.1.take i).flatMap two,())) (fun _=>none) (some (bU o,())) (m:=o.2.2.2.1.length) (by simp) (by omega) ?_ ?_).trans (mh (fun _ _ _=>rfl))
 ·intro L i hi _
  have hr:=hu _ (ku hi)
  simp only [gZ,hi,bL,a_,dA hi,oD hi,gp hi (by omega),F6 (n:=n) (show 0<=o.2.2.2.1[i] by omega) (by omega),aJ,acF _ hi,gJ]
  rw [ak (by simp only [bX,Jp,qE,pM]; omega)]
 ·intro L _
  have lb:((qz o++o.2.2.2.1.flatMap two).length:Nat)<=200:=by simp only [bX,Jp]; omega
  simp only [pJ,eB,bG,bE,rP]
  rw [ak (by simp only [ig,mZ]; omega),F6 h8.1 (by omega)]
  simp only [aJ]
  rw [ak (by simp only [bX,ig,mZ,qE] at lb ⊢; omega)]
  unfold uX
  simp only [aJ]
  rw [F6 (by omega) (by omega)]
  simp only [aJ]
  rw [ak (by simp only [bX,ig,mZ,qE] at lb ⊢; omega),ak (by simp only [bX,ig,mZ,qE] at lb ⊢; omega)]
  rw [wrap_u8 (x:=o.2.2.2.2.1) (by omega) (by omega),wrap_u8 (x:=o.2.2.2.2.2.1) (by omega) (by omega)]
  have eb:((((qz o++o.2.2.2.1.flatMap two)++[o.2.2.2.2.1,o.2.2.2.2.2.1])++two o.2.2.2.2.2.2.1)++two (o.2.2.2.2.2.2.2.1.length:Int))++o.2.2.2.2.2.2.2.1=jQ o:=by rw [XZ]; simp [MG]
  rw [eb,wrap_i64 (x:=((jQ o).length:Int)+4) (by omega) (by omega),F6 (by omega) (by omega)]
  simp only [aJ]
  rw [ak (by rw [qE]; omega)]
  have eh:two (((jQ o).length:Int)+4)++jQ o=qW o:=rfl
  rw [eh,an6 hh.1 (by unfold big; omega) (by unfold big; omega)]
  simp only [aJ]
  rw [F6 hs.1 (by omega)]
  simp only [aJ]
  rw [ak (by rw [qE]; omega)]
  rfl
theorem NS {n:Nat} {o:OpC} (h:ng o) (hn:big<n):GU n o=some (bU o,()):=by
 have h1:=h.box
 have h2:=h.to'
 have h3:=h.mode
 have h4:=h.ro
 have h5:=h4.kind
 have h6:=h4.few
 have h7:=h4.flags
 have h8:=h4.date
 have h9:=h4.data
 have hb:=h.body
 have hh:=h.head
 have hu:=U0 h4.Ke
 have hs:=Od (qW o)
 unfold big at hn
 unfold GU
 rw [wrap_u8 (x:=o.1) (by omega) (by omega),wrap_u8 (x:=(o.2.1.length:Int)) (by omega) (by omega),wrap_u8 (x:=(o.2.2.1.length:Int)) (by omega) (by omega),wrap_u8 (x:=(o.2.2.2.1.length:Int)) (by omega) (by omega)]
 rw [ak (by simp only [bX,ig,mZ]; omega),ak (by simp only [bX,ig,mZ]; omega),ak (by simp only [bX,ig,mZ]; omega),ak (by simp only [bX,ig,mZ]; omega)]
 have ef:((([(0:Int),(0:Int),o.1,(o.2.1.length:Int)]++o.2.1)++[(o.2.2.1.length:Int)])++o.2.2.1)++[(o.2.2.2.1.length:Int)]=0 :: 0 :: qz o:=by simp [qz]
 have lf:(0 :: 0 :: qz o).length<=100:=by simp only [qz,bX,ig,mZ]; omega
 rw [ef]
 refine (iy (fun i=>(o,(i:Int),(0 :: 0 :: qz o)++(o.2.2.2.1.take i).flatMap two,())) (fun _=>none) (some (bU o,())) (m:=o.2.2.2.1.length) (by simp) (by omega) ?_ ?_).trans (mh (fun _ _ _=>rfl))
 ·intro L i hi _
  have hr:=hu _ (ku hi)
  simp only [gZ,hi,bL,a_,dA hi,oD hi,gp hi (by omega),Kc (n:=n) (show 0<=o.2.2.2.1[i] by omega) (by omega),aJ,acF _ hi,gJ]
  rw [ak (by simp only [bX,Jp,qE,pM] at lf ⊢; omega)]
 ·intro L _
  have lb:((0 :: 0 :: qz o)++o.2.2.2.1.flatMap two).length<=200:=by rw [bX,Jp]; omega
  simp only [pJ,eB,bG,bE,rP]
  rw [ak (by simp only [ig,mZ] at lb ⊢; omega),Kc h8.1 (by omega)]
  simp only [aJ]
  rw [ak (by simp only [bX,ig,mZ,qE] at lb ⊢; omega),Kc (by omega) (by omega)]
  simp only [aJ]
  rw [ak (by simp only [bX,ig,mZ,qE] at lb ⊢; omega),ak (by simp only [bX,ig,mZ,qE] at lb ⊢; omega)]
  rw [wrap_u8 (x:=o.2.2.2.2.1) (by omega) (by omega),wrap_u8 (x:=o.2.2.2.2.2.1) (by omega) (by omega)]
  have eb:(((((0 :: 0 :: qz o)++o.2.2.2.1.flatMap two)++[o.2.2.2.2.1,o.2.2.2.2.2.1])++two o.2.2.2.2.2.2.1)++two (o.2.2.2.2.2.2.2.1.length:Int))++o.2.2.2.2.2.2.2.1=0 :: 0 :: jQ o:=by rw [XZ]; simp [MG]
  have el:((0 :: 0 :: jQ o).length:Int)+2=((jQ o).length:Int)+4:=by simp only [ig]; omega
  rw [eb,el,wrap_i64 (x:=((jQ o).length:Int)+4) (by omega) (by omega),Kc (by omega) (by omega)]
  simp only [aJ]
  rw [ak (by rw [qE]; simp only [ig]; omega)]
  have eh:two (((jQ o).length:Int)+4)++(0 :: 0 :: jQ o).drop (two (((jQ o).length:Int)+4)).length=qW o:=rfl
  rw [eh,an7 hh.1 (by unfold big; omega) (by unfold big; omega)]
  simp only [aJ]
  rw [Kc hs.1 (by omega)]
  simp only [aJ]
  rw [ak (by rw [qE]; omega)]
  rfl
end Go.Proofs.YtailcbngagacaabGreat.uu
