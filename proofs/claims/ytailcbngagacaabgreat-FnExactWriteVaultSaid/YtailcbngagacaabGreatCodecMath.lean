/- Packing and reading of ops, on both sides. -/
import Derived.Test.YtailcbngagacaabGreatOwF
import Derived.Test.YtailcbngagacaabGreatLoopLib
import Derived.Test.YtailcbngagacaabGreatPackLib
import Derived.Test.YtailcbngagacaabGreatStoreMath
import Derived.Test.YtailcbngagacaabGreatOpsMath
import Derived.Test.YtailcbngagacaabGreatGoodMath
import Derived.Test.YtailcbngagacaabGreatWriteF
set_option linter.unusedSectionVars false
set_option linter.unusedVariables false
set_option linter.unusedSimpArgs false
namespace Go.Proofs.YtailcbngagacaabGreat.kR
open Go Go.Proofs.YtailcbngagacaabGreat.Ow Go.Proofs.YtailcbngagacaabGreat.oC Go.Proofs.YtailcbngagacaabGreat.kN Go.Proofs.YtailcbngagacaabGreat.wX Go.Proofs.YtailcbngagacaabGreat.gV Go.Proofs.YtailcbngagacaabGreat.jI Go.Proofs.YtailcbngagacaabGreat.vJ
def p9 (l:List Int):Prop:=∀x∈l,0≤x∧x≤255
theorem yz {l:List Int} (h:p9 l) (k:Nat):p9 (l.take k):=fun x hx=>h x (List.mem_of_mem_take hx)
theorem yx {l:List Int} (h:p9 l) (k:Nat):p9 (l.drop k):=fun x hx=>h x (List.mem_of_mem_drop hx)
theorem BL {l m:List Int} (h:p9 l) (h':p9 m):p9 (l++m):=fun x hx=>(anq.1 hx).elim (h x) (h' x)
theorem rP {x:Int} {m:List Int} (h:0≤x∧x≤255) (h':p9 m):p9 (x :: m):=fun y hy=>(anu.1 hy).elim (fun e=>e▸h) (h' y)
theorem XY (k:Nat):p9 (List.replicate k 0):=fun x hx=>by rw [(List.mem_replicate.1 hx).2]; omega
theorem Iy {n:Int} (h0:0≤n) (h1:n≤65535):p9 (two n):=rP (by omega) (rP (by omega) (fun x hx=>absurd hx (List.not_mem_nil)))
theorem vT {l:List Int} (h:p9 l) (i:Nat):0≤l.getD i 0∧l.getD i 0≤255:=by
 by_cases hi:i<l.length
 ·rw [getD_lt hi]; exact h _ (anL hi)
 ·rw [anv,List.getElem?_eq_none (by omega)]
  exact ⟨Int.le_refl _,by show (0:Int)≤255; omega⟩
theorem wrap_u8 {x:Int} (h1:0≤x) (h2:x≤255):IntKind.u8.wrap x=x:=by
 simp [IntKind.wrap,IntKind.bits,IntKind.signed]
 omega
theorem yR {n:Nat} {x:Int} (h0:0≤x) (h1:x≤65535):om n x=some (two x,()):=by
 unfold om two
 rw [Int.tdiv_eq_ediv_of_nonneg h0,Int.tmod_eq_emod_of_nonneg h0,wrap_i64 (by omega) (by omega),wrap_u8 (by omega) (by omega),wrap_u8 (by omega) (by omega)]
 rfl
theorem BA {n:Nat} {x:Int} (h0:0≤x) (h1:x≤65535):mF n x=some (two x,()):=yR (n:=n) h0 h1
theorem M4 (l:List Int) (x:Int):Al (l++[x])=(Al l * 31+x) % 65521:=by simp [Al]
theorem Df:∀(l:List Int),0≤Al l∧Al l≤65520:=fun l=>by
 rcases List.eq_nil_or_concat l with rfl | ⟨m,x,rfl⟩
 ·exact ⟨by decide,by decide⟩
 ·rw [List.concat_eq_append,M4]; omega
theorem QD {l:List Int} (h:p9 l) {i:Nat} (hi:i<l.length):(IntKind.i64.wrap ((IntKind.i64.wrap (Al (l.take i) * (31:Int)))+(IntKind.i64.wrap l[i]))).tmod (65521:Int)=Al (l.take (i+1)):=by
 have h1:=Df (l.take i)
 have h2:=h _ (anL hi)
 rw [List.take_succ_eq_append_getElem hi,M4,wrap_i64 (x:=Al (l.take i) * 31) (by omega) (by omega),wrap_i64 (x:=l[i]) (by omega) (by omega),wrap_i64 (by omega) (by omega),Int.tmod_eq_emod_of_nonneg (by omega)]
theorem YP {n:Nat} {l:List Int} (h:p9 l) (hb:l.length≤big) (hn:big<n):uS n l=some (Al l,()):=by
 have hb':l.length≤1048576:=hb
 unfold uS
 refine (aS (fun i=>(Al (l.take i),l,(l.length:Int),(i:Int),())) (fun _=>none) (some (Al l,())) (m:=l.length) rfl (by omega) ?_ ?_).trans (bM (fun _ _ _=>rfl))
 ·intro L i hi _
  simp only [anJ,hi,decide_true,if_true,aH hi,fu hi,aT hi (by omega),QD h hi]
  rfl
 ·intro L _
  simp
theorem YR {n:Nat} {l:List Int} (h:p9 l) (hb:l.length≤big) (hn:big<n):uU n l=some (Al l,()):=by
 have hb':l.length≤1048576:=hb
 unfold uU
 refine (aS (fun i=>(l,Al (l.take i),(i:Int),())) (fun _=>none) (some (Al l,())) (m:=l.length) rfl (by omega) ?_ ?_).trans (bM (fun _ _ _=>rfl))
 ·intro L i hi _
  simp only [anJ,hi,decide_true,if_true,aH hi,fu hi,aT hi (by omega),QD h hi]
  rfl
 ·intro L _
  simp
theorem AO {R:Type} {p:Nat→Bool} {r fin:R} (hne:r≠fin):∀{m i:Nat},dm (fun j=>if p j=true then some r else none) fin m i=fin→∀j,i≤j→j<i+m→p j=false
 | 0,i,_,j,h1,h2=>by omega
 | m+1,i,h,j,h1,h2=>by
  rw [dm] at h
  cases hp:p i with
  | true=>rw [hp] at h; exact absurd h hne
  | false=>
   rw [hp] at h
   by_cases e:j=i
   ·rw [e]; exact hp
   ·exact AO hne h j (by omega) (by omega)
theorem Dj {us:List Int} (h:EP us=true):∀u∈us,1≤u∧u≤999:=by
 intro u hu
 obtain ⟨j,hj,rfl⟩:=List.mem_iff_getElem.1 hu
 have h1:=K3 us
 rw [h] at h1
 have h2:=AO (by simp) h1 j (anR _) (by omega)
 unfold Jk at h2
 rw [getD_lt hj] at h2
 have:=(Bool.or_eq_false_iff.1 h2).1
 simpa using this
structure OU (o:OpC):Prop where
 ro:RO o
 data:p9 o.2.2.2.2.2.2.2.1
theorem OU.mode {o:OpC} (h:OU o):0≤o.2.2.2.2.1∧o.2.2.2.2.1≤3:=by
 by_cases h4:o.1=4
 ·have:=h.ro.mode h4; omega
 ·have:=h.ro.form
  unfold AP at this
  simp only [ann,Bool.or_eq_true,decide_eq_true_eq,h4,false_or] at this
  have:=this.2.2.1
  omega
theorem OU.box {o:OpC} (h:OU o):o.2.1.length≤8∧p9 o.2.1:=⟨h.ro.box.1.2,fun c hc=>by have:=h.ro.box.2 c hc; omega⟩
theorem OU.to' {o:OpC} (h:OU o):o.2.2.1.length≤8∧p9 o.2.2.1:=by
 by_cases h4:o.1=5∨o.1=6
 ·have:=h.ro.to' h4
  exact ⟨this.1.2,fun c hc=>by have:=this.2 c hc; omega⟩
 ·have h5:o.1≠5:=fun e=>h4 (.inl e)
  have h6:o.1≠6:=fun e=>h4 (.inr e)
  have:=h.ro.form
  unfold AP at this
  simp only [ann,Bool.or_eq_true,decide_eq_true_eq,h5,h6,false_or] at this
  rw [this.1]
  exact ⟨anR _,fun x hx=>absurd hx (List.not_mem_nil)⟩
theorem XX {us:List Int} (h:∀u∈us,1≤u∧u≤999):p9 (us.flatMap two):=fun x hx=>by
 obtain ⟨u,hu,hx⟩:=anU.1 hx
 have:=h u hu
 exact Iy (by omega) (by omega) x hx
theorem OU.body {o:OpC} (h:OU o):p9 (jC o)∧(jC o).length≤500:=by
 have h1:=h.box
 have h2:=h.to'
 have h3:=h.mode
 have h4:=h.ro
 have h5:=h4.kind
 have h6:=h4.few
 have h7:=h4.flags
 have h8:=h4.date
 have h9:=h4.data
 refine ⟨?_,by rw [A7]; omega⟩
 unfold jC
 exact rP (by omega) (rP (by omega) (BL h1.2 (rP (by omega) (BL h2.2 (rP (by omega) (BL (XX (Dj h4.ado)) (rP (by omega) (rP (by omega) (BL (Iy h8.1 (by omega)) (BL (Iy (by omega) (by omega)) h.data))))))))))
theorem OU.head {o:OpC} (h:OU o):p9 (xg o)∧(xg o).length≤502:=by
 have:=h.body
 exact ⟨BL (Iy (by omega) (by omega)) this.1,by rw [P6]; omega⟩
def pO (o:OpC):List Int:=o.1 :: (o.2.1.length:Int) :: (o.2.1++(o.2.2.1.length:Int) :: (o.2.2.1++[(o.2.2.2.1.length:Int)]))
def Nv (o:OpC):List Int:=o.2.2.2.2.1 :: o.2.2.2.2.2.1 :: (two o.2.2.2.2.2.2.1++(two (o.2.2.2.2.2.2.2.1.length:Int)++o.2.2.2.2.2.2.2.1))
theorem Jn (o:OpC):jC o=pO o++(o.2.2.2.1.flatMap two++Nv o):=by simp [jC,pO,Nv]
theorem M7 (us:List Int) {i:Nat} (hi:i<us.length):(us.take (i+1)).flatMap two=(us.take i).flatMap two++two us[i]:=by
 rw [List.take_succ_eq_append_getElem hi,List.flatMap_append,List.flatMap_cons,List.flatMap_nil,anM]
theorem MN {n:Nat} {o:OpC} (h:OU o) (hn:big<n):pR n o=some (eX o,()):=by
 have h1:=h.box
 have h2:=h.to'
 have h3:=h.mode
 have h4:=h.ro
 have h5:=h4.kind
 have h6:=h4.few
 have h7:=h4.flags
 have h8:=h4.date
 have h9:=h4.data
 have hb:=h.body
 have hh:=h.head
 have hu:=Dj h4.ado
 have hs:=Df (xg o)
 unfold big at hn
 unfold pR
 rw [wrap_u8 (x:=o.1) (by omega) (by omega),wrap_u8 (x:=(o.2.1.length:Int)) (by omega) (by omega),wrap_u8 (x:=(o.2.2.1.length:Int)) (by omega) (by omega),wrap_u8 (x:=(o.2.2.2.1.length:Int)) (by omega) (by omega)]
 rw [if_pos (by simp only [anp,anG,List.length_nil]; omega),if_pos (by simp only [anp,anG,List.length_nil]; omega),if_pos (by simp only [anp,anG,List.length_nil]; omega),if_pos (by simp only [anp,anG,List.length_nil]; omega)]
 have ef:((([o.1,(o.2.1.length:Int)]++o.2.1)++[(o.2.2.1.length:Int)])++o.2.2.1)++[(o.2.2.2.1.length:Int)]=pO o:=by simp [pO]
 have lf:(pO o).length≤100:=by simp only [pO,anp,anG,List.length_nil]; omega
 rw [ef]
 refine (aS (fun i=>(o.2.2.2.1,(o.2.2.2.1.length:Int),(i:Int),o,pO o++(o.2.2.2.1.take i).flatMap two,())) (fun _=>none) (some (eX o,())) (m:=o.2.2.2.1.length) (by simp) (by omega) ?_ ?_).trans (bM (fun _ _ _=>rfl))
 ·intro L i hi _
  have hr:=hu _ (anL hi)
  simp only [anJ,hi,decide_true,if_true,aH hi,fu hi,aT hi (by omega),yR (n:=n) (show 0≤o.2.2.2.1[i] by omega) (by omega),ani,M7 _ hi,anE]
  rw [if_pos (by simp only [anp,A8,kQ,List.length_take]; omega)]
 ·intro L _
  have lb:((pO o++o.2.2.2.1.flatMap two).length:Nat)≤200:=by simp only [anp,A8]; omega
  simp only [Int.lt_irrefl,decide_false,ank,if_false,List.take_length]
  rw [if_pos (by simp only [anG,List.length_nil]; omega),yR h8.1 (by omega)]
  simp only [ani]
  rw [if_pos (by simp only [anp,anG,List.length_nil,kQ] at lb ⊢; omega)]
  unfold cO
  simp only [ani]
  rw [yR (by omega) (by omega)]
  simp only [ani]
  rw [if_pos (by simp only [anp,anG,List.length_nil,kQ] at lb ⊢; omega),if_pos (by simp only [anp,anG,List.length_nil,kQ] at lb ⊢; omega)]
  rw [wrap_u8 (x:=o.2.2.2.2.1) (by omega) (by omega),wrap_u8 (x:=o.2.2.2.2.2.1) (by omega) (by omega)]
  have eb:((((pO o++o.2.2.2.1.flatMap two)++[o.2.2.2.2.1,o.2.2.2.2.2.1])++two o.2.2.2.2.2.2.1)++two (o.2.2.2.2.2.2.2.1.length:Int))++o.2.2.2.2.2.2.2.1=jC o:=by rw [Jn]; simp [Nv]
  rw [eb,wrap_i64 (x:=((jC o).length:Int)+4) (by omega) (by omega),yR (by omega) (by omega)]
  simp only [ani]
  rw [if_pos (by rw [kQ]; omega)]
  have eh:two (((jC o).length:Int)+4)++jC o=xg o:=rfl
  rw [eh,YP hh.1 (by unfold big; omega) (by unfold big; omega)]
  simp only [ani]
  rw [yR hs.1 (by omega)]
  simp only [ani]
  rw [if_pos (by rw [kQ]; omega)]
  rfl
theorem FY {n:Nat} {o:OpC} (h:OU o) (hn:big<n):pX n o=some (eX o,()):=by
 have h1:=h.box
 have h2:=h.to'
 have h3:=h.mode
 have h4:=h.ro
 have h5:=h4.kind
 have h6:=h4.few
 have h7:=h4.flags
 have h8:=h4.date
 have h9:=h4.data
 have hb:=h.body
 have hh:=h.head
 have hu:=Dj h4.ado
 have hs:=Df (xg o)
 unfold big at hn
 unfold pX
 rw [wrap_u8 (x:=o.1) (by omega) (by omega),wrap_u8 (x:=(o.2.1.length:Int)) (by omega) (by omega),wrap_u8 (x:=(o.2.2.1.length:Int)) (by omega) (by omega),wrap_u8 (x:=(o.2.2.2.1.length:Int)) (by omega) (by omega)]
 rw [if_pos (by simp only [anp,anG,List.length_nil]; omega),if_pos (by simp only [anp,anG,List.length_nil]; omega),if_pos (by simp only [anp,anG,List.length_nil]; omega),if_pos (by simp only [anp,anG,List.length_nil]; omega)]
 have ef:((([(0:Int),(0:Int),o.1,(o.2.1.length:Int)]++o.2.1)++[(o.2.2.1.length:Int)])++o.2.2.1)++[(o.2.2.2.1.length:Int)]=0 :: 0 :: pO o:=by simp [pO]
 have lf:(0 :: 0 :: pO o).length≤100:=by simp only [pO,anp,anG,List.length_nil]; omega
 rw [ef]
 refine (aS (fun i=>(o,(i:Int),(0 :: 0 :: pO o)++(o.2.2.2.1.take i).flatMap two,())) (fun _=>none) (some (eX o,())) (m:=o.2.2.2.1.length) (by simp) (by omega) ?_ ?_).trans (bM (fun _ _ _=>rfl))
 ·intro L i hi _
  have hr:=hu _ (anL hi)
  simp only [anJ,hi,decide_true,if_true,aH hi,fu hi,aT hi (by omega),BA (n:=n) (show 0≤o.2.2.2.1[i] by omega) (by omega),ani,M7 _ hi,anE]
  rw [if_pos (by simp only [anp,A8,kQ,List.length_take] at lf ⊢; omega)]
 ·intro L _
  have lb:((0 :: 0 :: pO o)++o.2.2.2.1.flatMap two).length≤200:=by rw [anp,A8]; omega
  simp only [Int.lt_irrefl,decide_false,ank,if_false,List.take_length]
  rw [if_pos (by simp only [anG,List.length_nil] at lb ⊢; omega),BA h8.1 (by omega)]
  simp only [ani]
  rw [if_pos (by simp only [anp,anG,List.length_nil,kQ] at lb ⊢; omega),BA (by omega) (by omega)]
  simp only [ani]
  rw [if_pos (by simp only [anp,anG,List.length_nil,kQ] at lb ⊢; omega),if_pos (by simp only [anp,anG,List.length_nil,kQ] at lb ⊢; omega)]
  rw [wrap_u8 (x:=o.2.2.2.2.1) (by omega) (by omega),wrap_u8 (x:=o.2.2.2.2.2.1) (by omega) (by omega)]
  have eb:(((((0 :: 0 :: pO o)++o.2.2.2.1.flatMap two)++[o.2.2.2.2.1,o.2.2.2.2.2.1])++two o.2.2.2.2.2.2.1)++two (o.2.2.2.2.2.2.2.1.length:Int))++o.2.2.2.2.2.2.2.1=0 :: 0 :: jC o:=by rw [Jn]; simp [Nv]
  have el:((0 :: 0 :: jC o).length:Int)+2=((jC o).length:Int)+4:=by simp only [anG]; omega
  rw [eb,el,wrap_i64 (x:=((jC o).length:Int)+4) (by omega) (by omega),BA (by omega) (by omega)]
  simp only [ani]
  rw [if_pos (by rw [kQ]; simp only [anG]; omega)]
  have eh:two (((jC o).length:Int)+4)++(0 :: 0 :: jC o).drop (two (((jC o).length:Int)+4)).length=xg o:=rfl
  rw [eh,YR hh.1 (by unfold big; omega) (by unfold big; omega)]
  simp only [ani]
  rw [BA hs.1 (by omega)]
  simp only [ani]
  rw [if_pos (by rw [kQ]; omega)]
  rfl
end Go.Proofs.YtailcbngagacaabGreat.kR
