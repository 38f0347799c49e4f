/- Packing and reading of ops, on both sides. -/
import Derived.Test.YtailcbngagacaabGreatOwF
import Derived.Test.YtailcbngagacaabGreatLoopLib
import Derived.Test.YtailcbngagacaabGreatPackLib
import Derived.Test.YtailcbngagacaabGreatStoreMath
import Derived.Test.YtailcbngagacaabGreatOpsMath
import Derived.Test.YtailcbngagacaabGreatGoodMath
import Derived.Test.YtailcbngagacaabGreatDoF
set_option linter.unusedSectionVars false
set_option linter.unusedVariables false
set_option linter.unusedSimpArgs false
namespace Go.Proofs.YtailcbngagacaabGreat.jV
open Go Go.Proofs.YtailcbngagacaabGreat.Ow Go.Proofs.YtailcbngagacaabGreat.Nr Go.Proofs.YtailcbngagacaabGreat.jO Go.Proofs.YtailcbngagacaabGreat.xh Go.Proofs.YtailcbngagacaabGreat.gp Go.Proofs.YtailcbngagacaabGreat.jc Go.Proofs.YtailcbngagacaabGreat.vR
def qc (l:List Int):Prop:=∀x∈l,0≤x∧x≤255
theorem yC {l:List Int} (h:qc l) (k:Nat):qc (l.take k):=fun x hx=>h x (List.mem_of_mem_take hx)
theorem yB {l:List Int} (h:qc l) (k:Nat):qc (l.drop k):=fun x hx=>h x (List.mem_of_mem_drop hx)
theorem BV {l m:List Int} (h:qc l) (h':qc m):qc (l++m):=fun x hx=>(an6.1 hx).elim (h x) (h' x)
theorem rX {x:Int} {m:List Int} (h:0≤x∧x≤255) (h':qc m):qc (x :: m):=fun y hy=>(an9.1 hy).elim (fun e=>e▸h) (h' y)
theorem Yl (k:Nat):qc (List.replicate k 0):=fun x hx=>by rw [(List.mem_replicate.1 hx).2]; omega
theorem IM {n:Int} (h0:0≤n) (h1:n≤65535):qc (two n):=rX (by omega) (rX (by omega) (fun x hx=>absurd hx (List.not_mem_nil)))
theorem wm {l:List Int} (h:qc l) (i:Nat):0≤l.getD i 0∧l.getD i 0≤255:=by
 by_cases hi:i<l.length
 ·rw [getD_lt hi]; exact h _ (aop hi)
 ·rw [aoa,List.getElem?_eq_none (by omega)]
  exact ⟨Int.le_refl _,by show (0:Int)≤255; omega⟩
theorem wrap_u8 {x:Int} (h1:0≤x) (h2:x≤255):IntKind.u8.wrap x=x:=by
 simp [IntKind.wrap,IntKind.bits,IntKind.signed]
 omega
theorem yV {n:Nat} {x:Int} (h0:0≤x) (h1:x≤65535):oq n x=some (two x,()):=by
 unfold oq two
 rw [Int.tdiv_eq_ediv_of_nonneg h0,Int.tmod_eq_emod_of_nonneg h0,wrap_i64 (by omega) (by omega),wrap_u8 (by omega) (by omega),wrap_u8 (by omega) (by omega)]
 rfl
theorem BK {n:Nat} {x:Int} (h0:0≤x) (h1:x≤65535):mG n x=some (two x,()):=yV (n:=n) h0 h1
theorem Nh (l:List Int) (x:Int):Ay (l++[x])=(Ay l * 31+x) % 65521:=by simp [Ay]
theorem Dr:∀(l:List Int),0≤Ay l∧Ay l≤65520:=fun l=>by
 rcases List.eq_nil_or_concat l with rfl | ⟨m,x,rfl⟩
 ·exact ⟨by decide,by decide⟩
 ·rw [List.concat_eq_append,Nh]; omega
theorem QX {l:List Int} (h:qc l) {i:Nat} (hi:i<l.length):(IntKind.i64.wrap ((IntKind.i64.wrap (Ay (l.take i) * (31:Int)))+(IntKind.i64.wrap l[i]))).tmod (65521:Int)=Ay (l.take (i+1)):=by
 have h1:=Dr (l.take i)
 have h2:=h _ (aop hi)
 rw [List.take_succ_eq_append_getElem hi,Nh,wrap_i64 (x:=Ay (l.take i) * 31) (by omega) (by omega),wrap_i64 (x:=l[i]) (by omega) (by omega),wrap_i64 (by omega) (by omega),Int.tmod_eq_emod_of_nonneg (by omega)]
theorem Zb {n:Nat} {l:List Int} (h:qc l) (hb:l.length≤big) (hn:big<n):u7 n l=some (Ay l,()):=by
 have hb':l.length≤1048576:=hb
 unfold u7
 refine (aQ (fun i=>(Ay (l.take i),l,(l.length:Int),(i:Int),())) (fun _=>none) (some (Ay l,())) (m:=l.length) rfl (by omega) ?_ ?_).trans (bL (fun _ _ _=>rfl))
 ·intro L i hi _
  simp only [aon,hi,decide_true,if_true,aH hi,dW hi,aR hi (by omega),QX h hi]
  rfl
 ·intro L _
  simp
theorem Zd {n:Nat} {l:List Int} (h:qc l) (hb:l.length≤big) (hn:big<n):vg n l=some (Ay l,()):=by
 have hb':l.length≤1048576:=hb
 unfold vg
 refine (aQ (fun i=>(l,Ay (l.take i),(i:Int),())) (fun _=>none) (some (Ay l,())) (m:=l.length) rfl (by omega) ?_ ?_).trans (bL (fun _ _ _=>rfl))
 ·intro L i hi _
  simp only [aon,hi,decide_true,if_true,aH hi,dW hi,aR hi (by omega),QX h hi]
  rfl
 ·intro L _
  simp
theorem A8 {R:Type} {p:Nat→Bool} {r fin:R} (hne:r≠fin):∀{m i:Nat},dm (fun j=>if p j=true then some r else none) fin m i=fin→∀j,i≤j→j<i+m→p j=false
 | 0,i,_,j,h1,h2=>by omega
 | m+1,i,h,j,h1,h2=>by
  rw [dm] at h
  cases hp:p i with
  | true=>rw [hp] at h; exact absurd h hne
  | false=>
   rw [hp] at h
   by_cases e:j=i
   ·rw [e]; exact hp
   ·exact A8 hne h j (by omega) (by omega)
theorem Dv {us:List Int} (h:E8 us=true):∀u∈us,1≤u∧u≤999:=by
 intro u hu
 obtain ⟨j,hj,rfl⟩:=List.mem_iff_getElem.1 hu
 have h1:=Lf us
 rw [h] at h1
 have h2:=A8 (by simp) h1 j (aov _) (by omega)
 unfold Ju at h2
 rw [getD_lt hj] at h2
 have:=(Bool.or_eq_false_iff.1 h2).1
 simpa using this
structure Pb (o:OpC):Prop where
 ro:RO o
 data:qc o.2.2.2.2.2.2.2.1
theorem Pb.mode {o:OpC} (h:Pb o):0≤o.2.2.2.2.1∧o.2.2.2.2.1≤3:=by
 by_cases h4:o.1=4
 ·have:=h.ro.mode h4; omega
 ·have:=h.ro.form
  unfold A9 at this
  simp only [an3,Bool.or_eq_true,decide_eq_true_eq,h4,false_or] at this
  have:=this.2.2.1
  omega
theorem Pb.box {o:OpC} (h:Pb o):o.2.1.length≤8∧qc o.2.1:=⟨h.ro.box.1.2,fun c hc=>by have:=h.ro.box.2 c hc; omega⟩
theorem Pb.to' {o:OpC} (h:Pb o):o.2.2.1.length≤8∧qc o.2.2.1:=by
 by_cases h4:o.1=5∨o.1=6
 ·have:=h.ro.to' h4
  exact ⟨this.1.2,fun c hc=>by have:=this.2 c hc; omega⟩
 ·have h5:o.1≠5:=fun e=>h4 (.inl e)
  have h6:o.1≠6:=fun e=>h4 (.inr e)
  have:=h.ro.form
  unfold A9 at this
  simp only [an3,Bool.or_eq_true,decide_eq_true_eq,h5,h6,false_or] at this
  rw [this.1]
  exact ⟨aov _,fun x hx=>absurd hx (List.not_mem_nil)⟩
theorem Yk {us:List Int} (h:∀u∈us,1≤u∧u≤999):qc (us.flatMap two):=fun x hx=>by
 obtain ⟨u,hu,hx⟩:=aoy.1 hx
 have:=h u hu
 exact IM (by omega) (by omega) x hx
theorem Pb.body {o:OpC} (h:Pb o):qc (jI o)∧(jI o).length≤500:=by
 have h1:=h.box
 have h2:=h.to'
 have h3:=h.mode
 have h4:=h.ro
 have h5:=h4.kind
 have h6:=h4.few
 have h7:=h4.flags
 have h8:=h4.date
 have h9:=h4.data
 refine ⟨?_,by rw [Bg]; omega⟩
 unfold jI
 exact rX (by omega) (rX (by omega) (BV h1.2 (rX (by omega) (BV h2.2 (rX (by omega) (BV (Yk (Dv h4.adT)) (rX (by omega) (rX (by omega) (BV (IM h8.1 (by omega)) (BV (IM (by omega) (by omega)) h.data))))))))))
theorem Pb.head {o:OpC} (h:Pb o):qc (xw o)∧(xw o).length≤502:=by
 have:=h.body
 exact ⟨BV (IM (by omega) (by omega)) this.1,by rw [Qm]; omega⟩
def pW (o:OpC):List Int:=o.1 :: (o.2.1.length:Int) :: (o.2.1++(o.2.2.1.length:Int) :: (o.2.2.1++[(o.2.2.2.1.length:Int)]))
def NL (o:OpC):List Int:=o.2.2.2.2.1 :: o.2.2.2.2.2.1 :: (two o.2.2.2.2.2.2.1++(two (o.2.2.2.2.2.2.2.1.length:Int)++o.2.2.2.2.2.2.2.1))
theorem Jy (o:OpC):jI o=pW o++(o.2.2.2.1.flatMap two++NL o):=by simp [jI,pW,NL]
theorem Nk (us:List Int) {i:Nat} (hi:i<us.length):(us.take (i+1)).flatMap two=(us.take i).flatMap two++two us[i]:=by
 rw [List.take_succ_eq_append_getElem hi,List.flatMap_append,List.flatMap_cons,List.flatMap_nil,aoq]
theorem M0 {n:Nat} {o:OpC} (h:Pb o) (hn:big<n):pX n o=some (eY o,()):=by
 have h1:=h.box
 have h2:=h.to'
 have h3:=h.mode
 have h4:=h.ro
 have h5:=h4.kind
 have h6:=h4.few
 have h7:=h4.flags
 have h8:=h4.date
 have h9:=h4.data
 have hb:=h.body
 have hh:=h.head
 have hu:=Dv h4.adT
 have hs:=Dr (xw o)
 unfold big at hn
 unfold pX
 rw [wrap_u8 (x:=o.1) (by omega) (by omega),wrap_u8 (x:=(o.2.1.length:Int)) (by omega) (by omega),wrap_u8 (x:=(o.2.2.1.length:Int)) (by omega) (by omega),wrap_u8 (x:=(o.2.2.2.1.length:Int)) (by omega) (by omega)]
 rw [if_pos (by simp only [an5,aok,List.length_nil]; omega),if_pos (by simp only [an5,aok,List.length_nil]; omega),if_pos (by simp only [an5,aok,List.length_nil]; omega),if_pos (by simp only [an5,aok,List.length_nil]; omega)]
 have ef:((([o.1,(o.2.1.length:Int)]++o.2.1)++[(o.2.2.1.length:Int)])++o.2.2.1)++[(o.2.2.2.1.length:Int)]=pW o:=by simp [pW]
 have lf:(pW o).length≤100:=by simp only [pW,an5,aok,List.length_nil]; omega
 rw [ef]
 refine (aQ (fun i=>(o.2.2.2.1,(o.2.2.2.1.length:Int),(i:Int),o,pW o++(o.2.2.2.1.take i).flatMap two,())) (fun _=>none) (some (eY o,())) (m:=o.2.2.2.1.length) (by simp) (by omega) ?_ ?_).trans (bL (fun _ _ _=>rfl))
 ·intro L i hi _
  have hr:=hu _ (aop hi)
  simp only [aon,hi,decide_true,if_true,aH hi,dW hi,aR hi (by omega),yV (n:=n) (show 0≤o.2.2.2.1[i] by omega) (by omega),anY,Nk _ hi,aoi]
  rw [if_pos (by simp only [an5,Bh,kY,List.length_take]; omega)]
 ·intro L _
  have lb:((pW o++o.2.2.2.1.flatMap two).length:Nat)≤200:=by simp only [an5,Bh]; omega
  simp only [Int.lt_irrefl,decide_false,an0,if_false,List.take_length]
  rw [if_pos (by simp only [aok,List.length_nil]; omega),yV h8.1 (by omega)]
  simp only [anY]
  rw [if_pos (by simp only [an5,aok,List.length_nil,kY] at lb ⊢; omega)]
  unfold cO
  simp only [anY]
  rw [yV (by omega) (by omega)]
  simp only [anY]
  rw [if_pos (by simp only [an5,aok,List.length_nil,kY] at lb ⊢; omega),if_pos (by simp only [an5,aok,List.length_nil,kY] at lb ⊢; omega)]
  rw [wrap_u8 (x:=o.2.2.2.2.1) (by omega) (by omega),wrap_u8 (x:=o.2.2.2.2.2.1) (by omega) (by omega)]
  have eb:((((pW o++o.2.2.2.1.flatMap two)++[o.2.2.2.2.1,o.2.2.2.2.2.1])++two o.2.2.2.2.2.2.1)++two (o.2.2.2.2.2.2.2.1.length:Int))++o.2.2.2.2.2.2.2.1=jI o:=by rw [Jy]; simp [NL]
  rw [eb,wrap_i64 (x:=((jI o).length:Int)+4) (by omega) (by omega),yV (by omega) (by omega)]
  simp only [anY]
  rw [if_pos (by rw [kY]; omega)]
  have eh:two (((jI o).length:Int)+4)++jI o=xw o:=rfl
  rw [eh,Zb hh.1 (by unfold big; omega) (by unfold big; omega)]
  simp only [anY]
  rw [yV hs.1 (by omega)]
  simp only [anY]
  rw [if_pos (by rw [kY]; omega)]
  rfl
theorem Gb {n:Nat} {o:OpC} (h:Pb o) (hn:big<n):qb n o=some (eY o,()):=by
 have h1:=h.box
 have h2:=h.to'
 have h3:=h.mode
 have h4:=h.ro
 have h5:=h4.kind
 have h6:=h4.few
 have h7:=h4.flags
 have h8:=h4.date
 have h9:=h4.data
 have hb:=h.body
 have hh:=h.head
 have hu:=Dv h4.adT
 have hs:=Dr (xw o)
 unfold big at hn
 unfold qb
 rw [wrap_u8 (x:=o.1) (by omega) (by omega),wrap_u8 (x:=(o.2.1.length:Int)) (by omega) (by omega),wrap_u8 (x:=(o.2.2.1.length:Int)) (by omega) (by omega),wrap_u8 (x:=(o.2.2.2.1.length:Int)) (by omega) (by omega)]
 rw [if_pos (by simp only [an5,aok,List.length_nil]; omega),if_pos (by simp only [an5,aok,List.length_nil]; omega),if_pos (by simp only [an5,aok,List.length_nil]; omega),if_pos (by simp only [an5,aok,List.length_nil]; omega)]
 have ef:((([(0:Int),(0:Int),o.1,(o.2.1.length:Int)]++o.2.1)++[(o.2.2.1.length:Int)])++o.2.2.1)++[(o.2.2.2.1.length:Int)]=0 :: 0 :: pW o:=by simp [pW]
 have lf:(0 :: 0 :: pW o).length≤100:=by simp only [pW,an5,aok,List.length_nil]; omega
 rw [ef]
 refine (aQ (fun i=>(o,(i:Int),(0 :: 0 :: pW o)++(o.2.2.2.1.take i).flatMap two,())) (fun _=>none) (some (eY o,())) (m:=o.2.2.2.1.length) (by simp) (by omega) ?_ ?_).trans (bL (fun _ _ _=>rfl))
 ·intro L i hi _
  have hr:=hu _ (aop hi)
  simp only [aon,hi,decide_true,if_true,aH hi,dW hi,aR hi (by omega),BK (n:=n) (show 0≤o.2.2.2.1[i] by omega) (by omega),anY,Nk _ hi,aoi]
  rw [if_pos (by simp only [an5,Bh,kY,List.length_take] at lf ⊢; omega)]
 ·intro L _
  have lb:((0 :: 0 :: pW o)++o.2.2.2.1.flatMap two).length≤200:=by rw [an5,Bh]; omega
  simp only [Int.lt_irrefl,decide_false,an0,if_false,List.take_length]
  rw [if_pos (by simp only [aok,List.length_nil] at lb ⊢; omega),BK h8.1 (by omega)]
  simp only [anY]
  rw [if_pos (by simp only [an5,aok,List.length_nil,kY] at lb ⊢; omega),BK (by omega) (by omega)]
  simp only [anY]
  rw [if_pos (by simp only [an5,aok,List.length_nil,kY] at lb ⊢; omega),if_pos (by simp only [an5,aok,List.length_nil,kY] at lb ⊢; omega)]
  rw [wrap_u8 (x:=o.2.2.2.2.1) (by omega) (by omega),wrap_u8 (x:=o.2.2.2.2.2.1) (by omega) (by omega)]
  have eb:(((((0 :: 0 :: pW o)++o.2.2.2.1.flatMap two)++[o.2.2.2.2.1,o.2.2.2.2.2.1])++two o.2.2.2.2.2.2.1)++two (o.2.2.2.2.2.2.2.1.length:Int))++o.2.2.2.2.2.2.2.1=0 :: 0 :: jI o:=by rw [Jy]; simp [NL]
  have el:((0 :: 0 :: jI o).length:Int)+2=((jI o).length:Int)+4:=by simp only [aok]; omega
  rw [eb,el,wrap_i64 (x:=((jI o).length:Int)+4) (by omega) (by omega),BK (by omega) (by omega)]
  simp only [anY]
  rw [if_pos (by rw [kY]; simp only [aok]; omega)]
  have eh:two (((jI o).length:Int)+4)++(0 :: 0 :: jI o).drop (two (((jI o).length:Int)+4)).length=xw o:=rfl
  rw [eh,Zd hh.1 (by unfold big; omega) (by unfold big; omega)]
  simp only [anY]
  rw [BK hs.1 (by omega)]
  simp only [anY]
  rw [if_pos (by rw [kY]; omega)]
  rfl
end Go.Proofs.YtailcbngagacaabGreat.jV
