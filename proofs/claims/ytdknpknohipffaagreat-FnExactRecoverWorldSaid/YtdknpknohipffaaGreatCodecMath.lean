/- Packing and reading of ops, on both sides. -/
import Derived.Test.YtdknpknohipffaaGreatOwF
import Derived.Test.YtdknpknohipffaaGreatLoopLib
import Derived.Test.YtdknpknohipffaaGreatPackLib
import Derived.Test.YtdknpknohipffaaGreatStoreMath
import Derived.Test.YtdknpknohipffaaGreatOpsMath
import Derived.Test.YtdknpknohipffaaGreatGoodMath
import Derived.Test.YtdknpknohipffaaGreatRwF
set_option linter.unusedSectionVars false
set_option linter.unusedVariables false
set_option linter.unusedSimpArgs false
namespace Go.Proofs.YtdknpknohipffaaGreat.oQ
open Go Go.Proofs.YtdknpknohipffaaGreat.Ow Go.Proofs.YtdknpknohipffaaGreat.Uf Go.Proofs.YtdknpknohipffaaGreat.nW Go.Proofs.YtdknpknohipffaaGreat.CO Go.Proofs.YtdknpknohipffaaGreat.iI Go.Proofs.YtdknpknohipffaaGreat.kR Go.Proofs.YtdknpknohipffaaGreat.Bu
def uf (l:List Int):Prop:=∀x∈l,0≤x∧x≤255
theorem BZ {l:List Int} (h:uf l) (k:Nat):uf (l.take k):=fun x hx=>h x (List.mem_of_mem_take hx)
theorem BX {l:List Int} (h:uf l) (k:Nat):uf (l.drop k):=fun x hx=>h x (List.mem_of_mem_drop hx)
theorem Fz {l m:List Int} (h:uf l) (h':uf m):uf (l++m):=fun x hx=>(List.mem_append.1 hx).elim (h x) (h' x)
theorem vg {x:Int} {m:List Int} (h:0≤x∧x≤255) (h':uf m):uf (x :: m):=fun y hy=>(List.mem_cons.1 hy).elim (fun e=>e▸h) (h' y)
theorem aaU (k:Nat):uf (List.replicate k 0):=fun x hx=>by rw [(List.mem_replicate.1 hx).2]; omega
theorem Lb {n:Int} (h0:0≤n) (h1:n≤65535):uf (two n):=vg (by omega) (vg (by omega) (fun x hx=>absurd hx (List.not_mem_nil)))
theorem zu {l:List Int} (h:uf l) (i:Nat):0≤l.getD i 0∧l.getD i 0≤255:=by
 by_cases hi:i<l.length
 ·rw [getD_lt hi]; exact h _ (List.getElem_mem hi)
 ·rw [List.getD_eq_getElem?_getD,List.getElem?_eq_none (by omega)]
  exact ⟨Int.le_refl _,by show (0:Int)≤255; omega⟩
theorem wrap_u8 {x:Int} (h1:0≤x) (h2:x≤255):IntKind.u8.wrap x=x:=by
 simp [IntKind.wrap,IntKind.bits,IntKind.signed]
 omega
theorem Ct {n:Nat} {x:Int} (h0:0≤x) (h1:x≤65535):qz n x=some (two x,()):=by
 unfold qz two
 rw [Int.tdiv_eq_ediv_of_nonneg h0,Int.tmod_eq_emod_of_nonneg h0,wrap_i64 (by omega) (by omega),wrap_u8 (by omega) (by omega),wrap_u8 (by omega) (by omega)]
 rfl
theorem Fg {n:Nat} {x:Int} (h0:0≤x) (h1:x≤65535):nV n x=some (two x,()):=Ct (n:=n) h0 h1
theorem PS (l:List Int) (x:Int):D8 (l++[x])=(D8 l * 31+x) % 65521:=by simp [D8]
theorem GM:∀(l:List Int),0≤D8 l∧D8 l≤65520:=fun l=>by
 rcases List.eq_nil_or_concat l with rfl | ⟨m,x,rfl⟩
 ·exact ⟨by decide,by decide⟩
 ·rw [List.concat_eq_append,PS]; omega
theorem TZ {l:List Int} (h:uf l) {i:Nat} (hi:i<l.length):(IntKind.i64.wrap ((IntKind.i64.wrap (D8 (l.take i) * (31:Int)))+(IntKind.i64.wrap l[i]))).tmod (65521:Int)=D8 (l.take (i+1)):=by
 have h1:=GM (l.take i)
 have h2:=h _ (List.getElem_mem hi)
 rw [List.take_succ_eq_append_getElem hi,PS,wrap_i64 (x:=D8 (l.take i) * 31) (by omega) (by omega),wrap_i64 (x:=l[i]) (by omega) (by omega),wrap_i64 (by omega) (by omega),Int.tmod_eq_emod_of_nonneg (by omega)]
theorem abP {n:Nat} {l:List Int} (h:uf l) (hb:l.length≤big) (hn:big<n):yx n l=some (D8 l,()):=by
 have hb':l.length≤1048576:=hb
 unfold yx
 refine (aO (fun i=>(D8 (l.take i),l,(l.length:Int),(i:Int),())) (fun _=>none) (some (D8 l,())) (m:=l.length) rfl (by omega) ?_ ?_).trans (bJ (fun _ _ _=>rfl))
 ·intro L i hi _
  simp only [Int.ofNat_lt,hi,decide_true,if_true,aG hi,dU hi,aN hi (by omega),TZ h hi]
  rfl
 ·intro L _
  simp
theorem abR {n:Nat} {l:List Int} (h:uf l) (hb:l.length≤big) (hn:big<n):yz n l=some (D8 l,()):=by
 have hb':l.length≤1048576:=hb
 unfold yz
 refine (aO (fun i=>(l,D8 (l.take i),(i:Int),())) (fun _=>none) (some (D8 l,())) (m:=l.length) rfl (by omega) ?_ ?_).trans (bJ (fun _ _ _=>rfl))
 ·intro L i hi _
  simp only [Int.ofNat_lt,hi,decide_true,if_true,aG hi,dU hi,aN hi (by omega),TZ h hi]
  rfl
 ·intro L _
  simp
theorem EC {R:Type} {p:Nat→Bool} {r fin:R} (hne:r≠fin):∀{m i:Nat},bY (fun j=>if p j=true then some r else none) fin m i=fin→∀j,i≤j→j<i+m→p j=false
 | 0,i,_,j,h1,h2=>by omega
 | m+1,i,h,j,h1,h2=>by
  rw [bY] at h
  cases hp:p i with
  | true=>rw [hp] at h; exact absurd h hne
  | false=>
   rw [hp] at h
   by_cases e:j=i
   ·rw [e]; exact hp
   ·exact EC hne h j (by omega) (by omega)
theorem GQ {us:List Int} (h:Fh us=true):∀u∈us,1≤u∧u≤999:=by
 intro u hu
 obtain ⟨j,hj,rfl⟩:=List.mem_iff_getElem.1 hu
 have h1:=Fj us
 rw [h] at h1
 have h2:=EC (by simp) h1 j (Nat.zero_le _) (by omega)
 unfold Mm at h2
 rw [getD_lt hj] at h2
 have:=(Bool.or_eq_false_iff.1 h2).1
 simpa using this
structure Ue (o:OpC):Prop where
 ro:RO o
 data:uf o.2.2.2.2.2.2.2.1
theorem Ue.mode {o:OpC} (h:Ue o):0≤o.2.2.2.2.1∧o.2.2.2.2.1≤3:=by
 by_cases h4:o.1=4
 ·have:=h.ro.mode h4; omega
 ·have:=h.ro.form
  unfold ED at this
  simp only [Bool.and_eq_true,Bool.or_eq_true,decide_eq_true_eq,h4,false_or] at this
  have:=this.2.2.1
  omega
theorem Ue.box {o:OpC} (h:Ue o):o.2.1.length≤8∧uf o.2.1:=⟨h.ro.box.1.2,fun c hc=>by have:=h.ro.box.2 c hc; omega⟩
theorem Ue.to' {o:OpC} (h:Ue o):o.2.2.1.length≤8∧uf o.2.2.1:=by
 by_cases h4:o.1=5∨o.1=6
 ·have:=h.ro.to' h4
  exact ⟨this.1.2,fun c hc=>by have:=this.2 c hc; omega⟩
 ·have h5:o.1≠5:=fun e=>h4 (.inl e)
  have h6:o.1≠6:=fun e=>h4 (.inr e)
  have:=h.ro.form
  unfold ED at this
  simp only [Bool.and_eq_true,Bool.or_eq_true,decide_eq_true_eq,h5,h6,false_or] at this
  rw [this.1]
  exact ⟨Nat.zero_le _,fun x hx=>absurd hx (List.not_mem_nil)⟩
theorem aaT {us:List Int} (h:∀u∈us,1≤u∧u≤999):uf (us.flatMap two):=fun x hx=>by
 obtain ⟨u,hu,hx⟩:=List.mem_flatMap.1 hx
 have:=h u hu
 exact Lb (by omega) (by omega) x hx
theorem Ue.body {o:OpC} (h:Ue o):uf (jS o)∧(jS o).length≤500:=by
 have h1:=h.box
 have h2:=h.to'
 have h3:=h.mode
 have h4:=h.ro
 have h5:=h4.kind
 have h6:=h4.few
 have h7:=h4.flags
 have h8:=h4.date
 have h9:=h4.data
 refine ⟨?_,by rw [EN]; omega⟩
 unfold jS
 exact vg (by omega) (vg (by omega) (Fz h1.2 (vg (by omega) (Fz h2.2 (vg (by omega) (Fz (aaT (GQ h4.agV)) (vg (by omega) (vg (by omega) (Fz (Lb h8.1 (by omega)) (Fz (Lb (by omega) (by omega)) h.data))))))))))
theorem Ue.head {o:OpC} (h:Ue o):uf (Ao o)∧(Ao o).length≤502:=by
 have:=h.body
 exact ⟨Fz (Lb (by omega) (by omega)) this.1,by rw [Tm]; omega⟩
def rY (o:OpC):List Int:=o.1 :: (o.2.1.length:Int) :: (o.2.1++(o.2.2.1.length:Int) :: (o.2.2.1++[(o.2.2.2.1.length:Int)]))
def Qp (o:OpC):List Int:=o.2.2.2.2.1 :: o.2.2.2.2.2.1 :: (two o.2.2.2.2.2.2.1++(two (o.2.2.2.2.2.2.2.1.length:Int)++o.2.2.2.2.2.2.2.1))
theorem Mq (o:OpC):jS o=rY o++(o.2.2.2.1.flatMap two++Qp o):=by simp [jS,rY,Qp]
theorem PV (us:List Int) {i:Nat} (hi:i<us.length):(us.take (i+1)).flatMap two=(us.take i).flatMap two++two us[i]:=by
 rw [List.take_succ_eq_append_getElem hi,List.flatMap_append,List.flatMap_cons,List.flatMap_nil,List.append_nil]
theorem Yz {n:Nat} {o:OpC} (h:Ue o) (hn:big<n):wQ n o=some (fM o,()):=by
 have h1:=h.box
 have h2:=h.to'
 have h3:=h.mode
 have h4:=h.ro
 have h5:=h4.kind
 have h6:=h4.few
 have h7:=h4.flags
 have h8:=h4.date
 have h9:=h4.data
 have hb:=h.body
 have hh:=h.head
 have hu:=GQ h4.agV
 have hs:=GM (Ao o)
 unfold big at hn
 unfold wQ
 rw [wrap_u8 (x:=o.1) (by omega) (by omega),wrap_u8 (x:=(o.2.1.length:Int)) (by omega) (by omega),wrap_u8 (x:=(o.2.2.1.length:Int)) (by omega) (by omega),wrap_u8 (x:=(o.2.2.2.1.length:Int)) (by omega) (by omega)]
 rw [if_pos (by simp only [List.length_append,List.length_cons,List.length_nil]; omega),if_pos (by simp only [List.length_append,List.length_cons,List.length_nil]; omega),if_pos (by simp only [List.length_append,List.length_cons,List.length_nil]; omega),if_pos (by simp only [List.length_append,List.length_cons,List.length_nil]; omega)]
 have ef:((([o.1,(o.2.1.length:Int)]++o.2.1)++[(o.2.2.1.length:Int)])++o.2.2.1)++[(o.2.2.2.1.length:Int)]=rY o:=by simp [rY]
 have lf:(rY o).length≤100:=by simp only [rY,List.length_append,List.length_cons,List.length_nil]; omega
 rw [ef]
 refine (aO (fun i=>(o.2.2.2.1,(o.2.2.2.1.length:Int),(i:Int),o,rY o++(o.2.2.2.1.take i).flatMap two,())) (fun _=>none) (some (fM o,())) (m:=o.2.2.2.1.length) (by simp) (by omega) ?_ ?_).trans (bJ (fun _ _ _=>rfl))
 ·intro L i hi _
  have hr:=hu _ (List.getElem_mem hi)
  simp only [Int.ofNat_lt,hi,decide_true,if_true,aG hi,dU hi,aN hi (by omega),Ct (n:=n) (show 0≤o.2.2.2.1[i] by omega) (by omega),Option.bind_some,PV _ hi,List.append_assoc]
  rw [if_pos (by simp only [List.length_append,EO,mh,List.length_take]; omega)]
 ·intro L _
  have lb:((rY o++o.2.2.2.1.flatMap two).length:Nat)≤200:=by simp only [List.length_append,EO]; omega
  simp only [Int.lt_irrefl,decide_false,Bool.false_eq_true,if_false,List.take_length]
  rw [if_pos (by simp only [List.length_cons,List.length_nil]; omega),Ct h8.1 (by omega)]
  simp only [Option.bind_some]
  rw [if_pos (by simp only [List.length_append,List.length_cons,List.length_nil,mh] at lb ⊢; omega)]
  unfold cO
  simp only [Option.bind_some]
  rw [Ct (by omega) (by omega)]
  simp only [Option.bind_some]
  rw [if_pos (by simp only [List.length_append,List.length_cons,List.length_nil,mh] at lb ⊢; omega),if_pos (by simp only [List.length_append,List.length_cons,List.length_nil,mh] at lb ⊢; omega)]
  rw [wrap_u8 (x:=o.2.2.2.2.1) (by omega) (by omega),wrap_u8 (x:=o.2.2.2.2.2.1) (by omega) (by omega)]
  have eb:((((rY o++o.2.2.2.1.flatMap two)++[o.2.2.2.2.1,o.2.2.2.2.2.1])++two o.2.2.2.2.2.2.1)++two (o.2.2.2.2.2.2.2.1.length:Int))++o.2.2.2.2.2.2.2.1=jS o:=by rw [Mq]; simp [Qp]
  rw [eb,wrap_i64 (x:=((jS o).length:Int)+4) (by omega) (by omega),Ct (by omega) (by omega)]
  simp only [Option.bind_some]
  rw [if_pos (by rw [mh]; omega)]
  have eh:two (((jS o).length:Int)+4)++jS o=Ao o:=rfl
  rw [eh,abP hh.1 (by unfold big; omega) (by unfold big; omega)]
  simp only [Option.bind_some]
  rw [Ct hs.1 (by omega)]
  simp only [Option.bind_some]
  rw [if_pos (by rw [mh]; omega)]
  rfl
theorem Pz {n:Nat} {o:OpC} (h:Ue o) (hn:big<n):xe n o=some (fM o,()):=by
 have h1:=h.box
 have h2:=h.to'
 have h3:=h.mode
 have h4:=h.ro
 have h5:=h4.kind
 have h6:=h4.few
 have h7:=h4.flags
 have h8:=h4.date
 have h9:=h4.data
 have hb:=h.body
 have hh:=h.head
 have hu:=GQ h4.agV
 have hs:=GM (Ao o)
 unfold big at hn
 unfold xe
 rw [wrap_u8 (x:=o.1) (by omega) (by omega),wrap_u8 (x:=(o.2.1.length:Int)) (by omega) (by omega),wrap_u8 (x:=(o.2.2.1.length:Int)) (by omega) (by omega),wrap_u8 (x:=(o.2.2.2.1.length:Int)) (by omega) (by omega)]
 rw [if_pos (by simp only [List.length_append,List.length_cons,List.length_nil]; omega),if_pos (by simp only [List.length_append,List.length_cons,List.length_nil]; omega),if_pos (by simp only [List.length_append,List.length_cons,List.length_nil]; omega),if_pos (by simp only [List.length_append,List.length_cons,List.length_nil]; omega)]
 have ef:((([(0:Int),(0:Int),o.1,(o.2.1.length:Int)]++o.2.1)++[(o.2.2.1.length:Int)])++o.2.2.1)++[(o.2.2.2.1.length:Int)]=0 :: 0 :: rY o:=by simp [rY]
 have lf:(0 :: 0 :: rY o).length≤100:=by simp only [rY,List.length_append,List.length_cons,List.length_nil]; omega
 rw [ef]
 refine (aO (fun i=>(o,(i:Int),(0 :: 0 :: rY o)++(o.2.2.2.1.take i).flatMap two,())) (fun _=>none) (some (fM o,())) (m:=o.2.2.2.1.length) (by simp) (by omega) ?_ ?_).trans (bJ (fun _ _ _=>rfl))
 ·intro L i hi _
  have hr:=hu _ (List.getElem_mem hi)
  simp only [Int.ofNat_lt,hi,decide_true,if_true,aG hi,dU hi,aN hi (by omega),Fg (n:=n) (show 0≤o.2.2.2.1[i] by omega) (by omega),Option.bind_some,PV _ hi,List.append_assoc]
  rw [if_pos (by simp only [List.length_append,EO,mh,List.length_take] at lf ⊢; omega)]
 ·intro L _
  have lb:((0 :: 0 :: rY o)++o.2.2.2.1.flatMap two).length≤200:=by rw [List.length_append,EO]; omega
  simp only [Int.lt_irrefl,decide_false,Bool.false_eq_true,if_false,List.take_length]
  rw [if_pos (by simp only [List.length_cons,List.length_nil] at lb ⊢; omega),Fg h8.1 (by omega)]
  simp only [Option.bind_some]
  rw [if_pos (by simp only [List.length_append,List.length_cons,List.length_nil,mh] at lb ⊢; omega),Fg (by omega) (by omega)]
  simp only [Option.bind_some]
  rw [if_pos (by simp only [List.length_append,List.length_cons,List.length_nil,mh] at lb ⊢; omega),if_pos (by simp only [List.length_append,List.length_cons,List.length_nil,mh] at lb ⊢; omega)]
  rw [wrap_u8 (x:=o.2.2.2.2.1) (by omega) (by omega),wrap_u8 (x:=o.2.2.2.2.2.1) (by omega) (by omega)]
  have eb:(((((0 :: 0 :: rY o)++o.2.2.2.1.flatMap two)++[o.2.2.2.2.1,o.2.2.2.2.2.1])++two o.2.2.2.2.2.2.1)++two (o.2.2.2.2.2.2.2.1.length:Int))++o.2.2.2.2.2.2.2.1=0 :: 0 :: jS o:=by rw [Mq]; simp [Qp]
  have el:((0 :: 0 :: jS o).length:Int)+2=((jS o).length:Int)+4:=by simp only [List.length_cons]; omega
  rw [eb,el,wrap_i64 (x:=((jS o).length:Int)+4) (by omega) (by omega),Fg (by omega) (by omega)]
  simp only [Option.bind_some]
  rw [if_pos (by rw [mh]; simp only [List.length_cons]; omega)]
  have eh:two (((jS o).length:Int)+4)++(0 :: 0 :: jS o).drop (two (((jS o).length:Int)+4)).length=Ao o:=rfl
  rw [eh,abR hh.1 (by unfold big; omega) (by unfold big; omega)]
  simp only [Option.bind_some]
  rw [Fg hs.1 (by omega)]
  simp only [Option.bind_some]
  rw [if_pos (by rw [mh]; omega)]
  rfl
end Go.Proofs.YtdknpknohipffaaGreat.oQ
