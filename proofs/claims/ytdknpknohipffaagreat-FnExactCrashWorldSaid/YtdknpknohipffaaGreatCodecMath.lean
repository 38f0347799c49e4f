/- Packing and reading of ops, on both sides. -/
import Derived.Test.YtdknpknohipffaaGreatOwF
import Derived.Test.YtdknpknohipffaaGreatLoopLib
import Derived.Test.YtdknpknohipffaaGreatPackLib
import Derived.Test.YtdknpknohipffaaGreatStoreMath
import Derived.Test.YtdknpknohipffaaGreatOpsMath
import Derived.Test.YtdknpknohipffaaGreatGoodMath
import Derived.Test.YtdknpknohipffaaGreatCwF
set_option linter.unusedSectionVars false
set_option linter.unusedVariables false
set_option linter.unusedSimpArgs false
namespace Go.Proofs.YtdknpknohipffaaGreat.lD
open Go Go.Proofs.YtdknpknohipffaaGreat.Ow Go.Proofs.YtdknpknohipffaaGreat.Qq Go.Proofs.YtdknpknohipffaaGreat.kG Go.Proofs.YtdknpknohipffaaGreat.Ab Go.Proofs.YtdknpknohipffaaGreat.gK Go.Proofs.YtdknpknohipffaaGreat.jO Go.Proofs.YtdknpknohipffaaGreat.zb
def qV (l:List Int):Prop:=∀x∈l,0≤x∧x≤255
theorem zu {l:List Int} (h:qV l) (k:Nat):qV (l.take k):=fun x hx=>h x (List.mem_of_mem_take hx)
theorem zq {l:List Int} (h:qV l) (k:Nat):qV (l.drop k):=fun x hx=>h x (List.mem_of_mem_drop hx)
theorem C9 {l m:List Int} (h:qV l) (h':qV m):qV (l++m):=fun x hx=>(apm.1 hx).elim (h x) (h' x)
theorem sw {x:Int} {m:List Int} (h:0≤x∧x≤255) (h':qV m):qV (x :: m):=fun y hy=>(apq.1 hy).elim (fun e=>e▸h) (h' y)
theorem ZE (k:Nat):qV (List.replicate k 0):=fun x hx=>by rw [(List.mem_replicate.1 hx).2]; omega
theorem JY {n:Int} (h0:0≤n) (h1:n≤65535):qV (two n):=sw (by omega) (sw (by omega) (fun x hx=>absurd hx (List.not_mem_nil)))
theorem wO {l:List Int} (h:qV l) (i:Nat):0≤l.getD i 0∧l.getD i 0≤255:=by
 by_cases hi:i<l.length
 ·rw [getD_lt hi]; exact h _ (apG hi)
 ·rw [apr,List.getElem?_eq_none (by omega)]
  exact ⟨Int.le_refl _,by show (0:Int)≤255; omega⟩
theorem wrap_u8 {x:Int} (h1:0≤x) (h2:x≤255):IntKind.u8.wrap x=x:=by
 simp [IntKind.wrap,IntKind.bits,IntKind.signed]
 omega
theorem zT {n:Nat} {x:Int} (h0:0≤x) (h1:x≤65535):oQ n x=some (two x,()):=by
 unfold oQ two
 rw [Int.tdiv_eq_ediv_of_nonneg h0,Int.tmod_eq_emod_of_nonneg h0,wrap_i64 (by omega) (by omega),wrap_u8 (by omega) (by omega),wrap_u8 (by omega) (by omega)]
 rfl
theorem CR {n:Nat} {x:Int} (h0:0≤x) (h1:x≤65535):nC n x=some (two x,()):=zT (n:=n) h0 h1
theorem OE (l:List Int) (x:Int):BB (l++[x])=(BB l * 31+x) % 65521:=by simp [BB]
theorem ED:∀(l:List Int),0≤BB l∧BB l≤65520:=fun l=>by
 rcases List.eq_nil_or_concat l with rfl | ⟨m,x,rfl⟩
 ·exact ⟨by decide,by decide⟩
 ·rw [List.concat_eq_append,OE]; omega
theorem SA {l:List Int} (h:qV l) {i:Nat} (hi:i<l.length):(IntKind.i64.wrap ((IntKind.i64.wrap (BB (l.take i) * (31:Int)))+(IntKind.i64.wrap l[i]))).tmod (65521:Int)=BB (l.take (i+1)):=by
 have h1:=ED (l.take i)
 have h2:=h _ (apG hi)
 rw [List.take_succ_eq_append_getElem hi,OE,wrap_i64 (x:=BB (l.take i) * 31) (by omega) (by omega),wrap_i64 (x:=l[i]) (by omega) (by omega),wrap_i64 (by omega) (by omega),Int.tmod_eq_emod_of_nonneg (by omega)]
theorem aaA {n:Nat} {l:List Int} (h:qV l) (hb:l.length≤big) (hn:big<n):vJ n l=some (BB l,()):=by
 have hb':l.length≤1048576:=hb
 unfold vJ
 refine (aM (fun i=>(BB (l.take i),l,(l.length:Int),(i:Int),())) (fun _=>none) (some (BB l,())) (m:=l.length) rfl (by omega) ?_ ?_).trans (bG (fun _ _ _=>rfl))
 ·intro L i hi _
  simp only [apE,hi,decide_true,if_true,aG hi,dR hi,aN hi (by omega),SA h hi]
  rfl
 ·intro L _
  simp
theorem aaC {n:Nat} {l:List Int} (h:qV l) (hb:l.length≤big) (hn:big<n):vL n l=some (BB l,()):=by
 have hb':l.length≤1048576:=hb
 unfold vL
 refine (aM (fun i=>(l,BB (l.take i),(i:Int),())) (fun _=>none) (some (BB l,())) (m:=l.length) rfl (by omega) ?_ ?_).trans (bG (fun _ _ _=>rfl))
 ·intro L i hi _
  simp only [apE,hi,decide_true,if_true,aG hi,dR hi,aN hi (by omega),SA h hi]
  rfl
 ·intro L _
  simp
theorem BZ {R:Type} {p:Nat→Bool} {r fin:R} (hne:r≠fin):∀{m i:Nat},bX (fun j=>if p j=true then some r else none) fin m i=fin→∀j,i≤j→j<i+m→p j=false
 | 0,i,_,j,h1,h2=>by omega
 | m+1,i,h,j,h1,h2=>by
  rw [bX] at h
  cases hp:p i with
  | true=>rw [hp] at h; exact absurd h hne
  | false=>
   rw [hp] at h
   by_cases e:j=i
   ·rw [e]; exact hp
   ·exact BZ hne h j (by omega) (by omega)
theorem EF {us:List Int} (h:CS us=true):∀u∈us,1≤u∧u≤999:=by
 intro u hu
 obtain ⟨j,hj,rfl⟩:=List.mem_iff_getElem.1 hu
 have h1:=CU us
 rw [h] at h1
 have h2:=BZ (by simp) h1 j (apM _) (by omega)
 unfold KP at h2
 rw [getD_lt hj] at h2
 have:=(Bool.or_eq_false_iff.1 h2).1
 simpa using this
structure SH (o:OpC):Prop where
 ro:RO o
 data:qV o.2.2.2.2.2.2.2.1
theorem SH.mode {o:OpC} (h:SH o):0≤o.2.2.2.2.1∧o.2.2.2.2.1≤3:=by
 by_cases h4:o.1=4
 ·have:=h.ro.mode h4; omega
 ·have:=h.ro.form
  unfold Cb at this
  simp only [apj,Bool.or_eq_true,decide_eq_true_eq,h4,false_or] at this
  have:=this.2.2.1
  omega
theorem SH.box {o:OpC} (h:SH o):o.2.1.length≤8∧qV o.2.1:=⟨h.ro.box.1.2,fun c hc=>by have:=h.ro.box.2 c hc; omega⟩
theorem SH.to' {o:OpC} (h:SH o):o.2.2.1.length≤8∧qV o.2.2.1:=by
 by_cases h4:o.1=5∨o.1=6
 ·have:=h.ro.to' h4
  exact ⟨this.1.2,fun c hc=>by have:=this.2 c hc; omega⟩
 ·have h5:o.1≠5:=fun e=>h4 (.inl e)
  have h6:o.1≠6:=fun e=>h4 (.inr e)
  have:=h.ro.form
  unfold Cb at this
  simp only [apj,Bool.or_eq_true,decide_eq_true_eq,h5,h6,false_or] at this
  rw [this.1]
  exact ⟨apM _,fun x hx=>absurd hx (List.not_mem_nil)⟩
theorem ZC {us:List Int} (h:∀u∈us,1≤u∧u≤999):qV (us.flatMap two):=fun x hx=>by
 obtain ⟨u,hu,hx⟩:=apP.1 hx
 have:=h u hu
 exact JY (by omega) (by omega) x hx
theorem SH.body {o:OpC} (h:SH o):qV (jI o)∧(jI o).length≤500:=by
 have h1:=h.box
 have h2:=h.to'
 have h3:=h.mode
 have h4:=h.ro
 have h5:=h4.kind
 have h6:=h4.few
 have h7:=h4.flags
 have h8:=h4.date
 have h9:=h4.data
 refine ⟨?_,by rw [Cn]; omega⟩
 unfold jI
 exact sw (by omega) (sw (by omega) (C9 h1.2 (sw (by omega) (C9 h2.2 (sw (by omega) (C9 (ZC (EF h4.ae7)) (sw (by omega) (sw (by omega) (C9 (JY h8.1 (by omega)) (C9 (JY (by omega) (by omega)) h.data))))))))))
theorem SH.head {o:OpC} (h:SH o):qV (xU o)∧(xU o).length≤502:=by
 have:=h.body
 exact ⟨C9 (JY (by omega) (by omega)) this.1,by rw [RP]; omega⟩
def qw (o:OpC):List Int:=o.1 :: (o.2.1.length:Int) :: (o.2.1++(o.2.2.1.length:Int) :: (o.2.2.1++[(o.2.2.2.1.length:Int)]))
def Pf (o:OpC):List Int:=o.2.2.2.2.1 :: o.2.2.2.2.2.1 :: (two o.2.2.2.2.2.2.1++(two (o.2.2.2.2.2.2.2.1.length:Int)++o.2.2.2.2.2.2.2.1))
theorem KS (o:OpC):jI o=qw o++(o.2.2.2.1.flatMap two++Pf o):=by simp [jI,qw,Pf]
theorem OI (us:List Int) {i:Nat} (hi:i<us.length):(us.take (i+1)).flatMap two=(us.take i).flatMap two++two us[i]:=by
 rw [List.take_succ_eq_append_getElem hi,List.flatMap_append,List.flatMap_cons,List.flatMap_nil,apH]
theorem XC {n:Nat} {o:OpC} (h:SH o) (hn:big<n):uf n o=some (fQ o,()):=by
 have h1:=h.box
 have h2:=h.to'
 have h3:=h.mode
 have h4:=h.ro
 have h5:=h4.kind
 have h6:=h4.few
 have h7:=h4.flags
 have h8:=h4.date
 have h9:=h4.data
 have hb:=h.body
 have hh:=h.head
 have hu:=EF h4.ae7
 have hs:=ED (xU o)
 unfold big at hn
 unfold uf
 rw [wrap_u8 (x:=o.1) (by omega) (by omega),wrap_u8 (x:=(o.2.1.length:Int)) (by omega) (by omega),wrap_u8 (x:=(o.2.2.1.length:Int)) (by omega) (by omega),wrap_u8 (x:=(o.2.2.2.1.length:Int)) (by omega) (by omega)]
 rw [if_pos (by simp only [apl,apB,List.length_nil]; omega),if_pos (by simp only [apl,apB,List.length_nil]; omega),if_pos (by simp only [apl,apB,List.length_nil]; omega),if_pos (by simp only [apl,apB,List.length_nil]; omega)]
 have ef:((([o.1,(o.2.1.length:Int)]++o.2.1)++[(o.2.2.1.length:Int)])++o.2.2.1)++[(o.2.2.2.1.length:Int)]=qw o:=by simp [qw]
 have lf:(qw o).length≤100:=by simp only [qw,apl,apB,List.length_nil]; omega
 rw [ef]
 refine (aM (fun i=>(o.2.2.2.1,(o.2.2.2.1.length:Int),(i:Int),o,qw o++(o.2.2.2.1.take i).flatMap two,())) (fun _=>none) (some (fQ o,())) (m:=o.2.2.2.1.length) (by simp) (by omega) ?_ ?_).trans (bG (fun _ _ _=>rfl))
 ·intro L i hi _
  have hr:=hu _ (apG hi)
  simp only [apE,hi,decide_true,if_true,aG hi,dR hi,aN hi (by omega),zT (n:=n) (show 0≤o.2.2.2.1[i] by omega) (by omega),ape,OI _ hi,apz]
  rw [if_pos (by simp only [apl,Co,lC,List.length_take]; omega)]
 ·intro L _
  have lb:((qw o++o.2.2.2.1.flatMap two).length:Nat)≤200:=by simp only [apl,Co]; omega
  simp only [Int.lt_irrefl,decide_false,apg,if_false,List.take_length]
  rw [if_pos (by simp only [apB,List.length_nil]; omega),zT h8.1 (by omega)]
  simp only [ape]
  rw [if_pos (by simp only [apl,apB,List.length_nil,lC] at lb ⊢; omega)]
  unfold bN
  simp only [ape]
  rw [zT (by omega) (by omega)]
  simp only [ape]
  rw [if_pos (by simp only [apl,apB,List.length_nil,lC] at lb ⊢; omega),if_pos (by simp only [apl,apB,List.length_nil,lC] at lb ⊢; omega)]
  rw [wrap_u8 (x:=o.2.2.2.2.1) (by omega) (by omega),wrap_u8 (x:=o.2.2.2.2.2.1) (by omega) (by omega)]
  have eb:((((qw o++o.2.2.2.1.flatMap two)++[o.2.2.2.2.1,o.2.2.2.2.2.1])++two o.2.2.2.2.2.2.1)++two (o.2.2.2.2.2.2.2.1.length:Int))++o.2.2.2.2.2.2.2.1=jI o:=by rw [KS]; simp [Pf]
  rw [eb,wrap_i64 (x:=((jI o).length:Int)+4) (by omega) (by omega),zT (by omega) (by omega)]
  simp only [ape]
  rw [if_pos (by rw [lC]; omega)]
  have eh:two (((jI o).length:Int)+4)++jI o=xU o:=rfl
  rw [eh,aaA hh.1 (by unfold big; omega) (by unfold big; omega)]
  simp only [ape]
  rw [zT hs.1 (by omega)]
  simp only [ape]
  rw [if_pos (by rw [lC]; omega)]
  rfl
theorem Oq {n:Nat} {o:OpC} (h:SH o) (hn:big<n):uC n o=some (fQ o,()):=by
 have h1:=h.box
 have h2:=h.to'
 have h3:=h.mode
 have h4:=h.ro
 have h5:=h4.kind
 have h6:=h4.few
 have h7:=h4.flags
 have h8:=h4.date
 have h9:=h4.data
 have hb:=h.body
 have hh:=h.head
 have hu:=EF h4.ae7
 have hs:=ED (xU o)
 unfold big at hn
 unfold uC
 rw [wrap_u8 (x:=o.1) (by omega) (by omega),wrap_u8 (x:=(o.2.1.length:Int)) (by omega) (by omega),wrap_u8 (x:=(o.2.2.1.length:Int)) (by omega) (by omega),wrap_u8 (x:=(o.2.2.2.1.length:Int)) (by omega) (by omega)]
 rw [if_pos (by simp only [apl,apB,List.length_nil]; omega),if_pos (by simp only [apl,apB,List.length_nil]; omega),if_pos (by simp only [apl,apB,List.length_nil]; omega),if_pos (by simp only [apl,apB,List.length_nil]; omega)]
 have ef:((([(0:Int),(0:Int),o.1,(o.2.1.length:Int)]++o.2.1)++[(o.2.2.1.length:Int)])++o.2.2.1)++[(o.2.2.2.1.length:Int)]=0 :: 0 :: qw o:=by simp [qw]
 have lf:(0 :: 0 :: qw o).length≤100:=by simp only [qw,apl,apB,List.length_nil]; omega
 rw [ef]
 refine (aM (fun i=>(o,(i:Int),(0 :: 0 :: qw o)++(o.2.2.2.1.take i).flatMap two,())) (fun _=>none) (some (fQ o,())) (m:=o.2.2.2.1.length) (by simp) (by omega) ?_ ?_).trans (bG (fun _ _ _=>rfl))
 ·intro L i hi _
  have hr:=hu _ (apG hi)
  simp only [apE,hi,decide_true,if_true,aG hi,dR hi,aN hi (by omega),CR (n:=n) (show 0≤o.2.2.2.1[i] by omega) (by omega),ape,OI _ hi,apz]
  rw [if_pos (by simp only [apl,Co,lC,List.length_take] at lf ⊢; omega)]
 ·intro L _
  have lb:((0 :: 0 :: qw o)++o.2.2.2.1.flatMap two).length≤200:=by rw [apl,Co]; omega
  simp only [Int.lt_irrefl,decide_false,apg,if_false,List.take_length]
  rw [if_pos (by simp only [apB,List.length_nil] at lb ⊢; omega),CR h8.1 (by omega)]
  simp only [ape]
  rw [if_pos (by simp only [apl,apB,List.length_nil,lC] at lb ⊢; omega),CR (by omega) (by omega)]
  simp only [ape]
  rw [if_pos (by simp only [apl,apB,List.length_nil,lC] at lb ⊢; omega),if_pos (by simp only [apl,apB,List.length_nil,lC] at lb ⊢; omega)]
  rw [wrap_u8 (x:=o.2.2.2.2.1) (by omega) (by omega),wrap_u8 (x:=o.2.2.2.2.2.1) (by omega) (by omega)]
  have eb:(((((0 :: 0 :: qw o)++o.2.2.2.1.flatMap two)++[o.2.2.2.2.1,o.2.2.2.2.2.1])++two o.2.2.2.2.2.2.1)++two (o.2.2.2.2.2.2.2.1.length:Int))++o.2.2.2.2.2.2.2.1=0 :: 0 :: jI o:=by rw [KS]; simp [Pf]
  have el:((0 :: 0 :: jI o).length:Int)+2=((jI o).length:Int)+4:=by simp only [apB]; omega
  rw [eb,el,wrap_i64 (x:=((jI o).length:Int)+4) (by omega) (by omega),CR (by omega) (by omega)]
  simp only [ape]
  rw [if_pos (by rw [lC]; simp only [apB]; omega)]
  have eh:two (((jI o).length:Int)+4)++(0 :: 0 :: jI o).drop (two (((jI o).length:Int)+4)).length=xU o:=rfl
  rw [eh,aaC hh.1 (by unfold big; omega) (by unfold big; omega)]
  simp only [ape]
  rw [CR hs.1 (by omega)]
  simp only [ape]
  rw [if_pos (by rw [lC]; omega)]
  rfl
end Go.Proofs.YtdknpknohipffaaGreat.lD
