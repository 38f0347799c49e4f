/- Packing and reading of ops, on both sides. -/
import Derived.Test.YtailcbngagacaabGreatOwF
import Derived.Test.YtailcbngagacaabGreatLoopLib
import Derived.Test.YtailcbngagacaabGreatPackLib
import Derived.Test.YtailcbngagacaabGreatStoreMath
import Derived.Test.YtailcbngagacaabGreatOpsMath
import Derived.Test.YtailcbngagacaabGreatGoodMath
import Derived.Test.YtailcbngagacaabGreatCrashF
set_option linter.unusedSectionVars false
set_option linter.unusedVariables false
set_option linter.unusedSimpArgs false
namespace Go.Proofs.YtailcbngagacaabGreat.rE
open Go Go.Proofs.YtailcbngagacaabGreat.Ow Go.Proofs.YtailcbngagacaabGreat.rq Go.Proofs.YtailcbngagacaabGreat.om Go.Proofs.YtailcbngagacaabGreat.Ab Go.Proofs.YtailcbngagacaabGreat.jl Go.Proofs.YtailcbngagacaabGreat.mQ Go.Proofs.YtailcbngagacaabGreat.y8
def rO (l:List Int):Prop:=∀x∈l,0≤x∧x≤255
theorem zA {l:List Int} (h:rO l) (k:Nat):rO (l.take k):=fun x hx=>h x (List.mem_of_mem_take hx)
theorem zy {l:List Int} (h:rO l) (k:Nat):rO (l.drop k):=fun x hx=>h x (List.mem_of_mem_drop hx)
theorem CO {l m:List Int} (h:rO l) (h':rO m):rO (l++m):=fun x hx=>(List.mem_append.1 hx).elim (h x) (h' x)
theorem tC {x:Int} {m:List Int} (h:0≤x∧x≤255) (h':rO m):rO (x :: m):=fun y hy=>(List.mem_cons.1 hy).elim (fun e=>e▸h) (h' y)
theorem XP (k:Nat):rO (List.replicate k 0):=fun x hx=>by rw [(List.mem_replicate.1 hx).2]; omega
theorem Ij {n:Int} (h0:0≤n) (h1:n≤65535):rO (two n):=tC (by omega) (tC (by omega) (fun x hx=>absurd hx (List.not_mem_nil)))
theorem xz {l:List Int} (h:rO l) (i:Nat):0≤l.getD i 0∧l.getD i 0≤255:=by
 by_cases hi:i<l.length
 ·rw [getD_lt hi]; exact h _ (List.getElem_mem hi)
 ·rw [List.getD_eq_getElem?_getD,List.getElem?_eq_none (by omega)]
  exact ⟨Int.le_refl _,by show (0:Int)≤255; omega⟩
theorem wrap_u8 {x:Int} (h1:0≤x) (h2:x≤255):IntKind.u8.wrap x=x:=by
 simp [IntKind.wrap,IntKind.bits,IntKind.signed]
 omega
theorem zR {n:Nat} {x:Int} (h0:0≤x) (h1:x≤65535):oZ n x=some (two x,()):=by
 unfold oZ two
 rw [Int.tdiv_eq_ediv_of_nonneg h0,Int.tmod_eq_emod_of_nonneg h0,wrap_i64 (by omega) (by omega),wrap_u8 (by omega) (by omega),wrap_u8 (by omega) (by omega)]
 rfl
theorem Cw {n:Nat} {x:Int} (h0:0≤x) (h1:x≤65535):mO n x=some (two x,()):=zR (n:=n) h0 h1
theorem MC (l:List Int) (x:Int):Bu (l++[x])=(Bu l * 31+x) % 65521:=by simp [Bu]
theorem DY:∀(l:List Int),0≤Bu l∧Bu l≤65520:=fun l=>by
 rcases List.eq_nil_or_concat l with rfl | ⟨m,x,rfl⟩
 ·exact ⟨by decide,by decide⟩
 ·rw [List.concat_eq_append,MC]; omega
theorem Qh {l:List Int} (h:rO l) {i:Nat} (hi:i<l.length):(IntKind.i64.wrap ((IntKind.i64.wrap (Bu (l.take i) * (31:Int)))+(IntKind.i64.wrap l[i]))).tmod (65521:Int)=Bu (l.take (i+1)):=by
 have h1:=DY (l.take i)
 have h2:=h _ (List.getElem_mem hi)
 rw [List.take_succ_eq_append_getElem hi,MC,wrap_i64 (x:=Bu (l.take i) * 31) (by omega) (by omega),wrap_i64 (x:=l[i]) (by omega) (by omega),wrap_i64 (by omega) (by omega),Int.tmod_eq_emod_of_nonneg (by omega)]
theorem YF {n:Nat} {l:List Int} (h:rO l) (hb:l.length≤big) (hn:big<n):wC n l=some (Bu l,()):=by
 have hb':l.length≤1048576:=hb
 unfold wC
 refine (aQ (fun i=>(Bu (l.take i),l,(l.length:Int),(i:Int),())) (fun _=>none) (some (Bu l,())) (m:=l.length) rfl (by omega) ?_ ?_).trans (bK (fun _ _ _=>rfl))
 ·intro L i hi _
  simp only [Int.ofNat_lt,hi,decide_true,if_true,aG hi,dV hi,aR hi (by omega),Qh h hi]
  rfl
 ·intro L _
  simp
theorem YH {n:Nat} {l:List Int} (h:rO l) (hb:l.length≤big) (hn:big<n):wE n l=some (Bu l,()):=by
 have hb':l.length≤1048576:=hb
 unfold wE
 refine (aQ (fun i=>(l,Bu (l.take i),(i:Int),())) (fun _=>none) (some (Bu l,())) (m:=l.length) rfl (by omega) ?_ ?_).trans (bK (fun _ _ _=>rfl))
 ·intro L i hi _
  simp only [Int.ofNat_lt,hi,decide_true,if_true,aG hi,dV hi,aR hi (by omega),Qh h hi]
  rfl
 ·intro L _
  simp
theorem BQ {R:Type} {p:Nat→Bool} {r fin:R} (hne:r≠fin):∀{m i:Nat},cZ (fun j=>if p j=true then some r else none) fin m i=fin→∀j,i≤j→j<i+m→p j=false
 | 0,i,_,j,h1,h2=>by omega
 | m+1,i,h,j,h1,h2=>by
  rw [cZ] at h
  cases hp:p i with
  | true=>rw [hp] at h; exact absurd h hne
  | false=>
   rw [hp] at h
   by_cases e:j=i
   ·rw [e]; exact hp
   ·exact BQ hne h j (by omega) (by omega)
theorem D5 {us:List Int} (h:Fb us=true):∀u∈us,1≤u∧u≤999:=by
 intro u hu
 obtain ⟨j,hj,rfl⟩:=List.mem_iff_getElem.1 hu
 have h1:=KG us
 rw [h] at h1
 have h2:=BQ (by simp) h1 j (Nat.zero_le _) (by omega)
 unfold I9 at h2
 rw [getD_lt hj] at h2
 have:=(Bool.or_eq_false_iff.1 h2).1
 simpa using this
structure Qm (o:OpC):Prop where
 ro:RO o
 data:rO o.2.2.2.2.2.2.2.1
theorem Qm.mode {o:OpC} (h:Qm o):0≤o.2.2.2.2.1∧o.2.2.2.2.1≤3:=by
 by_cases h4:o.1=4
 ·have:=h.ro.mode h4; omega
 ·have:=h.ro.form
  unfold BR at this
  simp only [Bool.and_eq_true,Bool.or_eq_true,decide_eq_true_eq,h4,false_or] at this
  have:=this.2.2.1
  omega
theorem Qm.box {o:OpC} (h:Qm o):o.2.1.length≤8∧rO o.2.1:=⟨h.ro.box.1.2,fun c hc=>by have:=h.ro.box.2 c hc; omega⟩
theorem Qm.to' {o:OpC} (h:Qm o):o.2.2.1.length≤8∧rO o.2.2.1:=by
 by_cases h4:o.1=5∨o.1=6
 ·have:=h.ro.to' h4
  exact ⟨this.1.2,fun c hc=>by have:=this.2 c hc; omega⟩
 ·have h5:o.1≠5:=fun e=>h4 (.inl e)
  have h6:o.1≠6:=fun e=>h4 (.inr e)
  have:=h.ro.form
  unfold BR at this
  simp only [Bool.and_eq_true,Bool.or_eq_true,decide_eq_true_eq,h5,h6,false_or] at this
  rw [this.1]
  exact ⟨Nat.zero_le _,fun x hx=>absurd hx (List.not_mem_nil)⟩
theorem XO {us:List Int} (h:∀u∈us,1≤u∧u≤999):rO (us.flatMap two):=fun x hx=>by
 obtain ⟨u,hu,hx⟩:=List.mem_flatMap.1 hx
 have:=h u hu
 exact Ij (by omega) (by omega) x hx
theorem Qm.body {o:OpC} (h:Qm o):rO (jA o)∧(jA o).length≤500:=by
 have h1:=h.box
 have h2:=h.to'
 have h3:=h.mode
 have h4:=h.ro
 have h5:=h4.kind
 have h6:=h4.few
 have h7:=h4.flags
 have h8:=h4.date
 have h9:=h4.data
 refine ⟨?_,by rw [Ce]; omega⟩
 unfold jA
 exact tC (by omega) (tC (by omega) (CO h1.2 (tC (by omega) (CO h2.2 (tC (by omega) (CO (XO (D5 h4.adF)) (tC (by omega) (tC (by omega) (CO (Ij h8.1 (by omega)) (CO (Ij (by omega) (by omega)) h.data))))))))))
theorem Qm.head {o:OpC} (h:Qm o):rO (yt o)∧(yt o).length≤502:=by
 have:=h.body
 exact ⟨CO (Ij (by omega) (by omega)) this.1,by rw [Pz]; omega⟩
def qC (o:OpC):List Int:=o.1 :: (o.2.1.length:Int) :: (o.2.1++(o.2.2.1.length:Int) :: (o.2.2.1++[(o.2.2.2.1.length:Int)]))
def M9 (o:OpC):List Int:=o.2.2.2.2.1 :: o.2.2.2.2.2.1 :: (two o.2.2.2.2.2.2.1++(two (o.2.2.2.2.2.2.2.1.length:Int)++o.2.2.2.2.2.2.2.1))
theorem Jb (o:OpC):jA o=qC o++(o.2.2.2.1.flatMap two++M9 o):=by simp [jA,qC,M9]
theorem MG (us:List Int) {i:Nat} (hi:i<us.length):(us.take (i+1)).flatMap two=(us.take i).flatMap two++two us[i]:=by
 rw [List.take_succ_eq_append_getElem hi,List.flatMap_append,List.flatMap_cons,List.flatMap_nil,List.append_nil]
theorem Vk {n:Nat} {o:OpC} (h:Qm o) (hn:big<n):uN n o=some (fK o,()):=by
 have h1:=h.box
 have h2:=h.to'
 have h3:=h.mode
 have h4:=h.ro
 have h5:=h4.kind
 have h6:=h4.few
 have h7:=h4.flags
 have h8:=h4.date
 have h9:=h4.data
 have hb:=h.body
 have hh:=h.head
 have hu:=D5 h4.adF
 have hs:=DY (yt o)
 unfold big at hn
 unfold uN
 rw [wrap_u8 (x:=o.1) (by omega) (by omega),wrap_u8 (x:=(o.2.1.length:Int)) (by omega) (by omega),wrap_u8 (x:=(o.2.2.1.length:Int)) (by omega) (by omega),wrap_u8 (x:=(o.2.2.2.1.length:Int)) (by omega) (by omega)]
 rw [if_pos (by simp only [List.length_append,List.length_cons,List.length_nil]; omega),if_pos (by simp only [List.length_append,List.length_cons,List.length_nil]; omega),if_pos (by simp only [List.length_append,List.length_cons,List.length_nil]; omega),if_pos (by simp only [List.length_append,List.length_cons,List.length_nil]; omega)]
 have ef:((([o.1,(o.2.1.length:Int)]++o.2.1)++[(o.2.2.1.length:Int)])++o.2.2.1)++[(o.2.2.2.1.length:Int)]=qC o:=by simp [qC]
 have lf:(qC o).length≤100:=by simp only [qC,List.length_append,List.length_cons,List.length_nil]; omega
 rw [ef]
 refine (aQ (fun i=>(o.2.2.2.1,(o.2.2.2.1.length:Int),(i:Int),o,qC o++(o.2.2.2.1.take i).flatMap two,())) (fun _=>none) (some (fK o,())) (m:=o.2.2.2.1.length) (by simp) (by omega) ?_ ?_).trans (bK (fun _ _ _=>rfl))
 ·intro L i hi _
  have hr:=hu _ (List.getElem_mem hi)
  simp only [Int.ofNat_lt,hi,decide_true,if_true,aG hi,dV hi,aR hi (by omega),zR (n:=n) (show 0≤o.2.2.2.1[i] by omega) (by omega),Option.bind_some,MG _ hi,List.append_assoc]
  rw [if_pos (by simp only [List.length_append,Cf,kN,List.length_take]; omega)]
 ·intro L _
  have lb:((qC o++o.2.2.2.1.flatMap two).length:Nat)≤200:=by simp only [List.length_append,Cf]; omega
  simp only [Int.lt_irrefl,decide_false,Bool.false_eq_true,if_false,List.take_length]
  rw [if_pos (by simp only [List.length_cons,List.length_nil]; omega),zR h8.1 (by omega)]
  simp only [Option.bind_some]
  rw [if_pos (by simp only [List.length_append,List.length_cons,List.length_nil,kN] at lb ⊢; omega)]
  unfold bN
  simp only [Option.bind_some]
  rw [zR (by omega) (by omega)]
  simp only [Option.bind_some]
  rw [if_pos (by simp only [List.length_append,List.length_cons,List.length_nil,kN] at lb ⊢; omega),if_pos (by simp only [List.length_append,List.length_cons,List.length_nil,kN] at lb ⊢; omega)]
  rw [wrap_u8 (x:=o.2.2.2.2.1) (by omega) (by omega),wrap_u8 (x:=o.2.2.2.2.2.1) (by omega) (by omega)]
  have eb:((((qC o++o.2.2.2.1.flatMap two)++[o.2.2.2.2.1,o.2.2.2.2.2.1])++two o.2.2.2.2.2.2.1)++two (o.2.2.2.2.2.2.2.1.length:Int))++o.2.2.2.2.2.2.2.1=jA o:=by rw [Jb]; simp [M9]
  rw [eb,wrap_i64 (x:=((jA o).length:Int)+4) (by omega) (by omega),zR (by omega) (by omega)]
  simp only [Option.bind_some]
  rw [if_pos (by rw [kN]; omega)]
  have eh:two (((jA o).length:Int)+4)++jA o=yt o:=rfl
  rw [eh,YF hh.1 (by unfold big; omega) (by unfold big; omega)]
  simp only [Option.bind_some]
  rw [zR hs.1 (by omega)]
  simp only [Option.bind_some]
  rw [if_pos (by rw [kN]; omega)]
  rfl
theorem Mk {n:Nat} {o:OpC} (h:Qm o) (hn:big<n):uZ n o=some (fK o,()):=by
 have h1:=h.box
 have h2:=h.to'
 have h3:=h.mode
 have h4:=h.ro
 have h5:=h4.kind
 have h6:=h4.few
 have h7:=h4.flags
 have h8:=h4.date
 have h9:=h4.data
 have hb:=h.body
 have hh:=h.head
 have hu:=D5 h4.adF
 have hs:=DY (yt o)
 unfold big at hn
 unfold uZ
 rw [wrap_u8 (x:=o.1) (by omega) (by omega),wrap_u8 (x:=(o.2.1.length:Int)) (by omega) (by omega),wrap_u8 (x:=(o.2.2.1.length:Int)) (by omega) (by omega),wrap_u8 (x:=(o.2.2.2.1.length:Int)) (by omega) (by omega)]
 rw [if_pos (by simp only [List.length_append,List.length_cons,List.length_nil]; omega),if_pos (by simp only [List.length_append,List.length_cons,List.length_nil]; omega),if_pos (by simp only [List.length_append,List.length_cons,List.length_nil]; omega),if_pos (by simp only [List.length_append,List.length_cons,List.length_nil]; omega)]
 have ef:((([(0:Int),(0:Int),o.1,(o.2.1.length:Int)]++o.2.1)++[(o.2.2.1.length:Int)])++o.2.2.1)++[(o.2.2.2.1.length:Int)]=0 :: 0 :: qC o:=by simp [qC]
 have lf:(0 :: 0 :: qC o).length≤100:=by simp only [qC,List.length_append,List.length_cons,List.length_nil]; omega
 rw [ef]
 refine (aQ (fun i=>(o,(i:Int),(0 :: 0 :: qC o)++(o.2.2.2.1.take i).flatMap two,())) (fun _=>none) (some (fK o,())) (m:=o.2.2.2.1.length) (by simp) (by omega) ?_ ?_).trans (bK (fun _ _ _=>rfl))
 ·intro L i hi _
  have hr:=hu _ (List.getElem_mem hi)
  simp only [Int.ofNat_lt,hi,decide_true,if_true,aG hi,dV hi,aR hi (by omega),Cw (n:=n) (show 0≤o.2.2.2.1[i] by omega) (by omega),Option.bind_some,MG _ hi,List.append_assoc]
  rw [if_pos (by simp only [List.length_append,Cf,kN,List.length_take] at lf ⊢; omega)]
 ·intro L _
  have lb:((0 :: 0 :: qC o)++o.2.2.2.1.flatMap two).length≤200:=by rw [List.length_append,Cf]; omega
  simp only [Int.lt_irrefl,decide_false,Bool.false_eq_true,if_false,List.take_length]
  rw [if_pos (by simp only [List.length_cons,List.length_nil] at lb ⊢; omega),Cw h8.1 (by omega)]
  simp only [Option.bind_some]
  rw [if_pos (by simp only [List.length_append,List.length_cons,List.length_nil,kN] at lb ⊢; omega),Cw (by omega) (by omega)]
  simp only [Option.bind_some]
  rw [if_pos (by simp only [List.length_append,List.length_cons,List.length_nil,kN] at lb ⊢; omega),if_pos (by simp only [List.length_append,List.length_cons,List.length_nil,kN] at lb ⊢; omega)]
  rw [wrap_u8 (x:=o.2.2.2.2.1) (by omega) (by omega),wrap_u8 (x:=o.2.2.2.2.2.1) (by omega) (by omega)]
  have eb:(((((0 :: 0 :: qC o)++o.2.2.2.1.flatMap two)++[o.2.2.2.2.1,o.2.2.2.2.2.1])++two o.2.2.2.2.2.2.1)++two (o.2.2.2.2.2.2.2.1.length:Int))++o.2.2.2.2.2.2.2.1=0 :: 0 :: jA o:=by rw [Jb]; simp [M9]
  have el:((0 :: 0 :: jA o).length:Int)+2=((jA o).length:Int)+4:=by simp only [List.length_cons]; omega
  rw [eb,el,wrap_i64 (x:=((jA o).length:Int)+4) (by omega) (by omega),Cw (by omega) (by omega)]
  simp only [Option.bind_some]
  rw [if_pos (by rw [kN]; simp only [List.length_cons]; omega)]
  have eh:two (((jA o).length:Int)+4)++(0 :: 0 :: jA o).drop (two (((jA o).length:Int)+4)).length=yt o:=rfl
  rw [eh,YH hh.1 (by unfold big; omega) (by unfold big; omega)]
  simp only [Option.bind_some]
  rw [Cw hs.1 (by omega)]
  simp only [Option.bind_some]
  rw [if_pos (by rw [kN]; omega)]
  rfl
end Go.Proofs.YtailcbngagacaabGreat.rE
