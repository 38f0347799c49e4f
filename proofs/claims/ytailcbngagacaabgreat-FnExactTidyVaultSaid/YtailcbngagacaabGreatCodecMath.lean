/- Packing and reading of ops, on both sides. -/
import Derived.Test.YtailcbngagacaabGreatOwF
import Derived.Test.YtailcbngagacaabGreatLoopLib
import Derived.Test.YtailcbngagacaabGreatPackLib
import Derived.Test.YtailcbngagacaabGreatStoreMath
import Derived.Test.YtailcbngagacaabGreatOpsMath
import Derived.Test.YtailcbngagacaabGreatGoodMath
import Derived.Test.YtailcbngagacaabGreatTidyF
set_option linter.unusedSectionVars false
set_option linter.unusedVariables false
set_option linter.unusedSimpArgs false
namespace Go.Proofs.YtailcbngagacaabGreat.rE
open Go Go.Proofs.YtailcbngagacaabGreat.Ow Go.Proofs.YtailcbngagacaabGreat.yj Go.Proofs.YtailcbngagacaabGreat.pU Go.Proofs.YtailcbngagacaabGreat.yf Go.Proofs.YtailcbngagacaabGreat.jL Go.Proofs.YtailcbngagacaabGreat.mO Go.Proofs.YtailcbngagacaabGreat.za
def rP (l:List Int):Prop:=∀x∈l,0≤x∧x≤255
theorem zD {l:List Int} (h:rP l) (k:Nat):rP (l.take k):=fun x hx=>h x (List.mem_of_mem_take hx)
theorem zC {l:List Int} (h:rP l) (k:Nat):rP (l.drop k):=fun x hx=>h x (List.mem_of_mem_drop hx)
theorem CL {l m:List Int} (h:rP l) (h':rP m):rP (l++m):=fun x hx=>(List.mem_append.1 hx).elim (h x) (h' x)
theorem tF {x:Int} {m:List Int} (h:0≤x∧x≤255) (h':rP m):rP (x :: m):=fun y hy=>(List.mem_cons.1 hy).elim (fun e=>e▸h) (h' y)
theorem XR (k:Nat):rP (List.replicate k 0):=fun x hx=>by rw [(List.mem_replicate.1 hx).2]; omega
theorem Ip {n:Int} (h0:0≤n) (h1:n≤65535):rP (two n):=tF (by omega) (tF (by omega) (fun x hx=>absurd hx (List.not_mem_nil)))
theorem xy {l:List Int} (h:rP l) (i:Nat):0≤l.getD i 0∧l.getD i 0≤255:=by
 by_cases hi:i<l.length
 ·rw [getD_lt hi]; exact h _ (List.getElem_mem hi)
 ·rw [List.getD_eq_getElem?_getD,List.getElem?_eq_none (by omega)]
  exact ⟨Int.le_refl _,by show (0:Int)≤255; omega⟩
theorem wrap_u8 {x:Int} (h1:0≤x) (h2:x≤255):IntKind.u8.wrap x=x:=by
 simp [IntKind.wrap,IntKind.bits,IntKind.signed]
 omega
theorem zU {n:Nat} {x:Int} (h0:0≤x) (h1:x≤65535):oQ n x=some (two x,()):=by
 unfold oQ two
 rw [Int.tdiv_eq_ediv_of_nonneg h0,Int.tmod_eq_emod_of_nonneg h0,wrap_i64 (by omega) (by omega),wrap_u8 (by omega) (by omega),wrap_u8 (by omega) (by omega)]
 rfl
theorem Cw {n:Nat} {x:Int} (h0:0≤x) (h1:x≤65535):mJ n x=some (two x,()):=zU (n:=n) h0 h1
theorem MK (l:List Int) (x:Int):Bu (l++[x])=(Bu l * 31+x) % 65521:=by simp [Bu]
theorem DY:∀(l:List Int),0≤Bu l∧Bu l≤65520:=fun l=>by
 rcases List.eq_nil_or_concat l with rfl | ⟨m,x,rfl⟩
 ·exact ⟨by decide,by decide⟩
 ·rw [List.concat_eq_append,MK]; omega
theorem Ql {l:List Int} (h:rP l) {i:Nat} (hi:i<l.length):(IntKind.i64.wrap ((IntKind.i64.wrap (Bu (l.take i) * (31:Int)))+(IntKind.i64.wrap l[i]))).tmod (65521:Int)=Bu (l.take (i+1)):=by
 have h1:=DY (l.take i)
 have h2:=h _ (List.getElem_mem hi)
 rw [List.take_succ_eq_append_getElem hi,MK,wrap_i64 (x:=Bu (l.take i) * 31) (by omega) (by omega),wrap_i64 (x:=l[i]) (by omega) (by omega),wrap_i64 (by omega) (by omega),Int.tmod_eq_emod_of_nonneg (by omega)]
theorem YF {n:Nat} {l:List Int} (h:rP l) (hb:l.length≤big) (hn:big<n):wD n l=some (Bu l,()):=by
 have hb':l.length≤1048576:=hb
 unfold wD
 refine (aR (fun i=>(Bu (l.take i),l,(l.length:Int),(i:Int),())) (fun _=>none) (some (Bu l,())) (m:=l.length) rfl (by omega) ?_ ?_).trans (bL (fun _ _ _=>rfl))
 ·intro L i hi _
  simp only [Int.ofNat_lt,hi,decide_true,if_true,aG hi,dO hi,aN hi (by omega),Ql h hi]
  rfl
 ·intro L _
  simp
theorem YH {n:Nat} {l:List Int} (h:rP l) (hb:l.length≤big) (hn:big<n):wF n l=some (Bu l,()):=by
 have hb':l.length≤1048576:=hb
 unfold wF
 refine (aR (fun i=>(l,Bu (l.take i),(i:Int),())) (fun _=>none) (some (Bu l,())) (m:=l.length) rfl (by omega) ?_ ?_).trans (bL (fun _ _ _=>rfl))
 ·intro L i hi _
  simp only [Int.ofNat_lt,hi,decide_true,if_true,aG hi,dO hi,aN hi (by omega),Ql h hi]
  rfl
 ·intro L _
  simp
theorem BQ {R:Type} {p:Nat→Bool} {r fin:R} (hne:r≠fin):∀{m i:Nat},cZ (fun j=>if p j=true then some r else none) fin m i=fin→∀j,i≤j→j<i+m→p j=false
 | 0,i,_,j,h1,h2=>by omega
 | m+1,i,h,j,h1,h2=>by
  rw [cZ] at h
  cases hp:p i with
  | true=>rw [hp] at h; exact absurd h hne
  | false=>
   rw [hp] at h
   by_cases e:j=i
   ·rw [e]; exact hp
   ·exact BQ hne h j (by omega) (by omega)
theorem D5 {us:List Int} (h:Fe us=true):∀u∈us,1≤u∧u≤999:=by
 intro u hu
 obtain ⟨j,hj,rfl⟩:=List.mem_iff_getElem.1 hu
 have h1:=KO us
 rw [h] at h1
 have h2:=BQ (by simp) h1 j (Nat.zero_le _) (by omega)
 unfold Je at h2
 rw [getD_lt hj] at h2
 have:=(Bool.or_eq_false_iff.1 h2).1
 simpa using this
structure LA (o:OpC):Prop where
 ro:RO o
 data:rP o.2.2.2.2.2.2.2.1
theorem LA.mode {o:OpC} (h:LA o):0≤o.2.2.2.2.1∧o.2.2.2.2.1≤3:=by
 by_cases h4:o.1=4
 ·have:=h.ro.mode h4; omega
 ·have:=h.ro.form
  unfold BR at this
  simp only [Bool.and_eq_true,Bool.or_eq_true,decide_eq_true_eq,h4,false_or] at this
  have:=this.2.2.1
  omega
theorem LA.box {o:OpC} (h:LA o):o.2.1.length≤8∧rP o.2.1:=⟨h.ro.box.1.2,fun c hc=>by have:=h.ro.box.2 c hc; omega⟩
theorem LA.to' {o:OpC} (h:LA o):o.2.2.1.length≤8∧rP o.2.2.1:=by
 by_cases h4:o.1=5∨o.1=6
 ·have:=h.ro.to' h4
  exact ⟨this.1.2,fun c hc=>by have:=this.2 c hc; omega⟩
 ·have h5:o.1≠5:=fun e=>h4 (.inl e)
  have h6:o.1≠6:=fun e=>h4 (.inr e)
  have:=h.ro.form
  unfold BR at this
  simp only [Bool.and_eq_true,Bool.or_eq_true,decide_eq_true_eq,h5,h6,false_or] at this
  rw [this.1]
  exact ⟨Nat.zero_le _,fun x hx=>absurd hx (List.not_mem_nil)⟩
theorem XQ {us:List Int} (h:∀u∈us,1≤u∧u≤999):rP (us.flatMap two):=fun x hx=>by
 obtain ⟨u,hu,hx⟩:=List.mem_flatMap.1 hx
 have:=h u hu
 exact Ip (by omega) (by omega) x hx
theorem LA.body {o:OpC} (h:LA o):rP (jw o)∧(jw o).length≤500:=by
 have h1:=h.box
 have h2:=h.to'
 have h3:=h.mode
 have h4:=h.ro
 have h5:=h4.kind
 have h6:=h4.few
 have h7:=h4.flags
 have h8:=h4.date
 have h9:=h4.data
 refine ⟨?_,by rw [Ce]; omega⟩
 unfold jw
 exact tF (by omega) (tF (by omega) (CL h1.2 (tF (by omega) (CL h2.2 (tF (by omega) (CL (XQ (D5 h4.adG)) (tF (by omega) (tF (by omega) (CL (Ip h8.1 (by omega)) (CL (Ip (by omega) (by omega)) h.data))))))))))
theorem LA.head {o:OpC} (h:LA o):rP (yu o)∧(yu o).length≤502:=by
 have:=h.body
 exact ⟨CL (Ip (by omega) (by omega)) this.1,by rw [PE]; omega⟩
def qw (o:OpC):List Int:=o.1 :: (o.2.1.length:Int) :: (o.2.1++(o.2.2.1.length:Int) :: (o.2.2.1++[(o.2.2.2.1.length:Int)]))
def Nf (o:OpC):List Int:=o.2.2.2.2.1 :: o.2.2.2.2.2.1 :: (two o.2.2.2.2.2.2.1++(two (o.2.2.2.2.2.2.2.1.length:Int)++o.2.2.2.2.2.2.2.1))
theorem Jg (o:OpC):jw o=qw o++(o.2.2.2.1.flatMap two++Nf o):=by simp [jw,qw,Nf]
theorem MN (us:List Int) {i:Nat} (hi:i<us.length):(us.take (i+1)).flatMap two=(us.take i).flatMap two++two us[i]:=by
 rw [List.take_succ_eq_append_getElem hi,List.flatMap_append,List.flatMap_cons,List.flatMap_nil,List.append_nil]
theorem Mt {n:Nat} {o:OpC} (h:LA o) (hn:big<n):qy n o=some (dK o,()):=by
 have h1:=h.box
 have h2:=h.to'
 have h3:=h.mode
 have h4:=h.ro
 have h5:=h4.kind
 have h6:=h4.few
 have h7:=h4.flags
 have h8:=h4.date
 have h9:=h4.data
 have hb:=h.body
 have hh:=h.head
 have hu:=D5 h4.adG
 have hs:=DY (yu o)
 unfold big at hn
 unfold qy
 rw [wrap_u8 (x:=o.1) (by omega) (by omega),wrap_u8 (x:=(o.2.1.length:Int)) (by omega) (by omega),wrap_u8 (x:=(o.2.2.1.length:Int)) (by omega) (by omega),wrap_u8 (x:=(o.2.2.2.1.length:Int)) (by omega) (by omega)]
 rw [if_pos (by simp only [List.length_append,List.length_cons,List.length_nil]; omega),if_pos (by simp only [List.length_append,List.length_cons,List.length_nil]; omega),if_pos (by simp only [List.length_append,List.length_cons,List.length_nil]; omega),if_pos (by simp only [List.length_append,List.length_cons,List.length_nil]; omega)]
 have ef:((([o.1,(o.2.1.length:Int)]++o.2.1)++[(o.2.2.1.length:Int)])++o.2.2.1)++[(o.2.2.2.1.length:Int)]=qw o:=by simp [qw]
 have lf:(qw o).length≤100:=by simp only [qw,List.length_append,List.length_cons,List.length_nil]; omega
 rw [ef]
 refine (aR (fun i=>(o.2.2.2.1,(o.2.2.2.1.length:Int),(i:Int),o,qw o++(o.2.2.2.1.take i).flatMap two,())) (fun _=>none) (some (dK o,())) (m:=o.2.2.2.1.length) (by simp) (by omega) ?_ ?_).trans (bL (fun _ _ _=>rfl))
 ·intro L i hi _
  have hr:=hu _ (List.getElem_mem hi)
  simp only [Int.ofNat_lt,hi,decide_true,if_true,aG hi,dO hi,aN hi (by omega),zU (n:=n) (show 0≤o.2.2.2.1[i] by omega) (by omega),Option.bind_some,MN _ hi,List.append_assoc]
  rw [if_pos (by simp only [List.length_append,Cf,kK,List.length_take]; omega)]
 ·intro L _
  have lb:((qw o++o.2.2.2.1.flatMap two).length:Nat)≤200:=by simp only [List.length_append,Cf]; omega
  simp only [Int.lt_irrefl,decide_false,Bool.false_eq_true,if_false,List.take_length]
  rw [if_pos (by simp only [List.length_cons,List.length_nil]; omega),zU h8.1 (by omega)]
  simp only [Option.bind_some]
  rw [if_pos (by simp only [List.length_append,List.length_cons,List.length_nil,kK] at lb ⊢; omega)]
  unfold cB
  simp only [Option.bind_some]
  rw [zU (by omega) (by omega)]
  simp only [Option.bind_some]
  rw [if_pos (by simp only [List.length_append,List.length_cons,List.length_nil,kK] at lb ⊢; omega),if_pos (by simp only [List.length_append,List.length_cons,List.length_nil,kK] at lb ⊢; omega)]
  rw [wrap_u8 (x:=o.2.2.2.2.1) (by omega) (by omega),wrap_u8 (x:=o.2.2.2.2.2.1) (by omega) (by omega)]
  have eb:((((qw o++o.2.2.2.1.flatMap two)++[o.2.2.2.2.1,o.2.2.2.2.2.1])++two o.2.2.2.2.2.2.1)++two (o.2.2.2.2.2.2.2.1.length:Int))++o.2.2.2.2.2.2.2.1=jw o:=by rw [Jg]; simp [Nf]
  rw [eb,wrap_i64 (x:=((jw o).length:Int)+4) (by omega) (by omega),zU (by omega) (by omega)]
  simp only [Option.bind_some]
  rw [if_pos (by rw [kK]; omega)]
  have eh:two (((jw o).length:Int)+4)++jw o=yu o:=rfl
  rw [eh,YF hh.1 (by unfold big; omega) (by unfold big; omega)]
  simp only [Option.bind_some]
  rw [zU hs.1 (by omega)]
  simp only [Option.bind_some]
  rw [if_pos (by rw [kK]; omega)]
  rfl
theorem Gi {n:Nat} {o:OpC} (h:LA o) (hn:big<n):nM n o=some (dK o,()):=by
 have h1:=h.box
 have h2:=h.to'
 have h3:=h.mode
 have h4:=h.ro
 have h5:=h4.kind
 have h6:=h4.few
 have h7:=h4.flags
 have h8:=h4.date
 have h9:=h4.data
 have hb:=h.body
 have hh:=h.head
 have hu:=D5 h4.adG
 have hs:=DY (yu o)
 unfold big at hn
 unfold nM
 rw [wrap_u8 (x:=o.1) (by omega) (by omega),wrap_u8 (x:=(o.2.1.length:Int)) (by omega) (by omega),wrap_u8 (x:=(o.2.2.1.length:Int)) (by omega) (by omega),wrap_u8 (x:=(o.2.2.2.1.length:Int)) (by omega) (by omega)]
 rw [if_pos (by simp only [List.length_append,List.length_cons,List.length_nil]; omega),if_pos (by simp only [List.length_append,List.length_cons,List.length_nil]; omega),if_pos (by simp only [List.length_append,List.length_cons,List.length_nil]; omega),if_pos (by simp only [List.length_append,List.length_cons,List.length_nil]; omega)]
 have ef:((([(0:Int),(0:Int),o.1,(o.2.1.length:Int)]++o.2.1)++[(o.2.2.1.length:Int)])++o.2.2.1)++[(o.2.2.2.1.length:Int)]=0 :: 0 :: qw o:=by simp [qw]
 have lf:(0 :: 0 :: qw o).length≤100:=by simp only [qw,List.length_append,List.length_cons,List.length_nil]; omega
 rw [ef]
 refine (aR (fun i=>(o,(i:Int),(0 :: 0 :: qw o)++(o.2.2.2.1.take i).flatMap two,())) (fun _=>none) (some (dK o,())) (m:=o.2.2.2.1.length) (by simp) (by omega) ?_ ?_).trans (bL (fun _ _ _=>rfl))
 ·intro L i hi _
  have hr:=hu _ (List.getElem_mem hi)
  simp only [Int.ofNat_lt,hi,decide_true,if_true,aG hi,dO hi,aN hi (by omega),Cw (n:=n) (show 0≤o.2.2.2.1[i] by omega) (by omega),Option.bind_some,MN _ hi,List.append_assoc]
  rw [if_pos (by simp only [List.length_append,Cf,kK,List.length_take] at lf ⊢; omega)]
 ·intro L _
  have lb:((0 :: 0 :: qw o)++o.2.2.2.1.flatMap two).length≤200:=by rw [List.length_append,Cf]; omega
  simp only [Int.lt_irrefl,decide_false,Bool.false_eq_true,if_false,List.take_length]
  rw [if_pos (by simp only [List.length_cons,List.length_nil] at lb ⊢; omega),Cw h8.1 (by omega)]
  simp only [Option.bind_some]
  rw [if_pos (by simp only [List.length_append,List.length_cons,List.length_nil,kK] at lb ⊢; omega),Cw (by omega) (by omega)]
  simp only [Option.bind_some]
  rw [if_pos (by simp only [List.length_append,List.length_cons,List.length_nil,kK] at lb ⊢; omega),if_pos (by simp only [List.length_append,List.length_cons,List.length_nil,kK] at lb ⊢; omega)]
  rw [wrap_u8 (x:=o.2.2.2.2.1) (by omega) (by omega),wrap_u8 (x:=o.2.2.2.2.2.1) (by omega) (by omega)]
  have eb:(((((0 :: 0 :: qw o)++o.2.2.2.1.flatMap two)++[o.2.2.2.2.1,o.2.2.2.2.2.1])++two o.2.2.2.2.2.2.1)++two (o.2.2.2.2.2.2.2.1.length:Int))++o.2.2.2.2.2.2.2.1=0 :: 0 :: jw o:=by rw [Jg]; simp [Nf]
  have el:((0 :: 0 :: jw o).length:Int)+2=((jw o).length:Int)+4:=by simp only [List.length_cons]; omega
  rw [eb,el,wrap_i64 (x:=((jw o).length:Int)+4) (by omega) (by omega),Cw (by omega) (by omega)]
  simp only [Option.bind_some]
  rw [if_pos (by rw [kK]; simp only [List.length_cons]; omega)]
  have eh:two (((jw o).length:Int)+4)++(0 :: 0 :: jw o).drop (two (((jw o).length:Int)+4)).length=yu o:=rfl
  rw [eh,YH hh.1 (by unfold big; omega) (by unfold big; omega)]
  simp only [Option.bind_some]
  rw [Cw hs.1 (by omega)]
  simp only [Option.bind_some]
  rw [if_pos (by rw [kK]; omega)]
  rfl
end Go.Proofs.YtailcbngagacaabGreat.rE
