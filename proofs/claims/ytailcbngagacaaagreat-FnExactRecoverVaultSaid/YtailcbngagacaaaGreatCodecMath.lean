/- Packing and reading of ops, on both sides. -/
import Derived.Test.YtailcbngagacaaaGreatOwF
import Derived.Test.YtailcbngagacaaaGreatLoopLib
import Derived.Test.YtailcbngagacaaaGreatPackLib
import Derived.Test.YtailcbngagacaaaGreatStoreMath
import Derived.Test.YtailcbngagacaaaGreatOpsMath
import Derived.Test.YtailcbngagacaaaGreatGoodMath
import Derived.Test.YtailcbngagacaaaGreatRecF
set_option linter.unusedSectionVars false
set_option linter.unusedVariables false
set_option linter.unusedSimpArgs false
namespace Go.Proofs.YtailcbngagacaaaGreat.tY
open Go Go.Proofs.YtailcbngagacaaaGreat.Ow Go.Proofs.YtailcbngagacaaaGreat.FD Go.Proofs.YtailcbngagacaaaGreat.qM Go.Proofs.YtailcbngagacaaaGreat.zU Go.Proofs.YtailcbngagacaaaGreat.lN Go.Proofs.YtailcbngagacaaaGreat.og Go.Proofs.YtailcbngagacaaaGreat.yT
def rH (l:List Int):Prop:=∀x∈l,0≤x∧x≤255
theorem zm {l:List Int} (h:rH l) (k:Nat):rH (l.take k):=fun x hx=>h x (List.mem_of_mem_take hx)
theorem zl {l:List Int} (h:rH l) (k:Nat):rH (l.drop k):=fun x hx=>h x (List.mem_of_mem_drop hx)
theorem Cw {l m:List Int} (h:rH l) (h':rH m):rH (l++m):=fun x hx=>(List.mem_append.1 hx).elim (h x) (h' x)
theorem sW {x:Int} {m:List Int} (h:0≤x∧x≤255) (h':rH m):rH (x :: m):=fun y hy=>(List.mem_cons.1 hy).elim (fun e=>e▸h) (h' y)
theorem XA (k:Nat):rH (List.replicate k 0):=fun x hx=>by rw [(List.mem_replicate.1 hx).2]; omega
theorem Ib {n:Int} (h0:0≤n) (h1:n≤65535):rH (two n):=sW (by omega) (sW (by omega) (fun x hx=>absurd hx (List.not_mem_nil)))
theorem xq {l:List Int} (h:rH l) (i:Nat):0≤l.getD i 0∧l.getD i 0≤255:=by
 by_cases hi:i<l.length
 ·rw [getD_lt hi]; exact h _ (List.getElem_mem hi)
 ·rw [List.getD_eq_getElem?_getD,List.getElem?_eq_none (by omega)]
  exact ⟨Int.le_refl _,by show (0:Int)≤255; omega⟩
theorem wrap_u8 {x:Int} (h1:0≤x) (h2:x≤255):IntKind.u8.wrap x=x:=by
 simp [IntKind.wrap,IntKind.bits,IntKind.signed]
 omega
theorem zI {n:Nat} {x:Int} (h0:0≤x) (h1:x≤65535):oV n x=some (two x,()):=by
 unfold oV two
 rw [Int.tdiv_eq_ediv_of_nonneg h0,Int.tmod_eq_emod_of_nonneg h0,wrap_i64 (by omega) (by omega),wrap_u8 (by omega) (by omega),wrap_u8 (by omega) (by omega)]
 rfl
theorem Cn {n:Nat} {x:Int} (h0:0≤x) (h1:x≤65535):mO n x=some (two x,()):=zI (n:=n) h0 h1
theorem Mo (l:List Int) (x:Int):Bg (l++[x])=(Bg l * 31+x) % 65521:=by simp [Bg]
theorem DK:∀(l:List Int),0≤Bg l∧Bg l≤65520:=fun l=>by
 rcases List.eq_nil_or_concat l with rfl | ⟨m,x,rfl⟩
 ·exact ⟨by decide,by decide⟩
 ·rw [List.concat_eq_append,Mo]; omega
theorem P8 {l:List Int} (h:rH l) {i:Nat} (hi:i<l.length):(IntKind.i64.wrap ((IntKind.i64.wrap (Bg (l.take i) * (31:Int)))+(IntKind.i64.wrap l[i]))).tmod (65521:Int)=Bg (l.take (i+1)):=by
 have h1:=DK (l.take i)
 have h2:=h _ (List.getElem_mem hi)
 rw [List.take_succ_eq_append_getElem hi,Mo,wrap_i64 (x:=Bg (l.take i) * 31) (by omega) (by omega),wrap_i64 (x:=l[i]) (by omega) (by omega),wrap_i64 (by omega) (by omega),Int.tmod_eq_emod_of_nonneg (by omega)]
theorem Yp {n:Nat} {l:List Int} (h:rH l) (hb:l.length≤big) (hn:big<n):wm n l=some (Bg l,()):=by
 have hb':l.length≤1048576:=hb
 unfold wm
 refine (aR (fun i=>(Bg (l.take i),l,(l.length:Int),(i:Int),())) (fun _=>none) (some (Bg l,())) (m:=l.length) rfl (by omega) ?_ ?_).trans (bL (fun _ _ _=>rfl))
 ·intro L i hi _
  simp only [Int.ofNat_lt,hi,decide_true,if_true,aG hi,eT hi,aS hi (by omega),P8 h hi]
  rfl
 ·intro L _
  simp
theorem Yr {n:Nat} {l:List Int} (h:rH l) (hb:l.length≤big) (hn:big<n):wo n l=some (Bg l,()):=by
 have hb':l.length≤1048576:=hb
 unfold wo
 refine (aR (fun i=>(l,Bg (l.take i),(i:Int),())) (fun _=>none) (some (Bg l,())) (m:=l.length) rfl (by omega) ?_ ?_).trans (bL (fun _ _ _=>rfl))
 ·intro L i hi _
  simp only [Int.ofNat_lt,hi,decide_true,if_true,aG hi,eT hi,aS hi (by omega),P8 h hi]
  rfl
 ·intro L _
  simp
theorem BH {R:Type} {p:Nat→Bool} {r fin:R} (hne:r≠fin):∀{m i:Nat},cZ (fun j=>if p j=true then some r else none) fin m i=fin→∀j,i≤j→j<i+m→p j=false
 | 0,i,_,j,h1,h2=>by omega
 | m+1,i,h,j,h1,h2=>by
  rw [cZ] at h
  cases hp:p i with
  | true=>rw [hp] at h; exact absurd h hne
  | false=>
   rw [hp] at h
   by_cases e:j=i
   ·rw [e]; exact hp
   ·exact BH hne h j (by omega) (by omega)
theorem DN {us:List Int} (h:EU us=true):∀u∈us,1≤u∧u≤999:=by
 intro u hu
 obtain ⟨j,hj,rfl⟩:=List.mem_iff_getElem.1 hu
 have h1:=Kz us
 rw [h] at h1
 have h2:=BH (by simp) h1 j (Nat.zero_le _) (by omega)
 unfold I1 at h2
 rw [getD_lt hj] at h2
 have:=(Bool.or_eq_false_iff.1 h2).1
 simpa using this
structure Qd (o:OpC):Prop where
 ro:RO o
 data:rH o.2.2.2.2.2.2.2.1
theorem Qd.mode {o:OpC} (h:Qd o):0≤o.2.2.2.2.1∧o.2.2.2.2.1≤3:=by
 by_cases h4:o.1=4
 ·have:=h.ro.mode h4; omega
 ·have:=h.ro.form
  unfold BI at this
  simp only [Bool.and_eq_true,Bool.or_eq_true,decide_eq_true_eq,h4,false_or] at this
  have:=this.2.2.1
  omega
theorem Qd.box {o:OpC} (h:Qd o):o.2.1.length≤8∧rH o.2.1:=⟨h.ro.box.1.2,fun c hc=>by have:=h.ro.box.2 c hc; omega⟩
theorem Qd.to' {o:OpC} (h:Qd o):o.2.2.1.length≤8∧rH o.2.2.1:=by
 by_cases h4:o.1=5∨o.1=6
 ·have:=h.ro.to' h4
  exact ⟨this.1.2,fun c hc=>by have:=this.2 c hc; omega⟩
 ·have h5:o.1≠5:=fun e=>h4 (.inl e)
  have h6:o.1≠6:=fun e=>h4 (.inr e)
  have:=h.ro.form
  unfold BI at this
  simp only [Bool.and_eq_true,Bool.or_eq_true,decide_eq_true_eq,h5,h6,false_or] at this
  rw [this.1]
  exact ⟨Nat.zero_le _,fun x hx=>absurd hx (List.not_mem_nil)⟩
theorem Xz {us:List Int} (h:∀u∈us,1≤u∧u≤999):rH (us.flatMap two):=fun x hx=>by
 obtain ⟨u,hu,hx⟩:=List.mem_flatMap.1 hx
 have:=h u hu
 exact Ib (by omega) (by omega) x hx
theorem Qd.body {o:OpC} (h:Qd o):rH (jw o)∧(jw o).length≤500:=by
 have h1:=h.box
 have h2:=h.to'
 have h3:=h.mode
 have h4:=h.ro
 have h5:=h4.kind
 have h6:=h4.few
 have h7:=h4.flags
 have h8:=h4.date
 have h9:=h4.data
 refine ⟨?_,by rw [BS]; omega⟩
 unfold jw
 exact sW (by omega) (sW (by omega) (Cw h1.2 (sW (by omega) (Cw h2.2 (sW (by omega) (Cw (Xz (DN h4.adj)) (sW (by omega) (sW (by omega) (Cw (Ib h8.1 (by omega)) (Cw (Ib (by omega) (by omega)) h.data))))))))))
theorem Qd.head {o:OpC} (h:Qd o):rH (yf o)∧(yf o).length≤502:=by
 have:=h.body
 exact ⟨Cw (Ib (by omega) (by omega)) this.1,by rw [Pn]; omega⟩
def qy (o:OpC):List Int:=o.1 :: (o.2.1.length:Int) :: (o.2.1++(o.2.2.1.length:Int) :: (o.2.2.1++[(o.2.2.2.1.length:Int)]))
def MU (o:OpC):List Int:=o.2.2.2.2.1 :: o.2.2.2.2.2.1 :: (two o.2.2.2.2.2.2.1++(two (o.2.2.2.2.2.2.2.1.length:Int)++o.2.2.2.2.2.2.2.1))
theorem I5 (o:OpC):jw o=qy o++(o.2.2.2.1.flatMap two++MU o):=by simp [jw,qy,MU]
theorem Ms (us:List Int) {i:Nat} (hi:i<us.length):(us.take (i+1)).flatMap two=(us.take i).flatMap two++two us[i]:=by
 rw [List.take_succ_eq_append_getElem hi,List.flatMap_append,List.flatMap_cons,List.flatMap_nil,List.append_nil]
theorem U8 {n:Nat} {o:OpC} (h:Qd o) (hn:big<n):uM n o=some (fI o,()):=by
 have h1:=h.box
 have h2:=h.to'
 have h3:=h.mode
 have h4:=h.ro
 have h5:=h4.kind
 have h6:=h4.few
 have h7:=h4.flags
 have h8:=h4.date
 have h9:=h4.data
 have hb:=h.body
 have hh:=h.head
 have hu:=DN h4.adj
 have hs:=DK (yf o)
 unfold big at hn
 unfold uM
 rw [wrap_u8 (x:=o.1) (by omega) (by omega),wrap_u8 (x:=(o.2.1.length:Int)) (by omega) (by omega),wrap_u8 (x:=(o.2.2.1.length:Int)) (by omega) (by omega),wrap_u8 (x:=(o.2.2.2.1.length:Int)) (by omega) (by omega)]
 rw [if_pos (by simp only [List.length_append,List.length_cons,List.length_nil]; omega),if_pos (by simp only [List.length_append,List.length_cons,List.length_nil]; omega),if_pos (by simp only [List.length_append,List.length_cons,List.length_nil]; omega),if_pos (by simp only [List.length_append,List.length_cons,List.length_nil]; omega)]
 have ef:((([o.1,(o.2.1.length:Int)]++o.2.1)++[(o.2.2.1.length:Int)])++o.2.2.1)++[(o.2.2.2.1.length:Int)]=qy o:=by simp [qy]
 have lf:(qy o).length≤100:=by simp only [qy,List.length_append,List.length_cons,List.length_nil]; omega
 rw [ef]
 refine (aR (fun i=>(o.2.2.2.1,(o.2.2.2.1.length:Int),(i:Int),o,qy o++(o.2.2.2.1.take i).flatMap two,())) (fun _=>none) (some (fI o,())) (m:=o.2.2.2.1.length) (by simp) (by omega) ?_ ?_).trans (bL (fun _ _ _=>rfl))
 ·intro L i hi _
  have hr:=hu _ (List.getElem_mem hi)
  simp only [Int.ofNat_lt,hi,decide_true,if_true,aG hi,eT hi,aS hi (by omega),zI (n:=n) (show 0≤o.2.2.2.1[i] by omega) (by omega),Option.bind_some,Ms _ hi,List.append_assoc]
  rw [if_pos (by simp only [List.length_append,BU,kN,List.length_take]; omega)]
 ·intro L _
  have lb:((qy o++o.2.2.2.1.flatMap two).length:Nat)≤200:=by simp only [List.length_append,BU]; omega
  simp only [Int.lt_irrefl,decide_false,Bool.false_eq_true,if_false,List.take_length]
  rw [if_pos (by simp only [List.length_cons,List.length_nil]; omega),zI h8.1 (by omega)]
  simp only [Option.bind_some]
  rw [if_pos (by simp only [List.length_append,List.length_cons,List.length_nil,kN] at lb ⊢; omega)]
  unfold cB
  simp only [Option.bind_some]
  rw [zI (by omega) (by omega)]
  simp only [Option.bind_some]
  rw [if_pos (by simp only [List.length_append,List.length_cons,List.length_nil,kN] at lb ⊢; omega),if_pos (by simp only [List.length_append,List.length_cons,List.length_nil,kN] at lb ⊢; omega)]
  rw [wrap_u8 (x:=o.2.2.2.2.1) (by omega) (by omega),wrap_u8 (x:=o.2.2.2.2.2.1) (by omega) (by omega)]
  have eb:((((qy o++o.2.2.2.1.flatMap two)++[o.2.2.2.2.1,o.2.2.2.2.2.1])++two o.2.2.2.2.2.2.1)++two (o.2.2.2.2.2.2.2.1.length:Int))++o.2.2.2.2.2.2.2.1=jw o:=by rw [I5]; simp [MU]
  rw [eb,wrap_i64 (x:=((jw o).length:Int)+4) (by omega) (by omega),zI (by omega) (by omega)]
  simp only [Option.bind_some]
  rw [if_pos (by rw [kN]; omega)]
  have eh:two (((jw o).length:Int)+4)++jw o=yf o:=rfl
  rw [eh,Yp hh.1 (by unfold big; omega) (by unfold big; omega)]
  simp only [Option.bind_some]
  rw [zI hs.1 (by omega)]
  simp only [Option.bind_some]
  rw [if_pos (by rw [kN]; omega)]
  rfl
theorem Ma {n:Nat} {o:OpC} (h:Qd o) (hn:big<n):uW n o=some (fI o,()):=by
 have h1:=h.box
 have h2:=h.to'
 have h3:=h.mode
 have h4:=h.ro
 have h5:=h4.kind
 have h6:=h4.few
 have h7:=h4.flags
 have h8:=h4.date
 have h9:=h4.data
 have hb:=h.body
 have hh:=h.head
 have hu:=DN h4.adj
 have hs:=DK (yf o)
 unfold big at hn
 unfold uW
 rw [wrap_u8 (x:=o.1) (by omega) (by omega),wrap_u8 (x:=(o.2.1.length:Int)) (by omega) (by omega),wrap_u8 (x:=(o.2.2.1.length:Int)) (by omega) (by omega),wrap_u8 (x:=(o.2.2.2.1.length:Int)) (by omega) (by omega)]
 rw [if_pos (by simp only [List.length_append,List.length_cons,List.length_nil]; omega),if_pos (by simp only [List.length_append,List.length_cons,List.length_nil]; omega),if_pos (by simp only [List.length_append,List.length_cons,List.length_nil]; omega),if_pos (by simp only [List.length_append,List.length_cons,List.length_nil]; omega)]
 have ef:((([(0:Int),(0:Int),o.1,(o.2.1.length:Int)]++o.2.1)++[(o.2.2.1.length:Int)])++o.2.2.1)++[(o.2.2.2.1.length:Int)]=0 :: 0 :: qy o:=by simp [qy]
 have lf:(0 :: 0 :: qy o).length≤100:=by simp only [qy,List.length_append,List.length_cons,List.length_nil]; omega
 rw [ef]
 refine (aR (fun i=>(o,(i:Int),(0 :: 0 :: qy o)++(o.2.2.2.1.take i).flatMap two,())) (fun _=>none) (some (fI o,())) (m:=o.2.2.2.1.length) (by simp) (by omega) ?_ ?_).trans (bL (fun _ _ _=>rfl))
 ·intro L i hi _
  have hr:=hu _ (List.getElem_mem hi)
  simp only [Int.ofNat_lt,hi,decide_true,if_true,aG hi,eT hi,aS hi (by omega),Cn (n:=n) (show 0≤o.2.2.2.1[i] by omega) (by omega),Option.bind_some,Ms _ hi,List.append_assoc]
  rw [if_pos (by simp only [List.length_append,BU,kN,List.length_take] at lf ⊢; omega)]
 ·intro L _
  have lb:((0 :: 0 :: qy o)++o.2.2.2.1.flatMap two).length≤200:=by rw [List.length_append,BU]; omega
  simp only [Int.lt_irrefl,decide_false,Bool.false_eq_true,if_false,List.take_length]
  rw [if_pos (by simp only [List.length_cons,List.length_nil] at lb ⊢; omega),Cn h8.1 (by omega)]
  simp only [Option.bind_some]
  rw [if_pos (by simp only [List.length_append,List.length_cons,List.length_nil,kN] at lb ⊢; omega),Cn (by omega) (by omega)]
  simp only [Option.bind_some]
  rw [if_pos (by simp only [List.length_append,List.length_cons,List.length_nil,kN] at lb ⊢; omega),if_pos (by simp only [List.length_append,List.length_cons,List.length_nil,kN] at lb ⊢; omega)]
  rw [wrap_u8 (x:=o.2.2.2.2.1) (by omega) (by omega),wrap_u8 (x:=o.2.2.2.2.2.1) (by omega) (by omega)]
  have eb:(((((0 :: 0 :: qy o)++o.2.2.2.1.flatMap two)++[o.2.2.2.2.1,o.2.2.2.2.2.1])++two o.2.2.2.2.2.2.1)++two (o.2.2.2.2.2.2.2.1.length:Int))++o.2.2.2.2.2.2.2.1=0 :: 0 :: jw o:=by rw [I5]; simp [MU]
  have el:((0 :: 0 :: jw o).length:Int)+2=((jw o).length:Int)+4:=by simp only [List.length_cons]; omega
  rw [eb,el,wrap_i64 (x:=((jw o).length:Int)+4) (by omega) (by omega),Cn (by omega) (by omega)]
  simp only [Option.bind_some]
  rw [if_pos (by rw [kN]; simp only [List.length_cons]; omega)]
  have eh:two (((jw o).length:Int)+4)++(0 :: 0 :: jw o).drop (two (((jw o).length:Int)+4)).length=yf o:=rfl
  rw [eh,Yr hh.1 (by unfold big; omega) (by unfold big; omega)]
  simp only [Option.bind_some]
  rw [Cn hs.1 (by omega)]
  simp only [Option.bind_some]
  rw [if_pos (by rw [kN]; omega)]
  rfl
end Go.Proofs.YtailcbngagacaaaGreat.tY
