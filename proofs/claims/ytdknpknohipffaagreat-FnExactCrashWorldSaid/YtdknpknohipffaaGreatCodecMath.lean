/- Packing and reading of ops, on both sides. -/
import Derived.Test.YtdknpknohipffaaGreatOwF
import Derived.Test.YtdknpknohipffaaGreatLoopLib
import Derived.Test.YtdknpknohipffaaGreatPackLib
import Derived.Test.YtdknpknohipffaaGreatStoreMath
import Derived.Test.YtdknpknohipffaaGreatOpsMath
import Derived.Test.YtdknpknohipffaaGreatGoodMath
import Derived.Test.YtdknpknohipffaaGreatCwF
set_option linter.unusedSectionVars false
set_option linter.unusedVariables false
set_option linter.unusedSimpArgs false
namespace Go.Proofs.YtdknpknohipffaaGreat.lZ
open Go Go.Proofs.YtdknpknohipffaaGreat.Ow Go.Proofs.YtdknpknohipffaaGreat.RG Go.Proofs.YtdknpknohipffaaGreat.kN Go.Proofs.YtdknpknohipffaaGreat.CO Go.Proofs.YtdknpknohipffaaGreat.gL Go.Proofs.YtdknpknohipffaaGreat.jV Go.Proofs.YtdknpknohipffaaGreat.Bu
def tZ (l:List Int):Prop:=∀x∈l,0≤x∧x≤255
theorem BZ {l:List Int} (h:tZ l) (k:Nat):tZ (l.take k):=fun x hx=>h x (List.mem_of_mem_take hx)
theorem BX {l:List Int} (h:tZ l) (k:Nat):tZ (l.drop k):=fun x hx=>h x (List.mem_of_mem_drop hx)
theorem FE {l m:List Int} (h:tZ l) (h':tZ m):tZ (l++m):=fun x hx=>(List.mem_append.1 hx).elim (h x) (h' x)
theorem ve {x:Int} {m:List Int} (h:0≤x∧x≤255) (h':tZ m):tZ (x :: m):=fun y hy=>(List.mem_cons.1 hy).elim (fun e=>e▸h) (h' y)
theorem aa1 (k:Nat):tZ (List.replicate k 0):=fun x hx=>by rw [(List.mem_replicate.1 hx).2]; omega
theorem Lf {n:Int} (h0:0≤n) (h1:n≤65535):tZ (two n):=ve (by omega) (ve (by omega) (fun x hx=>absurd hx (List.not_mem_nil)))
theorem zq {l:List Int} (h:tZ l) (i:Nat):0≤l.getD i 0∧l.getD i 0≤255:=by
 by_cases hi:i<l.length
 ·rw [getD_lt hi]; exact h _ (List.getElem_mem hi)
 ·rw [List.getD_eq_getElem?_getD,List.getElem?_eq_none (by omega)]
  exact ⟨Int.le_refl _,by show (0:Int)≤255; omega⟩
theorem wrap_u8 {x:Int} (h1:0≤x) (h2:x≤255):IntKind.u8.wrap x=x:=by
 simp [IntKind.wrap,IntKind.bits,IntKind.signed]
 omega
theorem Cu {n:Nat} {x:Int} (h0:0≤x) (h1:x≤65535):qz n x=some (two x,()):=by
 unfold qz two
 rw [Int.tdiv_eq_ediv_of_nonneg h0,Int.tmod_eq_emod_of_nonneg h0,wrap_i64 (by omega) (by omega),wrap_u8 (by omega) (by omega),wrap_u8 (by omega) (by omega)]
 rfl
theorem Fu {n:Nat} {x:Int} (h0:0≤x) (h1:x≤65535):nT n x=some (two x,()):=Cu (n:=n) h0 h1
theorem PW (l:List Int) (x:Int):Eb (l++[x])=(Eb l * 31+x) % 65521:=by simp [Eb]
theorem GQ:∀(l:List Int),0≤Eb l∧Eb l≤65520:=fun l=>by
 rcases List.eq_nil_or_concat l with rfl | ⟨m,x,rfl⟩
 ·exact ⟨by decide,by decide⟩
 ·rw [List.concat_eq_append,PW]; omega
theorem Ud {l:List Int} (h:tZ l) {i:Nat} (hi:i<l.length):(IntKind.i64.wrap ((IntKind.i64.wrap (Eb (l.take i) * (31:Int)))+(IntKind.i64.wrap l[i]))).tmod (65521:Int)=Eb (l.take (i+1)):=by
 have h1:=GQ (l.take i)
 have h2:=h _ (List.getElem_mem hi)
 rw [List.take_succ_eq_append_getElem hi,PW,wrap_i64 (x:=Eb (l.take i) * 31) (by omega) (by omega),wrap_i64 (x:=l[i]) (by omega) (by omega),wrap_i64 (by omega) (by omega),Int.tmod_eq_emod_of_nonneg (by omega)]
theorem abW {n:Nat} {l:List Int} (h:tZ l) (hb:l.length≤big) (hn:big<n):yz n l=some (Eb l,()):=by
 have hb':l.length≤1048576:=hb
 unfold yz
 refine (aM (fun i=>(Eb (l.take i),l,(l.length:Int),(i:Int),())) (fun _=>none) (some (Eb l,())) (m:=l.length) rfl (by omega) ?_ ?_).trans (bG (fun _ _ _=>rfl))
 ·intro L i hi _
  simp only [Int.ofNat_lt,hi,decide_true,if_true,aG hi,dR hi,aN hi (by omega),Ud h hi]
  rfl
 ·intro L _
  simp
theorem abY {n:Nat} {l:List Int} (h:tZ l) (hb:l.length≤big) (hn:big<n):yB n l=some (Eb l,()):=by
 have hb':l.length≤1048576:=hb
 unfold yB
 refine (aM (fun i=>(l,Eb (l.take i),(i:Int),())) (fun _=>none) (some (Eb l,())) (m:=l.length) rfl (by omega) ?_ ?_).trans (bG (fun _ _ _=>rfl))
 ·intro L i hi _
  simp only [Int.ofNat_lt,hi,decide_true,if_true,aG hi,dR hi,aN hi (by omega),Ud h hi]
  rfl
 ·intro L _
  simp
theorem EG {R:Type} {p:Nat→Bool} {r fin:R} (hne:r≠fin):∀{m i:Nat},bY (fun j=>if p j=true then some r else none) fin m i=fin→∀j,i≤j→j<i+m→p j=false
 | 0,i,_,j,h1,h2=>by omega
 | m+1,i,h,j,h1,h2=>by
  rw [bY] at h
  cases hp:p i with
  | true=>rw [hp] at h; exact absurd h hne
  | false=>
   rw [hp] at h
   by_cases e:j=i
   ·rw [e]; exact hp
   ·exact EG hne h j (by omega) (by omega)
theorem GU {us:List Int} (h:Fv us=true):∀u∈us,1≤u∧u≤999:=by
 intro u hu
 obtain ⟨j,hj,rfl⟩:=List.mem_iff_getElem.1 hu
 have h1:=Fw us
 rw [h] at h1
 have h2:=EG (by simp) h1 j (Nat.zero_le _) (by omega)
 unfold Mo at h2
 rw [getD_lt hj] at h2
 have:=(Bool.or_eq_false_iff.1 h2).1
 simpa using this
structure Ui (o:OpC):Prop where
 ro:RO o
 data:tZ o.2.2.2.2.2.2.2.1
theorem Ui.mode {o:OpC} (h:Ui o):0≤o.2.2.2.2.1∧o.2.2.2.2.1≤3:=by
 by_cases h4:o.1=4
 ·have:=h.ro.mode h4; omega
 ·have:=h.ro.form
  unfold EI at this
  simp only [Bool.and_eq_true,Bool.or_eq_true,decide_eq_true_eq,h4,false_or] at this
  have:=this.2.2.1
  omega
theorem Ui.box {o:OpC} (h:Ui o):o.2.1.length≤8∧tZ o.2.1:=⟨h.ro.box.1.2,fun c hc=>by have:=h.ro.box.2 c hc; omega⟩
theorem Ui.to' {o:OpC} (h:Ui o):o.2.2.1.length≤8∧tZ o.2.2.1:=by
 by_cases h4:o.1=5∨o.1=6
 ·have:=h.ro.to' h4
  exact ⟨this.1.2,fun c hc=>by have:=this.2 c hc; omega⟩
 ·have h5:o.1≠5:=fun e=>h4 (.inl e)
  have h6:o.1≠6:=fun e=>h4 (.inr e)
  have:=h.ro.form
  unfold EI at this
  simp only [Bool.and_eq_true,Bool.or_eq_true,decide_eq_true_eq,h5,h6,false_or] at this
  rw [this.1]
  exact ⟨Nat.zero_le _,fun x hx=>absurd hx (List.not_mem_nil)⟩
theorem aa0 {us:List Int} (h:∀u∈us,1≤u∧u≤999):tZ (us.flatMap two):=fun x hx=>by
 obtain ⟨u,hu,hx⟩:=List.mem_flatMap.1 hx
 have:=h u hu
 exact Lf (by omega) (by omega) x hx
theorem Ui.body {o:OpC} (h:Ui o):tZ (jO o)∧(jO o).length≤500:=by
 have h1:=h.box
 have h2:=h.to'
 have h3:=h.mode
 have h4:=h.ro
 have h5:=h4.kind
 have h6:=h4.few
 have h7:=h4.flags
 have h8:=h4.date
 have h9:=h4.data
 refine ⟨?_,by rw [ET]; omega⟩
 unfold jO
 exact ve (by omega) (ve (by omega) (FE h1.2 (ve (by omega) (FE h2.2 (ve (by omega) (FE (aa0 (GU h4.ag6)) (ve (by omega) (ve (by omega) (FE (Lf h8.1 (by omega)) (FE (Lf (by omega) (by omega)) h.data))))))))))
theorem Ui.head {o:OpC} (h:Ui o):tZ (Am o)∧(Am o).length≤502:=by
 have:=h.body
 exact ⟨FE (Lf (by omega) (by omega)) this.1,by rw [Tv]; omega⟩
def rY (o:OpC):List Int:=o.1 :: (o.2.1.length:Int) :: (o.2.1++(o.2.2.1.length:Int) :: (o.2.2.1++[(o.2.2.2.1.length:Int)]))
def Qv (o:OpC):List Int:=o.2.2.2.2.1 :: o.2.2.2.2.2.1 :: (two o.2.2.2.2.2.2.1++(two (o.2.2.2.2.2.2.2.1.length:Int)++o.2.2.2.2.2.2.2.1))
theorem Mr (o:OpC):jO o=rY o++(o.2.2.2.1.flatMap two++Qv o):=by simp [jO,rY,Qv]
theorem PZ (us:List Int) {i:Nat} (hi:i<us.length):(us.take (i+1)).flatMap two=(us.take i).flatMap two++two us[i]:=by
 rw [List.take_succ_eq_append_getElem hi,List.flatMap_append,List.flatMap_cons,List.flatMap_nil,List.append_nil]
theorem YG {n:Nat} {o:OpC} (h:Ui o) (hn:big<n):wO n o=some (fQ o,()):=by
 have h1:=h.box
 have h2:=h.to'
 have h3:=h.mode
 have h4:=h.ro
 have h5:=h4.kind
 have h6:=h4.few
 have h7:=h4.flags
 have h8:=h4.date
 have h9:=h4.data
 have hb:=h.body
 have hh:=h.head
 have hu:=GU h4.ag6
 have hs:=GQ (Am o)
 unfold big at hn
 unfold wO
 rw [wrap_u8 (x:=o.1) (by omega) (by omega),wrap_u8 (x:=(o.2.1.length:Int)) (by omega) (by omega),wrap_u8 (x:=(o.2.2.1.length:Int)) (by omega) (by omega),wrap_u8 (x:=(o.2.2.2.1.length:Int)) (by omega) (by omega)]
 rw [if_pos (by simp only [List.length_append,List.length_cons,List.length_nil]; omega),if_pos (by simp only [List.length_append,List.length_cons,List.length_nil]; omega),if_pos (by simp only [List.length_append,List.length_cons,List.length_nil]; omega),if_pos (by simp only [List.length_append,List.length_cons,List.length_nil]; omega)]
 have ef:((([o.1,(o.2.1.length:Int)]++o.2.1)++[(o.2.2.1.length:Int)])++o.2.2.1)++[(o.2.2.2.1.length:Int)]=rY o:=by simp [rY]
 have lf:(rY o).length≤100:=by simp only [rY,List.length_append,List.length_cons,List.length_nil]; omega
 rw [ef]
 refine (aM (fun i=>(o.2.2.2.1,(o.2.2.2.1.length:Int),(i:Int),o,rY o++(o.2.2.2.1.take i).flatMap two,())) (fun _=>none) (some (fQ o,())) (m:=o.2.2.2.1.length) (by simp) (by omega) ?_ ?_).trans (bG (fun _ _ _=>rfl))
 ·intro L i hi _
  have hr:=hu _ (List.getElem_mem hi)
  simp only [Int.ofNat_lt,hi,decide_true,if_true,aG hi,dR hi,aN hi (by omega),Cu (n:=n) (show 0≤o.2.2.2.1[i] by omega) (by omega),Option.bind_some,PZ _ hi,List.append_assoc]
  rw [if_pos (by simp only [List.length_append,EU,lU,List.length_take]; omega)]
 ·intro L _
  have lb:((rY o++o.2.2.2.1.flatMap two).length:Nat)≤200:=by simp only [List.length_append,EU]; omega
  simp only [Int.lt_irrefl,decide_false,Bool.false_eq_true,if_false,List.take_length]
  rw [if_pos (by simp only [List.length_cons,List.length_nil]; omega),Cu h8.1 (by omega)]
  simp only [Option.bind_some]
  rw [if_pos (by simp only [List.length_append,List.length_cons,List.length_nil,lU] at lb ⊢; omega)]
  unfold bN
  simp only [Option.bind_some]
  rw [Cu (by omega) (by omega)]
  simp only [Option.bind_some]
  rw [if_pos (by simp only [List.length_append,List.length_cons,List.length_nil,lU] at lb ⊢; omega),if_pos (by simp only [List.length_append,List.length_cons,List.length_nil,lU] at lb ⊢; omega)]
  rw [wrap_u8 (x:=o.2.2.2.2.1) (by omega) (by omega),wrap_u8 (x:=o.2.2.2.2.2.1) (by omega) (by omega)]
  have eb:((((rY o++o.2.2.2.1.flatMap two)++[o.2.2.2.2.1,o.2.2.2.2.2.1])++two o.2.2.2.2.2.2.1)++two (o.2.2.2.2.2.2.2.1.length:Int))++o.2.2.2.2.2.2.2.1=jO o:=by rw [Mr]; simp [Qv]
  rw [eb,wrap_i64 (x:=((jO o).length:Int)+4) (by omega) (by omega),Cu (by omega) (by omega)]
  simp only [Option.bind_some]
  rw [if_pos (by rw [lU]; omega)]
  have eh:two (((jO o).length:Int)+4)++jO o=Am o:=rfl
  rw [eh,abW hh.1 (by unfold big; omega) (by unfold big; omega)]
  simp only [Option.bind_some]
  rw [Cu hs.1 (by omega)]
  simp only [Option.bind_some]
  rw [if_pos (by rw [lU]; omega)]
  rfl
theorem PI {n:Nat} {o:OpC} (h:Ui o) (hn:big<n):xe n o=some (fQ o,()):=by
 have h1:=h.box
 have h2:=h.to'
 have h3:=h.mode
 have h4:=h.ro
 have h5:=h4.kind
 have h6:=h4.few
 have h7:=h4.flags
 have h8:=h4.date
 have h9:=h4.data
 have hb:=h.body
 have hh:=h.head
 have hu:=GU h4.ag6
 have hs:=GQ (Am o)
 unfold big at hn
 unfold xe
 rw [wrap_u8 (x:=o.1) (by omega) (by omega),wrap_u8 (x:=(o.2.1.length:Int)) (by omega) (by omega),wrap_u8 (x:=(o.2.2.1.length:Int)) (by omega) (by omega),wrap_u8 (x:=(o.2.2.2.1.length:Int)) (by omega) (by omega)]
 rw [if_pos (by simp only [List.length_append,List.length_cons,List.length_nil]; omega),if_pos (by simp only [List.length_append,List.length_cons,List.length_nil]; omega),if_pos (by simp only [List.length_append,List.length_cons,List.length_nil]; omega),if_pos (by simp only [List.length_append,List.length_cons,List.length_nil]; omega)]
 have ef:((([(0:Int),(0:Int),o.1,(o.2.1.length:Int)]++o.2.1)++[(o.2.2.1.length:Int)])++o.2.2.1)++[(o.2.2.2.1.length:Int)]=0 :: 0 :: rY o:=by simp [rY]
 have lf:(0 :: 0 :: rY o).length≤100:=by simp only [rY,List.length_append,List.length_cons,List.length_nil]; omega
 rw [ef]
 refine (aM (fun i=>(o,(i:Int),(0 :: 0 :: rY o)++(o.2.2.2.1.take i).flatMap two,())) (fun _=>none) (some (fQ o,())) (m:=o.2.2.2.1.length) (by simp) (by omega) ?_ ?_).trans (bG (fun _ _ _=>rfl))
 ·intro L i hi _
  have hr:=hu _ (List.getElem_mem hi)
  simp only [Int.ofNat_lt,hi,decide_true,if_true,aG hi,dR hi,aN hi (by omega),Fu (n:=n) (show 0≤o.2.2.2.1[i] by omega) (by omega),Option.bind_some,PZ _ hi,List.append_assoc]
  rw [if_pos (by simp only [List.length_append,EU,lU,List.length_take] at lf ⊢; omega)]
 ·intro L _
  have lb:((0 :: 0 :: rY o)++o.2.2.2.1.flatMap two).length≤200:=by rw [List.length_append,EU]; omega
  simp only [Int.lt_irrefl,decide_false,Bool.false_eq_true,if_false,List.take_length]
  rw [if_pos (by simp only [List.length_cons,List.length_nil] at lb ⊢; omega),Fu h8.1 (by omega)]
  simp only [Option.bind_some]
  rw [if_pos (by simp only [List.length_append,List.length_cons,List.length_nil,lU] at lb ⊢; omega),Fu (by omega) (by omega)]
  simp only [Option.bind_some]
  rw [if_pos (by simp only [List.length_append,List.length_cons,List.length_nil,lU] at lb ⊢; omega),if_pos (by simp only [List.length_append,List.length_cons,List.length_nil,lU] at lb ⊢; omega)]
  rw [wrap_u8 (x:=o.2.2.2.2.1) (by omega) (by omega),wrap_u8 (x:=o.2.2.2.2.2.1) (by omega) (by omega)]
  have eb:(((((0 :: 0 :: rY o)++o.2.2.2.1.flatMap two)++[o.2.2.2.2.1,o.2.2.2.2.2.1])++two o.2.2.2.2.2.2.1)++two (o.2.2.2.2.2.2.2.1.length:Int))++o.2.2.2.2.2.2.2.1=0 :: 0 :: jO o:=by rw [Mr]; simp [Qv]
  have el:((0 :: 0 :: jO o).length:Int)+2=((jO o).length:Int)+4:=by simp only [List.length_cons]; omega
  rw [eb,el,wrap_i64 (x:=((jO o).length:Int)+4) (by omega) (by omega),Fu (by omega) (by omega)]
  simp only [Option.bind_some]
  rw [if_pos (by rw [lU]; simp only [List.length_cons]; omega)]
  have eh:two (((jO o).length:Int)+4)++(0 :: 0 :: jO o).drop (two (((jO o).length:Int)+4)).length=Am o:=rfl
  rw [eh,abY hh.1 (by unfold big; omega) (by unfold big; omega)]
  simp only [Option.bind_some]
  rw [Fu hs.1 (by omega)]
  simp only [Option.bind_some]
  rw [if_pos (by rw [lU]; omega)]
  rfl
end Go.Proofs.YtdknpknohipffaaGreat.lZ
