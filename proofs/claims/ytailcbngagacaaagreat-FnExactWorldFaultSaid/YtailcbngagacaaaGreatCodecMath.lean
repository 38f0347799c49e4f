/- Packing and reading of ops, on both sides. -/
import Derived.Test.YtailcbngagacaaaGreatOwF
import Derived.Test.YtailcbngagacaaaGreatLoopLib
import Derived.Test.YtailcbngagacaaaGreatPackLib
import Derived.Test.YtailcbngagacaaaGreatStoreMath
import Derived.Test.YtailcbngagacaaaGreatOpsMath
import Derived.Test.YtailcbngagacaaaGreatGoodMath
import Derived.Test.YtailcbngagacaaaGreatWfF
set_option linter.unusedSectionVars false
set_option linter.unusedVariables false
set_option linter.unusedSimpArgs false
namespace Go.Proofs.YtailcbngagacaaaGreat.u7
open Go Go.Proofs.YtailcbngagacaaaGreat.Ow Go.Proofs.YtailcbngagacaaaGreat.UZ Go.Proofs.YtailcbngagacaaaGreat.tV Go.Proofs.YtailcbngagacaaaGreat.Bu Go.Proofs.YtailcbngagacaaaGreat.oz Go.Proofs.YtailcbngagacaaaGreat.pK Go.Proofs.YtailcbngagacaaaGreat.x9
def qA (l:List Int):Prop:=∀x∈l,0≤x∧x≤255
theorem yA {l:List Int} (h:qA l) (k:Nat):qA (l.take k):=fun x hx=>h x (List.mem_of_mem_take hx)
theorem yz {l:List Int} (h:qA l) (k:Nat):qA (l.drop k):=fun x hx=>h x (List.mem_of_mem_drop hx)
theorem BB {l m:List Int} (h:qA l) (h':qA m):qA (l++m):=fun x hx=>(List.mem_append.1 hx).elim (h x) (h' x)
theorem rE {x:Int} {m:List Int} (h:0≤x∧x≤255) (h':qA m):qA (x :: m):=fun y hy=>(List.mem_cons.1 hy).elim (fun e=>e▸h) (h' y)
theorem Wm (k:Nat):qA (List.replicate k 0):=fun x hx=>by rw [(List.mem_replicate.1 hx).2]; omega
theorem Gb {n:Int} (h0:0≤n) (h1:n≤65535):qA (two n):=rE (by omega) (rE (by omega) (fun x hx=>absurd hx (List.not_mem_nil)))
theorem wm {l:List Int} (h:qA l) (i:Nat):0≤l.getD i 0∧l.getD i 0≤255:=by
 by_cases hi:i<l.length
 ·rw [getD_lt hi]; exact h _ (List.getElem_mem hi)
 ·rw [List.getD_eq_getElem?_getD,List.getElem?_eq_none (by omega)]
  exact ⟨Int.le_refl _,by show (0:Int)≤255; omega⟩
theorem wrap_u8 {x:Int} (h1:0≤x) (h2:x≤255):IntKind.u8.wrap x=x:=by
 simp [IntKind.wrap,IntKind.bits,IntKind.signed]
 omega
theorem yN {n:Nat} {x:Int} (h0:0≤x) (h1:x≤65535):nN n x=some (two x,()):=by
 unfold nN two
 rw [Int.tdiv_eq_ediv_of_nonneg h0,Int.tmod_eq_emod_of_nonneg h0,wrap_i64 (by omega) (by omega),wrap_u8 (by omega) (by omega),wrap_u8 (by omega) (by omega)]
 rfl
theorem Bo {n:Nat} {x:Int} (h0:0≤x) (h1:x≤65535):lq n x=some (two x,()):=yN (n:=n) h0 h1
theorem K4 (l:List Int) (x:Int):Ad (l++[x])=(Ad l * 31+x) % 65521:=by simp [Ad]
theorem CG:∀(l:List Int),0≤Ad l∧Ad l≤65520:=fun l=>by
 rcases List.eq_nil_or_concat l with rfl | ⟨m,x,rfl⟩
 ·exact ⟨by decide,by decide⟩
 ·rw [List.concat_eq_append,K4]; omega
theorem OM {l:List Int} (h:qA l) {i:Nat} (hi:i<l.length):(IntKind.i64.wrap ((IntKind.i64.wrap (Ad (l.take i) * (31:Int)))+(IntKind.i64.wrap l[i]))).tmod (65521:Int)=Ad (l.take (i+1)):=by
 have h1:=CG (l.take i)
 have h2:=h _ (List.getElem_mem hi)
 rw [List.take_succ_eq_append_getElem hi,K4,wrap_i64 (x:=Ad (l.take i) * 31) (by omega) (by omega),wrap_i64 (x:=l[i]) (by omega) (by omega),wrap_i64 (by omega) (by omega),Int.tmod_eq_emod_of_nonneg (by omega)]
theorem Xl {n:Nat} {l:List Int} (h:qA l) (hb:l.length≤big) (hn:big<n):uT n l=some (Ad l,()):=by
 have hb':l.length≤1048576:=hb
 unfold uT
 refine (aR (fun i=>(Ad (l.take i),l,(l.length:Int),(i:Int),())) (fun _=>none) (some (Ad l,())) (m:=l.length) rfl (by omega) ?_ ?_).trans (bU (fun _ _ _=>rfl))
 ·intro L i hi _
  simp only [Int.ofNat_lt,hi,decide_true,if_true,aH hi,gG hi,aU hi (by omega),OM h hi]
  rfl
 ·intro L _
  simp
theorem Xn {n:Nat} {l:List Int} (h:qA l) (hb:l.length≤big) (hn:big<n):uU n l=some (Ad l,()):=by
 have hb':l.length≤1048576:=hb
 unfold uU
 refine (aR (fun i=>(l,Ad (l.take i),(i:Int),())) (fun _=>none) (some (Ad l,())) (m:=l.length) rfl (by omega) ?_ ?_).trans (bU (fun _ _ _=>rfl))
 ·intro L i hi _
  simp only [Int.ofNat_lt,hi,decide_true,if_true,aH hi,gG hi,aU hi (by omega),OM h hi]
  rfl
 ·intro L _
  simp
theorem AJ {R:Type} {p:Nat→Bool} {r fin:R} (hne:r≠fin):∀{m i:Nat},bX (fun j=>if p j=true then some r else none) fin m i=fin→∀j,i≤j→j<i+m→p j=false
 | 0,i,_,j,h1,h2=>by omega
 | m+1,i,h,j,h1,h2=>by
  rw [bX] at h
  cases hp:p i with
  | true=>rw [hp] at h; exact absurd h hne
  | false=>
   rw [hp] at h
   by_cases e:j=i
   ·rw [e]; exact hp
   ·exact AJ hne h j (by omega) (by omega)
theorem CK {us:List Int} (h:Bp us=true):∀u∈us,1≤u∧u≤999:=by
 intro u hu
 obtain ⟨j,hj,rfl⟩:=List.mem_iff_getElem.1 hu
 have h1:=Bq us
 rw [h] at h1
 have h2:=AJ (by simp) h1 j (Nat.zero_le _) (by omega)
 unfold He at h2
 rw [getD_lt hj] at h2
 have:=(Bool.or_eq_false_iff.1 h2).1
 simpa using this
structure OV (o:OpC):Prop where
 ro:RO o
 data:qA o.2.2.2.2.2.2.2.1
theorem OV.mode {o:OpC} (h:OV o):0≤o.2.2.2.2.1∧o.2.2.2.2.1≤3:=by
 by_cases h4:o.1=4
 ·have:=h.ro.mode h4; omega
 ·have:=h.ro.form
  unfold AL at this
  simp only [Bool.and_eq_true,Bool.or_eq_true,decide_eq_true_eq,h4,false_or] at this
  have:=this.2.2.1
  omega
theorem OV.box {o:OpC} (h:OV o):o.2.1.length≤8∧qA o.2.1:=⟨h.ro.box.1.2,fun c hc=>by have:=h.ro.box.2 c hc; omega⟩
theorem OV.to' {o:OpC} (h:OV o):o.2.2.1.length≤8∧qA o.2.2.1:=by
 by_cases h4:o.1=5∨o.1=6
 ·have:=h.ro.to' h4
  exact ⟨this.1.2,fun c hc=>by have:=this.2 c hc; omega⟩
 ·have h5:o.1≠5:=fun e=>h4 (.inl e)
  have h6:o.1≠6:=fun e=>h4 (.inr e)
  have:=h.ro.form
  unfold AL at this
  simp only [Bool.and_eq_true,Bool.or_eq_true,decide_eq_true_eq,h5,h6,false_or] at this
  rw [this.1]
  exact ⟨Nat.zero_le _,fun x hx=>absurd hx (List.not_mem_nil)⟩
theorem Wl {us:List Int} (h:∀u∈us,1≤u∧u≤999):qA (us.flatMap two):=fun x hx=>by
 obtain ⟨u,hu,hx⟩:=List.mem_flatMap.1 hx
 have:=h u hu
 exact Gb (by omega) (by omega) x hx
theorem OV.body {o:OpC} (h:OV o):qA (jg o)∧(jg o).length≤500:=by
 have h1:=h.box
 have h2:=h.to'
 have h3:=h.mode
 have h4:=h.ro
 have h5:=h4.kind
 have h6:=h4.few
 have h7:=h4.flags
 have h8:=h4.date
 have h9:=h4.data
 refine ⟨?_,by rw [AY]; omega⟩
 unfold jg
 exact rE (by omega) (rE (by omega) (BB h1.2 (rE (by omega) (BB h2.2 (rE (by omega) (BB (Wl (CK h4.ack)) (rE (by omega) (rE (by omega) (BB (Gb h8.1 (by omega)) (BB (Gb (by omega) (by omega)) h.data))))))))))
theorem OV.head {o:OpC} (h:OV o):qA (xq o)∧(xq o).length≤502:=by
 have:=h.body
 exact ⟨BB (Gb (by omega) (by omega)) this.1,by rw [N8]; omega⟩
def oZ (o:OpC):List Int:=o.1 :: (o.2.1.length:Int) :: (o.2.1++(o.2.2.1.length:Int) :: (o.2.2.1++[(o.2.2.2.1.length:Int)]))
def LC (o:OpC):List Int:=o.2.2.2.2.1 :: o.2.2.2.2.2.1 :: (two o.2.2.2.2.2.2.1++(two (o.2.2.2.2.2.2.2.1.length:Int)++o.2.2.2.2.2.2.2.1))
theorem Ho (o:OpC):jg o=oZ o++(o.2.2.2.1.flatMap two++LC o):=by simp [jg,oZ,LC]
theorem K7 (us:List Int) {i:Nat} (hi:i<us.length):(us.take (i+1)).flatMap two=(us.take i).flatMap two++two us[i]:=by
 rw [List.take_succ_eq_append_getElem hi,List.flatMap_append,List.flatMap_cons,List.flatMap_nil,List.append_nil]
theorem TQ {n:Nat} {o:OpC} (h:OV o) (hn:big<n):tq n o=some (fF o,()):=by
 have h1:=h.box
 have h2:=h.to'
 have h3:=h.mode
 have h4:=h.ro
 have h5:=h4.kind
 have h6:=h4.few
 have h7:=h4.flags
 have h8:=h4.date
 have h9:=h4.data
 have hb:=h.body
 have hh:=h.head
 have hu:=CK h4.ack
 have hs:=CG (xq o)
 unfold big at hn
 unfold tq
 rw [wrap_u8 (x:=o.1) (by omega) (by omega),wrap_u8 (x:=(o.2.1.length:Int)) (by omega) (by omega),wrap_u8 (x:=(o.2.2.1.length:Int)) (by omega) (by omega),wrap_u8 (x:=(o.2.2.2.1.length:Int)) (by omega) (by omega)]
 rw [if_pos (by simp only [List.length_append,List.length_cons,List.length_nil]; omega),if_pos (by simp only [List.length_append,List.length_cons,List.length_nil]; omega),if_pos (by simp only [List.length_append,List.length_cons,List.length_nil]; omega),if_pos (by simp only [List.length_append,List.length_cons,List.length_nil]; omega)]
 have ef:((([o.1,(o.2.1.length:Int)]++o.2.1)++[(o.2.2.1.length:Int)])++o.2.2.1)++[(o.2.2.2.1.length:Int)]=oZ o:=by simp [oZ]
 have lf:(oZ o).length≤100:=by simp only [oZ,List.length_append,List.length_cons,List.length_nil]; omega
 rw [ef]
 refine (aR (fun i=>(o.2.2.2.1,(o.2.2.2.1.length:Int),(i:Int),o,oZ o++(o.2.2.2.1.take i).flatMap two,())) (fun _=>none) (some (fF o,())) (m:=o.2.2.2.1.length) (by simp) (by omega) ?_ ?_).trans (bU (fun _ _ _=>rfl))
 ·intro L i hi _
  have hr:=hu _ (List.getElem_mem hi)
  simp only [Int.ofNat_lt,hi,decide_true,if_true,aH hi,gG hi,aU hi (by omega),yN (n:=n) (show 0≤o.2.2.2.1[i] by omega) (by omega),Option.bind_some,K7 _ hi,List.append_assoc]
  rw [if_pos (by simp only [List.length_append,AZ,jY,List.length_take]; omega)]
 ·intro L _
  have lb:((oZ o++o.2.2.2.1.flatMap two).length:Nat)≤200:=by simp only [List.length_append,AZ]; omega
  simp only [Int.lt_irrefl,decide_false,Bool.false_eq_true,if_false,List.take_length]
  rw [if_pos (by simp only [List.length_cons,List.length_nil]; omega),yN h8.1 (by omega)]
  simp only [Option.bind_some]
  rw [if_pos (by simp only [List.length_append,List.length_cons,List.length_nil,jY] at lb ⊢; omega)]
  unfold cK
  simp only [Option.bind_some]
  rw [yN (by omega) (by omega)]
  simp only [Option.bind_some]
  rw [if_pos (by simp only [List.length_append,List.length_cons,List.length_nil,jY] at lb ⊢; omega),if_pos (by simp only [List.length_append,List.length_cons,List.length_nil,jY] at lb ⊢; omega)]
  rw [wrap_u8 (x:=o.2.2.2.2.1) (by omega) (by omega),wrap_u8 (x:=o.2.2.2.2.2.1) (by omega) (by omega)]
  have eb:((((oZ o++o.2.2.2.1.flatMap two)++[o.2.2.2.2.1,o.2.2.2.2.2.1])++two o.2.2.2.2.2.2.1)++two (o.2.2.2.2.2.2.2.1.length:Int))++o.2.2.2.2.2.2.2.1=jg o:=by rw [Ho]; simp [LC]
  rw [eb,wrap_i64 (x:=((jg o).length:Int)+4) (by omega) (by omega),yN (by omega) (by omega)]
  simp only [Option.bind_some]
  rw [if_pos (by rw [jY]; omega)]
  have eh:two (((jg o).length:Int)+4)++jg o=xq o:=rfl
  rw [eh,Xl hh.1 (by unfold big; omega) (by unfold big; omega)]
  simp only [Option.bind_some]
  rw [yN hs.1 (by omega)]
  simp only [Option.bind_some]
  rw [if_pos (by rw [jY]; omega)]
  rfl
theorem KO {n:Nat} {o:OpC} (h:OV o) (hn:big<n):tQ n o=some (fF o,()):=by
 have h1:=h.box
 have h2:=h.to'
 have h3:=h.mode
 have h4:=h.ro
 have h5:=h4.kind
 have h6:=h4.few
 have h7:=h4.flags
 have h8:=h4.date
 have h9:=h4.data
 have hb:=h.body
 have hh:=h.head
 have hu:=CK h4.ack
 have hs:=CG (xq o)
 unfold big at hn
 unfold tQ
 rw [wrap_u8 (x:=o.1) (by omega) (by omega),wrap_u8 (x:=(o.2.1.length:Int)) (by omega) (by omega),wrap_u8 (x:=(o.2.2.1.length:Int)) (by omega) (by omega),wrap_u8 (x:=(o.2.2.2.1.length:Int)) (by omega) (by omega)]
 rw [if_pos (by simp only [List.length_append,List.length_cons,List.length_nil]; omega),if_pos (by simp only [List.length_append,List.length_cons,List.length_nil]; omega),if_pos (by simp only [List.length_append,List.length_cons,List.length_nil]; omega),if_pos (by simp only [List.length_append,List.length_cons,List.length_nil]; omega)]
 have ef:((([(0:Int),(0:Int),o.1,(o.2.1.length:Int)]++o.2.1)++[(o.2.2.1.length:Int)])++o.2.2.1)++[(o.2.2.2.1.length:Int)]=0 :: 0 :: oZ o:=by simp [oZ]
 have lf:(0 :: 0 :: oZ o).length≤100:=by simp only [oZ,List.length_append,List.length_cons,List.length_nil]; omega
 rw [ef]
 refine (aR (fun i=>(o,(i:Int),(0 :: 0 :: oZ o)++(o.2.2.2.1.take i).flatMap two,())) (fun _=>none) (some (fF o,())) (m:=o.2.2.2.1.length) (by simp) (by omega) ?_ ?_).trans (bU (fun _ _ _=>rfl))
 ·intro L i hi _
  have hr:=hu _ (List.getElem_mem hi)
  simp only [Int.ofNat_lt,hi,decide_true,if_true,aH hi,gG hi,aU hi (by omega),Bo (n:=n) (show 0≤o.2.2.2.1[i] by omega) (by omega),Option.bind_some,K7 _ hi,List.append_assoc]
  rw [if_pos (by simp only [List.length_append,AZ,jY,List.length_take] at lf ⊢; omega)]
 ·intro L _
  have lb:((0 :: 0 :: oZ o)++o.2.2.2.1.flatMap two).length≤200:=by rw [List.length_append,AZ]; omega
  simp only [Int.lt_irrefl,decide_false,Bool.false_eq_true,if_false,List.take_length]
  rw [if_pos (by simp only [List.length_cons,List.length_nil] at lb ⊢; omega),Bo h8.1 (by omega)]
  simp only [Option.bind_some]
  rw [if_pos (by simp only [List.length_append,List.length_cons,List.length_nil,jY] at lb ⊢; omega),Bo (by omega) (by omega)]
  simp only [Option.bind_some]
  rw [if_pos (by simp only [List.length_append,List.length_cons,List.length_nil,jY] at lb ⊢; omega),if_pos (by simp only [List.length_append,List.length_cons,List.length_nil,jY] at lb ⊢; omega)]
  rw [wrap_u8 (x:=o.2.2.2.2.1) (by omega) (by omega),wrap_u8 (x:=o.2.2.2.2.2.1) (by omega) (by omega)]
  have eb:(((((0 :: 0 :: oZ o)++o.2.2.2.1.flatMap two)++[o.2.2.2.2.1,o.2.2.2.2.2.1])++two o.2.2.2.2.2.2.1)++two (o.2.2.2.2.2.2.2.1.length:Int))++o.2.2.2.2.2.2.2.1=0 :: 0 :: jg o:=by rw [Ho]; simp [LC]
  have el:((0 :: 0 :: jg o).length:Int)+2=((jg o).length:Int)+4:=by simp only [List.length_cons]; omega
  rw [eb,el,wrap_i64 (x:=((jg o).length:Int)+4) (by omega) (by omega),Bo (by omega) (by omega)]
  simp only [Option.bind_some]
  rw [if_pos (by rw [jY]; simp only [List.length_cons]; omega)]
  have eh:two (((jg o).length:Int)+4)++(0 :: 0 :: jg o).drop (two (((jg o).length:Int)+4)).length=xq o:=rfl
  rw [eh,Xn hh.1 (by unfold big; omega) (by unfold big; omega)]
  simp only [Option.bind_some]
  rw [Bo hs.1 (by omega)]
  simp only [Option.bind_some]
  rw [if_pos (by rw [jY]; omega)]
  rfl
end Go.Proofs.YtailcbngagacaaaGreat.u7
