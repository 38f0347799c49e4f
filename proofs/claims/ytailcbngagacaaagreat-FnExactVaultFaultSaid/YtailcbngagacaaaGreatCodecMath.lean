/- Packing and reading of ops, on both sides. -/
import Derived.Test.YtailcbngagacaaaGreatOwF
import Derived.Test.YtailcbngagacaaaGreatLoopLib
import Derived.Test.YtailcbngagacaaaGreatPackLib
import Derived.Test.YtailcbngagacaaaGreatStoreMath
import Derived.Test.YtailcbngagacaaaGreatOpsMath
import Derived.Test.YtailcbngagacaaaGreatGoodMath
import Derived.Test.YtailcbngagacaaaGreatVfF
set_option linter.unusedSectionVars false
set_option linter.unusedVariables false
set_option linter.unusedSimpArgs false
namespace Go.Proofs.YtailcbngagacaaaGreat.uh
open Go Go.Proofs.YtailcbngagacaaaGreat.Ow Go.Proofs.YtailcbngagacaaaGreat.SV Go.Proofs.YtailcbngagacaaaGreat.sw Go.Proofs.YtailcbngagacaaaGreat.zL Go.Proofs.YtailcbngagacaaaGreat.nT Go.Proofs.YtailcbngagacaaaGreat.qA Go.Proofs.YtailcbngagacaaaGreat.wM

def pV (l : List Int) : Prop := ∀ x ∈ l, 0 ≤ x ∧ x ≤ 255
theorem wW {l : List Int} (h : pV l) (k : Nat) : pV (l.take k) := fun x hx => h x (List.mem_of_mem_take hx)
theorem wV {l : List Int} (h : pV l) (k : Nat) : pV (l.drop k) := fun x hx => h x (List.mem_of_mem_drop hx)
theorem zT {l m : List Int} (h : pV l) (h' : pV m) : pV (l ++ m) := fun x hx => (List.mem_append.1 hx).elim (h x) (h' x)
theorem qF {x : Int} {m : List Int} (h : 0 ≤ x ∧ x ≤ 255) (h' : pV m) : pV (x :: m) := fun y hy => (List.mem_cons.1 hy).elim (fun e => e ▸ h) (h' y)
theorem UF (k : Nat) : pV (List.replicate k 0) := fun x hx => by rw [(List.mem_replicate.1 hx).2]; omega
theorem En {n : Int} (h0 : 0 ≤ n) (h1 : n ≤ 65535) : pV (two n) := qF (by omega) (qF (by omega) (fun x hx => absurd hx (List.not_mem_nil)))
theorem uS {l : List Int} (h : pV l) (i : Nat) : 0 ≤ l.getD i 0 ∧ l.getD i 0 ≤ 255 := by
  by_cases hi : i < l.length
  · rw [getD_lt hi]; exact h _ (List.getElem_mem hi)
  · rw [List.getD_eq_getElem?_getD, List.getElem?_eq_none (by omega)]
    exact ⟨Int.le_refl _, by show (0 : Int) ≤ 255; omega⟩
theorem wrap_u8 {x : Int} (h1 : 0 ≤ x) (h2 : x ≤ 255) : IntKind.u8.wrap x = x := by
  simp [IntKind.wrap, IntKind.bits, IntKind.signed]
  omega

/-! ### Numbers and sums -/
theorem xu {n : Nat} {x : Int} (h0 : 0 ≤ x) (h1 : x ≤ 65535) : nA n x = some (two x, ()) := by
  unfold nA two
  rw [Int.tdiv_eq_ediv_of_nonneg h0, Int.tmod_eq_emod_of_nonneg h0, wrap_i64 (by omega) (by omega), wrap_u8 (by omega) (by omega), wrap_u8 (by omega) (by omega)]
  rfl
theorem zI {n : Nat} {x : Int} (h0 : 0 ≤ x) (h1 : x ≤ 65535) : kW n x = some (two x, ()) := xu (n := n) h0 h1

theorem Jq (l : List Int) (x : Int) : yI (l ++ [x]) = (yI l * 31 + x) % 65521 := by simp [yI]
theorem Bd : ∀ (l : List Int), 0 ≤ yI l ∧ yI l ≤ 65520 := fun l => by
  rcases List.eq_nil_or_concat l with rfl | ⟨m, x, rfl⟩
  · exact ⟨by decide, by decide⟩
  · rw [List.concat_eq_append, Jq]; omega
theorem M0 {l : List Int} (h : pV l) {i : Nat} (hi : i < l.length) : (IntKind.i64.wrap ((IntKind.i64.wrap (yI (l.take i) * (31 : Int))) + (IntKind.i64.wrap l[i]))).tmod (65521 : Int) = yI (l.take (i + 1)) := by
  have h1 := Bd (l.take i)
  have h2 := h _ (List.getElem_mem hi)
  rw [List.take_succ_eq_append_getElem hi, Jq, wrap_i64 (x := yI (l.take i) * 31) (by omega) (by omega), wrap_i64 (x := l[i]) (by omega) (by omega), wrap_i64 (by omega) (by omega), Int.tmod_eq_emod_of_nonneg (by omega)]
theorem Vu {n : Nat} {l : List Int} (h : pV l) (hb : l.length ≤ big) (hn : big < n) : tQ n l = some (yI l, ()) := by
  have hb' : l.length ≤ 1048576 := hb
  unfold tQ
  refine (aR (fun i => (yI (l.take i), l, (l.length : Int), (i : Int), ())) (fun _ => none) (some (yI l, ())) (m := l.length) rfl (by omega) ?_ ?_).trans (bN (fun _ _ _ => rfl))
  · intro L i hi _
    simp only [Int.ofNat_lt, hi, decide_true, if_true, aI hi, gG hi, aU hi (by omega), M0 h hi]
    rfl
  · intro L _
    simp
theorem Vx {n : Nat} {l : List Int} (h : pV l) (hb : l.length ≤ big) (hn : big < n) : tT n l = some (yI l, ()) := by
  have hb' : l.length ≤ 1048576 := hb
  unfold tT
  refine (aR (fun i => (l, yI (l.take i), (i : Int), ())) (fun _ => none) (some (yI l, ())) (m := l.length) rfl (by omega) ?_ ?_).trans (bN (fun _ _ _ => rfl))
  · intro L i hi _
    simp only [Int.ofNat_lt, hi, decide_true, if_true, aI hi, gG hi, aU hi (by omega), M0 h hi]
    rfl
  · intro L _
    simp

/-! ### What is known of a right op's bytes -/
theorem za {R : Type} {p : Nat → Bool} {r fin : R} (hne : r ≠ fin) : ∀ {m i : Nat}, dh (fun j => if p j = true then some r else none) fin m i = fin → ∀ j, i ≤ j → j < i + m → p j = false
  | 0, i, _, j, h1, h2 => by omega
  | m + 1, i, h, j, h1, h2 => by
    rw [dh] at h
    cases hp : p i with
    | true => rw [hp] at h; exact absurd h hne
    | false =>
      rw [hp] at h
      by_cases e : j = i
      · rw [e]; exact hp
      · exact za hne h j (by omega) (by omega)
theorem Bf {us : List Int} (h : Cj us = true) : ∀ u ∈ us, 1 ≤ u ∧ u ≤ 999 := by
  intro u hu
  obtain ⟨j, hj, rfl⟩ := List.mem_iff_getElem.1 hu
  have h1 := G5 us
  rw [h] at h1
  have h2 := za (by simp) h1 j (Nat.zero_le _) (by omega)
  unfold EZ at h2
  rw [getD_lt hj] at h2
  have := (Bool.or_eq_false_iff.1 h2).1
  simpa using this

/-- An op that may be packed. -/
structure M8 (o : OpC) : Prop where
  ro : RO o
  data : pV o.2.2.2.2.2.2.2.1
theorem M8.mode {o : OpC} (h : M8 o) : 0 ≤ o.2.2.2.2.1 ∧ o.2.2.2.2.1 ≤ 3 := by
  by_cases h4 : o.1 = 4
  · have := h.ro.mode h4; omega
  · have := h.ro.form
    unfold zb at this
    simp only [Bool.and_eq_true, Bool.or_eq_true, decide_eq_true_eq, h4, false_or] at this
    have := this.2.2.1
    omega
theorem M8.box {o : OpC} (h : M8 o) : o.2.1.length ≤ 8 ∧ pV o.2.1 := ⟨h.ro.box.1.2, fun c hc => by have := h.ro.box.2 c hc; omega⟩
theorem M8.to' {o : OpC} (h : M8 o) : o.2.2.1.length ≤ 8 ∧ pV o.2.2.1 := by
  by_cases h4 : o.1 = 5 ∨ o.1 = 6
  · have := h.ro.to' h4
    exact ⟨this.1.2, fun c hc => by have := this.2 c hc; omega⟩
  · have h5 : o.1 ≠ 5 := fun e => h4 (.inl e)
    have h6 : o.1 ≠ 6 := fun e => h4 (.inr e)
    have := h.ro.form
    unfold zb at this
    simp only [Bool.and_eq_true, Bool.or_eq_true, decide_eq_true_eq, h5, h6, false_or] at this
    rw [this.1]
    exact ⟨Nat.zero_le _, fun x hx => absurd hx (List.not_mem_nil)⟩
theorem UE {us : List Int} (h : ∀ u ∈ us, 1 ≤ u ∧ u ≤ 999) : pV (us.flatMap two) := fun x hx => by
  obtain ⟨u, hu, hx⟩ := List.mem_flatMap.1 hx
  have := h u hu
  exact En (by omega) (by omega) x hx
theorem M8.body {o : OpC} (h : M8 o) : pV (jh o) ∧ (jh o).length ≤ 500 := by
  have h1 := h.box
  have h2 := h.to'
  have h3 := h.mode
  have h4 := h.ro
  have h5 := h4.kind
  have h6 := h4.few
  have h7 := h4.flags
  have h8 := h4.date
  have h9 := h4.data
  refine ⟨?_, by rw [zm]; omega⟩
  unfold jh
  exact qF (by omega) (qF (by omega) (zT h1.2 (qF (by omega) (zT h2.2 (qF (by omega) (zT (UE (Bf h4.uids)) (qF (by omega) (qF (by omega) (zT (En h8.1 (by omega)) (zT (En (by omega) (by omega)) h.data))))))))))
theorem M8.head {o : OpC} (h : M8 o) : pV (vP o) ∧ (vP o).length ≤ 502 := by
  have := h.body
  exact ⟨zT (En (by omega) (by omega)) this.1, by rw [Mm]; omega⟩

/-! ### Packing -/
/-- What stands ahead of the uids. -/
def oz (o : OpC) : List Int := o.1 :: (o.2.1.length : Int) :: (o.2.1 ++ (o.2.2.1.length : Int) :: (o.2.2.1 ++ [(o.2.2.2.1.length : Int)]))
def JQ (o : OpC) : List Int := o.2.2.2.2.1 :: o.2.2.2.2.2.1 :: (two o.2.2.2.2.2.2.1 ++ (two (o.2.2.2.2.2.2.2.1.length : Int) ++ o.2.2.2.2.2.2.2.1))
theorem E8 (o : OpC) : jh o = oz o ++ (o.2.2.2.1.flatMap two ++ JQ o) := by simp [jh, oz, JQ]
theorem Jt (us : List Int) {i : Nat} (hi : i < us.length) : (us.take (i + 1)).flatMap two = (us.take i).flatMap two ++ two us[i] := by
  rw [List.take_succ_eq_append_getElem hi, List.flatMap_append, List.flatMap_cons, List.flatMap_nil, List.append_nil]

theorem RG {n : Nat} {o : OpC} (h : M8 o) (hn : big < n) : rP n o = some (fH o, ()) := by
  have h1 := h.box
  have h2 := h.to'
  have h3 := h.mode
  have h4 := h.ro
  have h5 := h4.kind
  have h6 := h4.few
  have h7 := h4.flags
  have h8 := h4.date
  have h9 := h4.data
  have hb := h.body
  have hh := h.head
  have hu := Bf h4.uids
  have hs := Bd (vP o)
  unfold big at hn
  unfold rP
  rw [wrap_u8 (x := o.1) (by omega) (by omega), wrap_u8 (x := (o.2.1.length : Int)) (by omega) (by omega), wrap_u8 (x := (o.2.2.1.length : Int)) (by omega) (by omega), wrap_u8 (x := (o.2.2.2.1.length : Int)) (by omega) (by omega)]
  rw [if_pos (by simp only [List.length_append, List.length_cons, List.length_nil]; omega), if_pos (by simp only [List.length_append, List.length_cons, List.length_nil]; omega), if_pos (by simp only [List.length_append, List.length_cons, List.length_nil]; omega), if_pos (by simp only [List.length_append, List.length_cons, List.length_nil]; omega)]
  have ef : ((([o.1, (o.2.1.length : Int)] ++ o.2.1) ++ [(o.2.2.1.length : Int)]) ++ o.2.2.1) ++ [(o.2.2.2.1.length : Int)] = oz o := by simp [oz]
  have lf : (oz o).length ≤ 100 := by simp only [oz, List.length_append, List.length_cons, List.length_nil]; omega
  rw [ef]
  refine (aR (fun i => (o.2.2.2.1, (o.2.2.2.1.length : Int), (i : Int), o, oz o ++ (o.2.2.2.1.take i).flatMap two, ())) (fun _ => none) (some (fH o, ())) (m := o.2.2.2.1.length) (by simp) (by omega) ?_ ?_).trans (bN (fun _ _ _ => rfl))
  · intro L i hi _
    have hr := hu _ (List.getElem_mem hi)
    simp only [Int.ofNat_lt, hi, decide_true, if_true, aI hi, gG hi, aU hi (by omega), xu (n := n) (show 0 ≤ o.2.2.2.1[i] by omega) (by omega), Option.bind_some, Jt _ hi, List.append_assoc]
    rw [if_pos (by simp only [List.length_append, zn, jU, List.length_take]; omega)]
  · intro L _
    have lb : ((oz o ++ o.2.2.2.1.flatMap two).length : Nat) ≤ 200 := by simp only [List.length_append, zn]; omega
    simp only [Int.lt_irrefl, decide_false, Bool.false_eq_true, if_false, List.take_length]
    rw [if_pos (by simp only [List.length_cons, List.length_nil]; omega), xu h8.1 (by omega)]
    simp only [Option.bind_some]
    rw [if_pos (by simp only [List.length_append, List.length_cons, List.length_nil, jU] at lb ⊢; omega)]
    unfold cB
    simp only [Option.bind_some]
    rw [xu (by omega) (by omega)]
    simp only [Option.bind_some]
    rw [if_pos (by simp only [List.length_append, List.length_cons, List.length_nil, jU] at lb ⊢; omega), if_pos (by simp only [List.length_append, List.length_cons, List.length_nil, jU] at lb ⊢; omega)]
    rw [wrap_u8 (x := o.2.2.2.2.1) (by omega) (by omega), wrap_u8 (x := o.2.2.2.2.2.1) (by omega) (by omega)]
    have eb : ((((oz o ++ o.2.2.2.1.flatMap two) ++ [o.2.2.2.2.1, o.2.2.2.2.2.1]) ++ two o.2.2.2.2.2.2.1) ++ two (o.2.2.2.2.2.2.2.1.length : Int)) ++ o.2.2.2.2.2.2.2.1 = jh o := by rw [E8]; simp [JQ]
    rw [eb, wrap_i64 (x := ((jh o).length : Int) + 4) (by omega) (by omega), xu (by omega) (by omega)]
    simp only [Option.bind_some]
    rw [if_pos (by rw [jU]; omega)]
    have eh : two (((jh o).length : Int) + 4) ++ jh o = vP o := rfl
    rw [eh, Vu hh.1 (by unfold big; omega) (by unfold big; omega)]
    simp only [Option.bind_some]
    rw [xu hs.1 (by omega)]
    simp only [Option.bind_some]
    rw [if_pos (by rw [jU]; omega)]
    rfl

theorem Je {n : Nat} {o : OpC} (h : M8 o) (hn : big < n) : sj n o = some (fH o, ()) := by
  have h1 := h.box
  have h2 := h.to'
  have h3 := h.mode
  have h4 := h.ro
  have h5 := h4.kind
  have h6 := h4.few
  have h7 := h4.flags
  have h8 := h4.date
  have h9 := h4.data
  have hb := h.body
  have hh := h.head
  have hu := Bf h4.uids
  have hs := Bd (vP o)
  unfold big at hn
  unfold sj
  rw [wrap_u8 (x := o.1) (by omega) (by omega), wrap_u8 (x := (o.2.1.length : Int)) (by omega) (by omega), wrap_u8 (x := (o.2.2.1.length : Int)) (by omega) (by omega), wrap_u8 (x := (o.2.2.2.1.length : Int)) (by omega) (by omega)]
  rw [if_pos (by simp only [List.length_append, List.length_cons, List.length_nil]; omega), if_pos (by simp only [List.length_append, List.length_cons, List.length_nil]; omega), if_pos (by simp only [List.length_append, List.length_cons, List.length_nil]; omega), if_pos (by simp only [List.length_append, List.length_cons, List.length_nil]; omega)]
  have ef : ((([(0 : Int), (0 : Int), o.1, (o.2.1.length : Int)] ++ o.2.1) ++ [(o.2.2.1.length : Int)]) ++ o.2.2.1) ++ [(o.2.2.2.1.length : Int)] = 0 :: 0 :: oz o := by simp [oz]
  have lf : (0 :: 0 :: oz o).length ≤ 100 := by simp only [oz, List.length_append, List.length_cons, List.length_nil]; omega
  rw [ef]
  refine (aR (fun i => (o, (i : Int), (0 :: 0 :: oz o) ++ (o.2.2.2.1.take i).flatMap two, ())) (fun _ => none) (some (fH o, ())) (m := o.2.2.2.1.length) (by simp) (by omega) ?_ ?_).trans (bN (fun _ _ _ => rfl))
  · intro L i hi _
    have hr := hu _ (List.getElem_mem hi)
    simp only [Int.ofNat_lt, hi, decide_true, if_true, aI hi, gG hi, aU hi (by omega), zI (n := n) (show 0 ≤ o.2.2.2.1[i] by omega) (by omega), Option.bind_some, Jt _ hi, List.append_assoc]
    rw [if_pos (by simp only [List.length_append, zn, jU, List.length_take] at lf ⊢; omega)]
  · intro L _
    have lb : ((0 :: 0 :: oz o) ++ o.2.2.2.1.flatMap two).length ≤ 200 := by rw [List.length_append, zn]; omega
    simp only [Int.lt_irrefl, decide_false, Bool.false_eq_true, if_false, List.take_length]
    rw [if_pos (by simp only [List.length_cons, List.length_nil] at lb ⊢; omega), zI h8.1 (by omega)]
    simp only [Option.bind_some]
    rw [if_pos (by simp only [List.length_append, List.length_cons, List.length_nil, jU] at lb ⊢; omega), zI (by omega) (by omega)]
    simp only [Option.bind_some]
    rw [if_pos (by simp only [List.length_append, List.length_cons, List.length_nil, jU] at lb ⊢; omega), if_pos (by simp only [List.length_append, List.length_cons, List.length_nil, jU] at lb ⊢; omega)]
    rw [wrap_u8 (x := o.2.2.2.2.1) (by omega) (by omega), wrap_u8 (x := o.2.2.2.2.2.1) (by omega) (by omega)]
    have eb : (((((0 :: 0 :: oz o) ++ o.2.2.2.1.flatMap two) ++ [o.2.2.2.2.1, o.2.2.2.2.2.1]) ++ two o.2.2.2.2.2.2.1) ++ two (o.2.2.2.2.2.2.2.1.length : Int)) ++ o.2.2.2.2.2.2.2.1 = 0 :: 0 :: jh o := by rw [E8]; simp [JQ]
    have el : ((0 :: 0 :: jh o).length : Int) + 2 = ((jh o).length : Int) + 4 := by simp only [List.length_cons]; omega
    rw [eb, el, wrap_i64 (x := ((jh o).length : Int) + 4) (by omega) (by omega), zI (by omega) (by omega)]
    simp only [Option.bind_some]
    rw [if_pos (by rw [jU]; simp only [List.length_cons]; omega)]
    have eh : two (((jh o).length : Int) + 4) ++ (0 :: 0 :: jh o).drop (two (((jh o).length : Int) + 4)).length = vP o := rfl
    rw [eh, Vx hh.1 (by unfold big; omega) (by unfold big; omega)]
    simp only [Option.bind_some]
    rw [zI hs.1 (by omega)]
    simp only [Option.bind_some]
    rw [if_pos (by rw [jU]; omega)]
    rfl
end Go.Proofs.YtailcbngagacaaaGreat.uh
