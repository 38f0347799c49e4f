/- 'FnExactMirrorCount': what its functions come to. -/
import Derived.Test.YtcelknaomealbaaDoorOwF
import Derived.Test.YtcelknaomealbaaDoorLoopLib
import Derived.Test.YtcelknaomealbaaDoorNumLib
import Derived.Test.YtcelknaomealbaaDoorMirrorF
set_option linter.unusedSectionVars false
set_option linter.unusedVariables false
set_option linter.unusedSimpArgs false
namespace Go.Proofs.YtcelknaomealbaaDoor.MirrorMath
open Go Go.Proofs.YtcelknaomealbaaDoor.Ow Go.Proofs.YtcelknaomealbaaDoor.MirrorF Go.Proofs.YtcelknaomealbaaDoor.LoopLib Go.Proofs.YtcelknaomealbaaDoor.LaidLib Go.Proofs.YtcelknaomealbaaDoor.NumLib

theorem wrapu {x : Int} (h0 : 48 ≤ x) (h1 : x ≤ 57) : IntKind.u8.wrap (x - 48) = x - 48 := by
  unfold IntKind.wrap
  simp [IntKind.bits, IntKind.signed]
  omega

theorem vloop {s : List Int} {B : (List Int × Int × Int × Unit → Option (Int × Unit)) → List Int × Int × Int × Unit → Option (Int × Unit)}
    (hB : ∀ L v, B L v = (if decide (v.2.2.1 < (v.1.length : Int)) = true then (if inLen v.2.2.1 v.1.length then (if decide ((v.1.getD v.2.2.1.toNat 0) < (48 : Int)) = true then some ((-1 : Int), ()) else (if inLen v.2.2.1 v.1.length then (if decide ((v.1.getD v.2.2.1.toNat 0) > (57 : Int)) = true then some ((-1 : Int), ()) else (if inLen v.2.2.1 v.1.length then L (v.1, IntKind.i64.wrap ((IntKind.i64.wrap (v.2.1 * (10 : Int))) + (IntKind.i64.wrap (IntKind.u8.wrap ((v.1.getD v.2.2.1.toNat 0) - (48 : Int))))), IntKind.i64.wrap (v.2.2.1 + (1 : Int)), ()) else none)) else none)) else none) else some (v.2.1, ())))
    (hs : s.length ≤ 4) : ∀ (e i n : Nat) (v : Int), i + e = s.length → e < n → 0 ≤ v → v < 10 ^ i → rounds B n (s, v, (i : Int), ()) = some (vgo v (s.drop i), ()) := by
  intro e
  induction e with
  | zero =>
    intro i n v hi hn h0 h1
    cases n with
    | zero => omega
    | succ n =>
      show B (rounds B n) _ = _
      rw [hB]
      simp only [show ¬ ((i : Int) < (s.length : Int)) by omega, decide_false, Bool.false_eq_true, if_false]
      rw [List.drop_of_length_le (by omega)]
      rfl
  | succ e ih =>
    intro i n v hi hn h0 h1
    cases n with
    | zero => omega
    | succ n =>
      have hlt : i < s.length := by omega
      show B (rounds B n) _ = _
      rw [hB]
      simp only [Int.ofNat_lt, hlt, decide_true, if_true, inLen_nat hlt, getD_nat hlt, wrap_succ hlt (by omega)]
      rw [List.drop_eq_getElem_cons hlt]
      have hp : (10 : Int) ^ i ≤ 1000 := by
        have : i = 0 ∨ i = 1 ∨ i = 2 ∨ i = 3 := by omega
        rcases this with rfl | rfl | rfl | rfl <;> decide
      unfold vgo
      by_cases ha : s[i] < 48
      · simp only [ha, decide_true, if_true]
        rw [if_neg (by omega)]
      · by_cases hb : s[i] > 57
        · simp only [ha, hb, decide_true, decide_false, Bool.false_eq_true, if_false, if_true]
          rw [if_neg (by omega)]
        · simp only [ha, hb, decide_false, Bool.false_eq_true, if_false]
          rw [if_pos (by omega), wrapu (by omega) (by omega), wrap_i64 (x := v * 10) (by omega) (by omega), wrap_i64 (x := s[i] - 48) (by omega) (by omega), wrap_i64 (by omega) (by omega)]
          exact ih (i + 1) n _ (by omega) (by omega) (by omega) (by rw [Int.pow_succ]; omega)

theorem value {n : Nat} (hn : 6 ≤ n) (s : List Int) : F_spec_l11Value n s = some (valL s, ()) := by
  unfold F_spec_l11Value valL
  by_cases h1 : (s.length : Int) < 1
  · rw [if_pos (by simpa using h1), if_pos (by omega)]
  · rw [if_neg (by simpa using h1)]
    by_cases h2 : (s.length : Int) > 4
    · rw [if_pos (by simpa using h2), if_pos (by omega)]
    · rw [if_neg (by simpa using h2)]
      by_cases h3 : (s.length : Int) > 1
      · rw [if_pos (by simpa using h3), if_pos (by unfold inLen; omega)]
        by_cases h4 : s.getD 0 0 = 48
        · rw [if_pos (by simpa using h4), if_pos (by omega)]
        · rw [if_neg (by simpa using h4), if_neg (by omega)]
          exact vloop (fun L v => rfl) (by omega) s.length 0 n 0 (by omega) (by omega) (by omega) (by decide)
      · rw [if_neg (by simpa using h3), if_neg (by omega)]
        exact vloop (fun L v => rfl) (by omega) s.length 0 n 0 (by omega) (by omega) (by omega) (by decide)

/-! ### Lines -/
def tellL (t : List Int) : Int := if 999 < valL t then -1 else valL t

theorem told_at {n : Nat} (hn : 6 ≤ n) (w t : List Int) : F_spec_l15Told n (w ++ t) w = some (tellL t, ()) := by
  unfold F_spec_l15Told tellL
  by_cases h : t = []
  · subst h
    rw [if_pos (by simp)]
    rfl
  · have hl : 0 < t.length := List.length_pos_iff.2 h
    rw [if_neg (by simp; omega), if_pos (by simp; omega), if_neg (by simp), if_pos (by simp; omega)]
    simp only [Int.toNat_natCast, List.drop_left, value hn, Option.bind_some]
    by_cases h9 : 999 < valL t
    · rw [if_pos (by simpa using h9), if_pos h9]
    · rw [if_neg (by simpa using h9), if_neg h9]

theorem told_not {n : Nat} (l w : List Int) (h : l.take w.length ≠ w) : F_spec_l15Told n l w = some (-1, ()) := by
  unfold F_spec_l15Told
  by_cases h1 : (l.length : Int) ≤ (w.length : Int)
  · rw [if_pos (by simpa using h1)]
  · rw [if_neg (by simpa using h1), if_pos (by omega), if_pos (by simpa using h)]

theorem cut_at {n : Nat} (w t : List Int) : F_strings_CutPrefix n (w ++ t) w = some (t, true, ()) := by
  unfold F_strings_CutPrefix F_stringslite_CutPrefix F_stringslite_HasPrefix
  rw [if_pos (by simp; omega), if_pos (by simp; omega)]
  simp only [Int.toNat_natCast, List.take_left, decide_true, Option.bind_some, Bool.not_true, Bool.false_eq_true, if_false, List.drop_left]
  rw [if_pos (by simp; omega)]
  rfl

theorem cut_not {n : Nat} (l w : List Int) (h : l.take w.length ≠ w) : F_strings_CutPrefix n l w = some (l, false, ()) := by
  unfold F_strings_CutPrefix F_stringslite_CutPrefix F_stringslite_HasPrefix
  by_cases h1 : (l.length : Int) ≥ (w.length : Int)
  · rw [if_pos (by simpa using h1), if_pos (by omega)]
    have : decide (l.take (w.length : Int).toNat = w) = false := by simpa using h
    rw [this]
    simp
  · rw [if_neg (by simpa using h1)]
    simp

theorem take_iff (l w : List Int) : l.take w.length = w ↔ ∃ t, l = w ++ t := by
  constructor
  · intro h
    exact ⟨l.drop w.length, by conv => lhs; rw [← List.take_append_drop w.length l, h]⟩
  · rintro ⟨t, rfl⟩
    simp

/-! ### One line -/
def EX : List Int := [42, 32, 101, 120, 105, 115, 116, 115, 32]
def GO : List Int := [42, 32, 103, 111, 110, 101, 32]
def CL : List Int := [42, 32, 99, 108, 111, 115, 101, 100]

/-- What a line makes of a count. -/
def step (c : Int) (l : List Int) : Int :=
  if l = CL then 0
  else if l.take 9 = EX then (if 0 ≤ tellL (l.drop 9) then tellL (l.drop 9) else c)
  else if l.take 7 = GO then (if 0 ≤ tellL (l.drop 7) then max 0 (c - 1) else c)
  else c

theorem tell_lt (t : List Int) : tellL t ≤ 999 := by
  unfold tellL
  split <;> omega
theorem step_bounds {c : Int} (h0 : 0 ≤ c) (h1 : c ≤ 999) (l : List Int) : 0 ≤ step c l ∧ step c l ≤ 999 := by
  unfold step
  have := tell_lt (l.drop 9)
  repeat' split
  all_goals omega

theorem cl_ex : CL.take 9 ≠ EX := by decide
theorem cl_go : CL.take 7 ≠ GO := by decide
theorem ex_go (t : List Int) : (EX ++ t).take 7 ≠ GO := by simp [EX, GO]
theorem ex_cl (t : List Int) : EX ++ t ≠ CL := by simp [EX, CL]
theorem go_ex (t : List Int) : (GO ++ t).take 9 ≠ EX := by simp [EX, GO]
theorem go_cl (t : List Int) : GO ++ t ≠ CL := by simp [GO, CL]

theorem kinds (l : List Int) : (∃ t, l = EX ++ t) ∨ (∃ t, l = GO ++ t) ∨ (l = CL) ∨ (l.take 9 ≠ EX ∧ l.take 7 ≠ GO ∧ l ≠ CL) := by
  by_cases h1 : l.take 9 = EX
  · exact .inl ((take_iff l EX).1 h1)
  · by_cases h2 : l.take 7 = GO
    · exact .inr (.inl ((take_iff l GO).1 h2))
    · by_cases h3 : l = CL
      · exact .inr (.inr (.inl h3))
      · exact .inr (.inr (.inr ⟨h1, h2, h3⟩))

theorem step_ex (c : Int) (t : List Int) : step c (EX ++ t) = if 0 ≤ tellL t then tellL t else c := by
  unfold step
  rw [if_neg (ex_cl t), if_pos (by simp [EX])]
  simp [EX]
theorem step_go (c : Int) (t : List Int) : step c (GO ++ t) = if 0 ≤ tellL t then max 0 (c - 1) else c := by
  unfold step
  rw [if_neg (go_cl t), if_neg (go_ex t), if_pos (by simp [GO])]
  simp [GO]
theorem step_cl (c : Int) : step c CL = 0 := by unfold step; rw [if_pos rfl]
theorem step_no (c : Int) {l : List Int} (h1 : l.take 9 ≠ EX) (h2 : l.take 7 ≠ GO) (h3 : l ≠ CL) : step c l = c := by
  unfold step
  rw [if_neg h3, if_neg h1, if_neg h2]

def count (c : Int) (ls : List (List Int)) : Nat → Int
  | 0 => c
  | i + 1 => step (count c ls i) (ls.getD i [])

theorem count_bounds {c : Int} (h0 : 0 ≤ c) (h1 : c ≤ 999) (ls : List (List Int)) : ∀ i, 0 ≤ count c ls i ∧ count c ls i ≤ 999
  | 0 => ⟨h0, h1⟩
  | i + 1 => step_bounds (count_bounds h0 h1 ls i).1 (count_bounds h0 h1 ls i).2 _

theorem l1In {n : Nat} (a b c : Int) : F_spec_l1In n a b c = some (decide (b ≤ a) && decide (a ≤ c), ()) := by
  unfold F_spec_l1In
  by_cases h : a ≥ b
  · rw [if_pos (by simpa using h)]
    have : decide (b ≤ a) = true := by simpa using h
    rw [this]; rfl
  · rw [if_neg (by simpa using h)]
    have : decide (b ≤ a) = false := by simpa using h
    rw [this]; rfl
theorem within {n : Nat} (a b c : Int) : F_impl_within n a b c = some (decide (b ≤ a) && decide (a ≤ c), ()) := l1In (n := n) a b c

theorem l1Max {n : Nat} (b : Int) : F_spec_l1Max n 0 b = some (max 0 b, ()) := by
  unfold F_spec_l1Max
  by_cases h : (0 : Int) > b
  · rw [if_pos (by simpa using h)]; congr 2; omega
  · rw [if_neg (by simpa using h)]; congr 2; omega

theorem spec_count {n : Nat} {c : Int} {ls : List (List Int)} (h0 : 0 ≤ c) (h1 : c ≤ 999) (hn : 6 ≤ n) (hl : ls.length < n) (hl2 : ls.length ≤ 1048576) : F_spec_MirrorCount n c ls = some (((0 : Int), count c ls ls.length, ()), ()) := by
  unfold F_spec_MirrorCount
  rw [l1In]
  simp only [h0, h1, decide_true, Bool.and_self, Option.bind_some, Bool.not_true, Bool.false_eq_true, if_false]
  refine (rounds_from (fun i => (count c ls i, ls, (i : Int), ((0 : Int), (0 : Int), ()), ())) (fun _ => none) (some (((0 : Int), count c ls ls.length, ()), ())) (m := ls.length) rfl (by omega) ?_ ?_).trans (firstR_none (fun _ _ _ => rfl))
  · intro L i hi _
    obtain ⟨b0, b1⟩ := count_bounds h0 h1 ls i
    simp only [Int.ofNat_lt, hi, decide_true, if_true, inLen_nat hi, getD_nat hi, wrap_succ hi (by omega)]
    have hstep : count c ls (i + 1) = step (count c ls i) ls[i] := by
      show step _ (ls.getD i []) = _
      rw [List.getD_eq_getElem?_getD, List.getElem?_eq_getElem hi]
      rfl
    rw [hstep]
    generalize count c ls i = k at b0 b1
    generalize ls[i] = l
    rw [← show EX = [42, 32, 101, 120, 105, 115, 116, 115, 32] from rfl, ← show GO = [42, 32, 103, 111, 110, 101, 32] from rfl, ← show CL = [42, 32, 99, 108, 111, 115, 101, 100] from rfl]
    rcases kinds l with ⟨t, rfl⟩ | ⟨t, rfl⟩ | rfl | ⟨g1, g2, g3⟩
    · rw [told_at hn, told_not (n := n) (EX ++ t) GO (ex_go t), step_ex]
      simp only [Option.bind_some, ex_cl t, decide_false, Bool.false_eq_true, if_false]
      by_cases h : 0 ≤ tellL t
      · simp [h]
      · simp [h]
    · rw [told_at hn, told_not (n := n) (GO ++ t) EX (go_ex t), step_go]
      simp only [Option.bind_some, go_cl t, decide_false, Bool.false_eq_true, if_false, l1Max, wrap_i64 (x := k - 1) (by omega) (by omega)]
      by_cases h : 0 ≤ tellL t
      · simp [h]
      · simp [h]
    · rw [told_not (n := n) CL EX cl_ex, told_not (n := n) CL GO cl_go, step_cl]
      simp
    · rw [told_not (n := n) l EX g1, told_not (n := n) l GO g2, step_no _ g1 g2 g3]
      simp [g3]
  · intro L _
    simp

theorem readF_at {n : Nat} {s : List Int} (hb : ∀ b ∈ s, 0 ≤ b ∧ b < 256) (hl : s.length ≤ 1048576) : ∃ x, F_impl_readNumber n s = some (x, decide (0 ≤ valL s), ()) ∧ (0 ≤ valL s → x = valL s) := by
  obtain ⟨h1, h2⟩ := readL_val hb
  refine ⟨(readL s).1, ?_, h2⟩
  show readF s = _
  unfold readF
  rw [if_pos hl, h1]

theorem impl_count {n : Nat} {c : Int} {ls : List (List Int)} (h0 : 0 ≤ c) (h1 : c ≤ 999) (hl : ls.length < n) (hl2 : ls.length ≤ 1048576) (hb : ∀ l ∈ ls, l.length ≤ 1048576 ∧ ∀ b ∈ l, 0 ≤ b ∧ b < 256) : F_impl_MirrorCount n c ls = some (((0 : Int), count c ls ls.length, ()), ()) := by
  unfold F_impl_MirrorCount
  rw [within]
  simp only [h0, h1, decide_true, Bool.and_self, Option.bind_some, Bool.not_true, Bool.false_eq_true, if_false]
  refine (rounds_from (fun i => (count c ls i, ls, (ls.length : Int), (i : Int), ((0 : Int), (0 : Int), ()), ())) (fun _ => none) (some (((0 : Int), count c ls ls.length, ()), ())) (m := ls.length) rfl (by omega) ?_ ?_).trans (firstR_none (fun _ _ _ => rfl))
  · intro L i hi _
    obtain ⟨b0, b1⟩ := count_bounds h0 h1 ls i
    simp only [Int.ofNat_lt, hi, decide_true, if_true, inLen_nat hi, getD_nat hi, wrap_succ hi (by omega)]
    have hstep : count c ls (i + 1) = step (count c ls i) ls[i] := by
      show step _ (ls.getD i []) = _
      rw [List.getD_eq_getElem?_getD, List.getElem?_eq_getElem hi]
      rfl
    rw [hstep]
    obtain ⟨l1, l2⟩ := hb _ (List.getElem_mem hi)
    generalize count c ls i = k at b0 b1
    generalize ls[i] = l at l1 l2
    rw [← show EX = [42, 32, 101, 120, 105, 115, 116, 115, 32] from rfl, ← show GO = [42, 32, 103, 111, 110, 101, 32] from rfl, ← show CL = [42, 32, 99, 108, 111, 115, 101, 100] from rfl]
    have hk : (if k - 1 > 0 then k - 1 else 0) = max 0 (k - 1) := by split <;> omega
    rcases kinds l with ⟨t, rfl⟩ | ⟨t, rfl⟩ | rfl | ⟨g1, g2, g3⟩
    · rw [cut_at, step_ex]
      obtain ⟨x, hx, hv⟩ := readF_at (n := n) (s := t) (fun b h => l2 b (List.mem_append_right _ h)) (by rw [List.length_append] at l1; omega)
      simp only [Option.bind_some, Bool.not_true, Bool.false_eq_true, if_false, hx, ex_cl t, decide_false, if_true]
      by_cases h : 0 ≤ valL t
      · have := hv h
        subst this
        by_cases h9 : 999 < valL t
        · have e : tellL t = -1 := by unfold tellL; rw [if_pos h9]
          have e2 : GO ++ t ≠ EX ++ t := by intro hh; have := congrArg List.length hh; simp [GO, EX] at this
          simp [h, e, show ¬ valL t ≤ 999 by omega]
        · have e : tellL t = valL t := by unfold tellL; rw [if_neg h9]
          simp [h, e, show valL t ≤ 999 by omega]
      · have e : ¬ 0 ≤ tellL t := by unfold tellL; split <;> omega
        simp [h, e]
    · rw [cut_not (n := n) (GO ++ t) EX (go_ex t), cut_at, step_go]
      obtain ⟨x, hx, hv⟩ := readF_at (n := n) (s := t) (fun b h => l2 b (List.mem_append_right _ h)) (by rw [List.length_append] at l1; omega)
      simp only [Option.bind_some, Bool.not_false, Bool.false_eq_true, if_false, hx, go_cl t, decide_false, if_true, wrap_i64 (x := k - 1) (by omega) (by omega), hk]
      by_cases h : 0 ≤ valL t
      · have := hv h
        subst this
        by_cases h9 : 999 < valL t
        · have e : tellL t = -1 := by unfold tellL; rw [if_pos h9]
          simp [h, e, show ¬ valL t ≤ 999 by omega]
        · have e : tellL t = valL t := by unfold tellL; rw [if_neg h9]
          rw [List.length_append] at l1
          have hg : GO.length = 7 := rfl
          simp only [h, e, show valL t ≤ 999 by omega, decide_true, if_true]
          rw [if_pos (by show 7 + t.length ≤ _; omega)]
      · have e : ¬ 0 ≤ tellL t := by unfold tellL; split <;> omega
        simp [h, e]
    · rw [cut_not (n := n) CL EX cl_ex, cut_not (n := n) CL GO cl_go, step_cl]
      obtain ⟨x, hx, hv⟩ := readF_at (n := n) (s := CL) l2 l1
      simp only [Option.bind_some, Bool.not_false, if_true, hx]
      split <;> simp
    · rw [cut_not (n := n) l EX g1, cut_not (n := n) l GO g2, step_no _ g1 g2 g3]
      obtain ⟨x, hx, hv⟩ := readF_at (n := n) (s := l) l2 l1
      have e2 : l ≠ GO ++ l := by intro hh; have := congrArg List.length hh; rw [List.length_append] at this; have : GO.length = 7 := rfl; omega
      simp only [Option.bind_some, Bool.not_false, if_true, hx, g3, decide_false, Bool.false_eq_true, if_false, e2]
      have hlen : ([42, 32, 103, 111, 110, 101, 32] : List Nat).length + l.length ≤ 9223372036854775807 := by show 7 + l.length ≤ _; omega
      simp only [hlen, if_true]
      repeat' split
      all_goals rfl
  · intro L _
    simp

/-! ### The law -/
theorem toStringS {n : Nat} {xs : List (List Int)} (hb : xs.length ≤ big) (hn : big < n) : F_laws_toStringS n xs = some (xs, ()) := by
  unfold F_laws_toStringS
  rw [if_pos (by unfold big at hb; omega)]
  exact copy_loop (f := fun x => some (x, ())) (fun L v => rfl) (fun _ _ => rfl) hb hn
theorem eqStringS {n : Nat} {xs : List (List Int)} (hb : xs.length ≤ big) (hn : big + big < n) : F_laws_eqStringS n xs xs = some (true, ()) := by
  unfold F_laws_eqStringS
  rw [if_neg (by simp)]
  exact eq_loop (f := fun x y => some (decide (x = y), ())) (fun L v => rfl) (fun _ _ => by simp) (by omega) hn
theorem eqInt {n : Nat} (x : Int × Int × Unit) : F_laws_eqIntResult n x x = some (true, ()) := by simp [F_laws_eqIntResult]

theorem szStringS {n : Nat} {xs : List (List Int)} (hl : xs.length ≤ 9223372036854775807 ∧ ∀ s ∈ xs, s.length ≤ 9223372036854775807) (hn : big < n) : ∃ r, F_laws_szStringS n xs 1048576 = some (r, ()) ∧ (r < 0 ∨ (xs.length ≤ big ∧ ∀ s ∈ xs, s.length ≤ 1048576)) := by
  unfold F_laws_szStringS
  rw [wrap_i64 (x := 1048576 - (xs.length : Int)) (by omega) (by omega)]
  by_cases h : (1048576 : Int) - (xs.length : Int) < 0
  · exact ⟨-1, by rw [if_pos (by simpa using h)], .inl (by omega)⟩
  · rw [if_neg (by simpa using h)]
    have hb : xs.length ≤ big := by unfold big; omega
    obtain ⟨r, h1, h2⟩ := sz_loop (f := fun x k => some (IntKind.i64.wrap (k - (x.length : Int)), ())) (ok := fun s => s.length ≤ 1048576) (d := ([] : List Int)) (xs := xs)
      (B := fun L1 v1 => (if decide (v1.2.2.1 < (v1.1.length : Int)) = true then (if inLen v1.2.2.1 v1.1.length then (if decide ((IntKind.i64.wrap (v1.2.1 - ((v1.1.getD v1.2.2.1.toNat ([] : List Int)).length : Int))) < (0 : Int)) = true then some ((-1 : Int), ()) else L1 (v1.1, IntKind.i64.wrap (v1.2.1 - ((v1.1.getD v1.2.2.1.toNat ([] : List Int)).length : Int)), IntKind.i64.wrap (v1.2.2.1 + (1 : Int)), ())) else none) else some (v1.2.1, ())))
      (fun L v => rfl) (fun x hx k h0 h1 => by
        have := hl.2 x hx
        refine ⟨k - (x.length : Int), by rw [wrap_i64 (by omega) (by omega)], ?_⟩
        by_cases hk : k - (x.length : Int) < 0
        · exact .inl hk
        · exact .inr ⟨by omega, by omega⟩) hb xs.length 0 n (1048576 - (xs.length : Int)) (by omega) (by omega) (by omega) (by omega)
    refine ⟨r, h1, h2.imp id fun h => ⟨hb, fun s hs => ?_⟩⟩
    obtain ⟨j, hj, rfl⟩ := List.getElem_of_mem hs
    exact h.2 j hj (Nat.zero_le _)

theorem law {c : Int} {ls : List (List Int)} (hl : ls.length ≤ 9223372036854775807 ∧ ∀ s ∈ ls, s.length ≤ 9223372036854775807 ∧ ∀ b ∈ s, 0 ≤ b ∧ b < 256) : F_laws_FnExactMirrorCount 2097153 c ls = some (true, ()) := by
  unfold F_laws_FnExactMirrorCount
  obtain ⟨r, h1, h2⟩ := szStringS (n := 2097153) (xs := ls) ⟨hl.1, fun s hs => (hl.2 s hs).1⟩ (by decide)
  rw [h1]
  simp only [Option.bind_some]
  by_cases hr : r < 0
  · simp [hr]
  · obtain ⟨hb, hs⟩ := h2.resolve_left hr
    have hb' : ls.length ≤ 1048576 := hb
    simp only [hr, decide_false, Bool.false_eq_true, if_false, toStringS hb (n := 2097153) (by decide), Option.bind_some]
    by_cases h : 0 ≤ c ∧ c ≤ 999
    · rw [spec_count h.1 h.2 (by omega) (by omega) hb', impl_count h.1 h.2 (by omega) hb' (fun l hl' => ⟨hs l hl', (hl.2 l hl').2⟩)]
      simp [eqInt, eqStringS hb (n := 2097153) (by decide)]
    · have e1 : F_spec_MirrorCount 2097153 c ls = some (((3 : Int), (0 : Int), ()), ()) := by
        unfold F_spec_MirrorCount
        rw [l1In]
        have : (decide (0 ≤ c) && decide (c ≤ 999)) = false := by simpa using h
        rw [this]
        simp
      have e2 : F_impl_MirrorCount 2097153 c ls = some (((3 : Int), (0 : Int), ()), ()) := by
        unfold F_impl_MirrorCount
        rw [within]
        have : (decide (0 ≤ c) && decide (c ≤ 999)) = false := by simpa using h
        rw [this]
        simp
      rw [e1, e2]
      simp [eqInt, eqStringS hb (n := 2097153) (by decide)]

theorem all : ∀ (N : Nat) (c : Cont (kin ps_laws_FnExactMirrorCount)), lenC ps_laws_FnExactMirrorCount c → szC ps_laws_FnExactMirrorCount c ≤ N → ∃ n out, E_laws_FnExactMirrorCount.F n c = some out ∧ out.1 = true := by
  intro N c hc _
  exact ⟨2097153, (true, ()), law ⟨hc.2.1.1, hc.2.1.2⟩, rfl⟩
end Go.Proofs.YtcelknaomealbaaDoor.MirrorMath
