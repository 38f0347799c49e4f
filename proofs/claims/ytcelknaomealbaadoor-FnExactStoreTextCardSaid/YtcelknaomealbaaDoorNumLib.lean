/- Numbers of one to four digits. No program in sight. -/
import Derived.Test.YtcelknaomealbaaDoorOwF
import Derived.Test.YtcelknaomealbaaDoorLaidLib
set_option linter.unusedSectionVars false
set_option linter.unusedVariables false
set_option linter.unusedSimpArgs false
namespace Go.Proofs.YtcelknaomealbaaDoor.NumLib
open Go Go.Proofs.YtcelknaomealbaaDoor.Ow Go.Proofs.YtcelknaomealbaaDoor.LaidLib Go.Proofs.YtcelknaomealbaaDoor.FieldsLib

def vgo : Int → List Int → Int
  | v, [] => v
  | v, x :: r => if 48 ≤ x ∧ x ≤ 57 then vgo (v * 10 + (x - 48)) r else -1
/-- The number that a text of one to four digits tells, no 0 ahead; -1: it tells none. -/
def valL (s : List Int) : Int := if s.length < 1 ∨ 4 < s.length ∨ (1 < s.length ∧ s.getD 0 0 = 48) then -1 else vgo 0 s

def u8 (s : List Int) : List UInt8 := s.map fun n => UInt8.ofNat n.toNat
def ints (l : List UInt8) : List Int := l.map fun b => (b.toNat : Int)
theorem baOf_toList (s : List Int) : (baOf s).data.toList = u8 s := by simp [baOf, u8]
theorem ints_u8 {s : List Int} (h : ∀ b ∈ s, 0 ≤ b ∧ b < 256) : ints (u8 s) = s := by
  unfold ints u8
  rw [List.map_map]
  conv => rhs; rw [← List.map_id s]
  refine List.map_congr_left fun x hx => ?_
  obtain ⟨h0, h1⟩ := h x hx
  show ((UInt8.ofNat x.toNat).toNat : Int) = x
  rw [UInt8.toNat_ofNat']
  omega

theorem toNat_dig {d : Nat} (h : d < 10) : (UInt8.ofNat (48 + d)).toNat = 48 + d := by
  rw [UInt8.toNat_ofNat']
  omega

/-- The digits of a number of at most four. -/
theorem digs {v : Nat} (h : v < 10000) : ∃ l : List Nat, (∀ d ∈ l, d < 10) ∧ Lib.decDigits v = l.map (fun d => UInt8.ofNat (48 + d)) ∧
    ((∃ a, l = [a] ∧ v = a) ∨ (∃ a b, l = [a, b] ∧ a ≠ 0 ∧ v = a * 10 + b) ∨ (∃ a b c, l = [a, b, c] ∧ a ≠ 0 ∧ v = (a * 10 + b) * 10 + c) ∨ ∃ a b c d, l = [a, b, c, d] ∧ a ≠ 0 ∧ v = ((a * 10 + b) * 10 + c) * 10 + d) := by
  have big : ∀ u : Nat, ¬ u < 10 → Lib.decDigits u = Lib.decDigits (u / 10) ++ [UInt8.ofNat (48 + u % 10)] := fun u h => by rw [Lib.decDigits, dif_neg h]
  by_cases h1 : v < 10
  · exact ⟨[v], by simp [h1], by rw [Lib.decDigits_one h1]; rfl, .inl ⟨v, rfl, rfl⟩⟩
  · by_cases h2 : v < 100
    · refine ⟨[v / 10, v % 10], by simp; omega, by rw [Lib.decDigits_two h1 h2]; rfl, .inr (.inl ⟨_, _, rfl, by omega, by omega⟩)⟩
    · by_cases h3 : v < 1000
      · refine ⟨[v / 10 / 10, v / 10 % 10, v % 10], by simp; omega, ?_, .inr (.inr (.inl ⟨_, _, _, rfl, by omega, by omega⟩))⟩
        rw [big v h1, Lib.decDigits_two (by omega) (by omega)]
        rfl
      · refine ⟨[v / 10 / 10 / 10, v / 10 / 10 % 10, v / 10 % 10, v % 10], by simp; omega, ?_, .inr (.inr (.inr ⟨_, _, _, _, rfl, by omega, by omega⟩))⟩
        rw [big v h1, big (v / 10) (by omega), Lib.decDigits_two (by omega) (by omega)]
        rfl

theorem ints_digs (l : List Nat) (h : ∀ d ∈ l, d < 10) : ints (l.map (fun d => UInt8.ofNat (48 + d))) = l.map fun d => ((48 + d : Nat) : Int) := by
  unfold ints
  rw [List.map_map]
  exact List.map_congr_left fun d hd => by show ((UInt8.ofNat (48 + d)).toNat : Int) = _; rw [toNat_dig (h d hd)]

theorem valL_dec {v : Nat} (h : v < 10000) : valL (ints (Lib.decDigits v)) = v := by
  obtain ⟨l, hl, e, hc⟩ := digs h
  rw [e, ints_digs l hl]
  rcases hc with ⟨a, rfl, rfl⟩ | ⟨a, b, rfl, h0, rfl⟩ | ⟨a, b, c, rfl, h0, rfl⟩ | ⟨a, b, c, d, rfl, h0, rfl⟩ <;>
    simp only [List.mem_cons, List.not_mem_nil, or_false, forall_eq_or_imp, forall_eq] at hl <;>
    simp only [valL, List.map_cons, List.map_nil, List.length_cons, List.length_nil, List.getD_cons_zero, vgo]
  · rw [if_neg (by omega), if_pos (by omega)]; omega
  · rw [if_neg (by omega), if_pos (by omega), if_pos (by omega)]; omega
  · rw [if_neg (by omega), if_pos (by omega), if_pos (by omega), if_pos (by omega)]; omega
  · rw [if_neg (by omega), if_pos (by omega), if_pos (by omega), if_pos (by omega), if_pos (by omega)]; omega

theorem pM {M acc : Nat} {d : Nat} {r : List UInt8} (hd : d < 10) (ha : acc < 1000) (hM : 10000 ≤ M) : Lib.parseUintM M acc (UInt8.ofNat (48 + d) :: r) = Lib.parseUintM M (acc * 10 + d) r := by
  simp only [Lib.parseUintM, toNat_dig hd]
  rw [if_pos (by omega), if_neg (by omega), if_neg (by omega), show 48 + d - 48 = d by omega]

theorem parse_dec {v : Nat} (h : v < 10000) : Lib.parseIntB 64 (Lib.decDigits v) = .ok v := by
  obtain ⟨l, hl, e, hc⟩ := digs h
  rw [e]
  have key : ∀ a r, l = a :: r → Lib.parseUintM (2 ^ 64 - 1) 0 (l.map (fun d => UInt8.ofNat (48 + d))) = .ok v → Lib.parseIntB 64 (l.map (fun d => UInt8.ofNat (48 + d))) = .ok v := by
    intro a r hl' hp
    subst hl'
    have ha := hl a (by simp)
    rw [List.map_cons] at hp ⊢
    rw [Lib.parseIntB_plain 64 _ _ (by rw [toNat_dig ha]; omega) (by rw [toNat_dig ha]; omega)]
    unfold Lib.parseUintB
    rw [if_neg (by simp), hp]
    unfold Lib.signlessC
    simp only
    rw [if_neg (by omega)]
  rcases hc with ⟨a, rfl, rfl⟩ | ⟨a, b, rfl, h0, rfl⟩ | ⟨a, b, c, rfl, h0, rfl⟩ | ⟨a, b, c, d, rfl, h0, rfl⟩ <;>
    simp only [List.mem_cons, List.not_mem_nil, or_false, forall_eq_or_imp, forall_eq] at hl <;>
    refine key _ _ rfl ?_ <;> simp only [List.map_cons, List.map_nil]
  · rw [pM (by omega) (by omega) (by omega)]; simp [Lib.parseUintM]
  · rw [pM (by omega) (by omega) (by omega), pM (by omega) (by omega) (by omega)]; simp [Lib.parseUintM]
  · rw [pM (by omega) (by omega) (by omega), pM (by omega) (by omega) (by omega), pM (by omega) (by omega) (by omega)]; simp [Lib.parseUintM]
  · rw [pM (by omega) (by omega) (by omega), pM (by omega) (by omega) (by omega), pM (by omega) (by omega) (by omega), pM (by omega) (by omega) (by omega)]; simp [Lib.parseUintM]

theorem vgo_neg : ∀ {s : List Int} {v : Int}, 0 ≤ v → 0 ≤ vgo v s → ∀ b ∈ s, 48 ≤ b ∧ b ≤ 57
  | [], _, _, _, b, hb => by simp at hb
  | x :: r, v, hv, h, b, hb => by
    unfold vgo at h
    split at h
    · rename_i hx
      rcases List.mem_cons.1 hb with rfl | hb
      · exact hx
      · exact vgo_neg (by omega) h b hb
    · omega

/-- A text that tells a number is the number's digits. -/
theorem dec_valL {s : List Int} (h : 0 ≤ valL s) : valL s < 10000 ∧ u8 s = Lib.decDigits (valL s).toNat := by
  unfold valL at h ⊢
  split at h
  · omega
  · rename_i hn
    rw [if_neg hn]
    have hd := vgo_neg (Int.le_refl 0) h
    have big : ∀ u : Nat, ¬ u < 10 → Lib.decDigits u = Lib.decDigits (u / 10) ++ [UInt8.ofNat (48 + u % 10)] := fun u h => by rw [Lib.decDigits, dif_neg h]
    match s, hn, hd, h with
    | [], hn, _, _ => simp at hn
    | [a], hn, hd, _ =>
      simp only [List.mem_cons, List.not_mem_nil, or_false, forall_eq_or_imp, forall_eq] at hd
      simp only [vgo]
      rw [if_pos (by omega)]
      refine ⟨by omega, ?_⟩
      rw [Lib.decDigits_one (by omega)]
      simp only [u8, List.map_cons, List.map_nil]
      rw [show a.toNat = 48 + (0 * 10 + (a - 48)).toNat by omega]
    | [a, b], hn, hd, _ =>
      simp only [List.mem_cons, List.not_mem_nil, or_false, forall_eq_or_imp, forall_eq] at hd
      simp only [List.length_cons, List.length_nil, List.getD_cons_zero] at hn
      simp only [vgo]
      rw [if_pos (by omega), if_pos (by omega)]
      refine ⟨by omega, ?_⟩
      rw [Lib.decDigits_two (by omega) (by omega)]
      simp only [u8, List.map_cons, List.map_nil]
      congr 1
      · congr 1; omega
      · congr 2; omega
    | [a, b, c], hn, hd, _ =>
      simp only [List.mem_cons, List.not_mem_nil, or_false, forall_eq_or_imp, forall_eq] at hd
      simp only [List.length_cons, List.length_nil, List.getD_cons_zero] at hn
      simp only [vgo]
      rw [if_pos (by omega), if_pos (by omega), if_pos (by omega)]
      refine ⟨by omega, ?_⟩
      rw [big _ (by omega), Lib.decDigits_two (by omega) (by omega)]
      simp only [u8, List.map_cons, List.map_nil, List.cons_append, List.nil_append]
      congr 1
      · congr 1; omega
      · congr 1
        · congr 1; omega
        · congr 2; omega
    | [a, b, c, d], hn, hd, _ =>
      simp only [List.mem_cons, List.not_mem_nil, or_false, forall_eq_or_imp, forall_eq] at hd
      simp only [List.length_cons, List.length_nil, List.getD_cons_zero] at hn
      simp only [vgo]
      rw [if_pos (by omega), if_pos (by omega), if_pos (by omega), if_pos (by omega)]
      refine ⟨by omega, ?_⟩
      rw [big _ (by omega), big (_ / 10) (by omega), Lib.decDigits_two (by omega) (by omega)]
      simp only [u8, List.map_cons, List.map_nil, List.cons_append, List.nil_append]
      congr 1
      · congr 1; omega
      · congr 1
        · congr 1; omega
        · congr 1
          · congr 1; omega
          · congr 2; omega
    | _ :: _ :: _ :: _ :: _ :: _, hn, _, _ => simp at hn

theorem itoa_nat (v : Nat) : Lib.itoa v = Lib.decDigits v := by
  unfold Lib.itoa
  rw [if_neg (by omega)]
  rfl

/-- What reading a number tells is what its digits tell. -/
theorem readL_val {s : List Int} (hb : ∀ b ∈ s, 0 ≤ b ∧ b < 256) : (readL s).2 = decide (0 ≤ valL s) ∧ (0 ≤ valL s → (readL s).1 = valL s) := by
  unfold readL
  rw [baOf_toList]
  by_cases h : 0 ≤ valL s
  · obtain ⟨h1, h2⟩ := dec_valL h
    have hv : ((valL s).toNat : Int) = valL s := Int.toNat_of_nonneg h
    rw [h2, parse_dec (by omega)]
    simp only [hv]
    refine ⟨?_, fun _ => trivial⟩
    have : Lib.itoa (valL s) = Lib.decDigits (valL s).toNat := by rw [← itoa_nat, hv]
    rw [this]
    simp only [h, decide_true, Bool.true_and, BEq.rfl, Bool.and_true, decide_eq_true_eq]
    omega
  · refine ⟨?_, fun h' => absurd h' h⟩
    simp only [h, decide_false]
    rcases num_cases (Lib.parseIntB 64 (u8 s)) with ⟨v, hp⟩ | hp | hp
    rotate_left
    · rw [hp]
    · rw [hp]
    · rw [hp]
      simp only [Bool.and_eq_false_imp, Bool.and_eq_true, decide_eq_true_eq]
      rintro ⟨h0, h1⟩
      cases he : (Lib.itoa v == u8 s) with
      | false => rfl
      | true =>
        have he := eq_of_beq he
        have hv : ((v.toNat : Nat) : Int) = v := Int.toNat_of_nonneg h0
        rw [← hv, itoa_nat] at he
        have : ints (Lib.decDigits v.toNat) = s := by rw [he, ints_u8 hb]
        have h3 := valL_dec (v := v.toNat) (by omega)
        rw [this] at h3
        omega

theorem valL_lt {s : List Int} (h : 0 ≤ valL s) : valL s < 10000 := (dec_valL h).1
theorem valL_nil : valL [] = -1 := rfl
end Go.Proofs.YtcelknaomealbaaDoor.NumLib
