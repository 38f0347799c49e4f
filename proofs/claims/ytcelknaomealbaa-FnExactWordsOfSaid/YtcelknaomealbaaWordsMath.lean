/- 'FnExactWordsOf': what its functions come to. -/
import Derived.Test.YtcelknaomealbaaOwF
import Derived.Test.YtcelknaomealbaaLoopLib
import Derived.Test.YtcelknaomealbaaFieldsLib
import Derived.Test.YtcelknaomealbaaWordsF
set_option linter.unusedSectionVars false
set_option linter.unusedVariables false
set_option linter.unusedSimpArgs false
namespace Go.Proofs.Ytcelknaomealbaa.WordsMath
open Go Go.Proofs.Ytcelknaomealbaa.Ow Go.Proofs.Ytcelknaomealbaa.WordsF Go.Proofs.Ytcelknaomealbaa.LoopLib Go.Proofs.Ytcelknaomealbaa.FieldsLib

/-! ### Marks of texts -/
theorem markText_some {n : Nat} (hn : 70 ≤ n) {k : Int} (h1 : k < 4611686018427387904) : ∃ r, F_laws_markText n k = some (r, ()) := by
  unfold F_laws_markText
  by_cases h0 : k ≤ 0
  · exact ⟨[109, 48], by simp [h0]⟩
  · simp only [h0, decide_false, Bool.false_eq_true, if_false]
    exact digits_loop [109] (fun v => IntKind.u8.wrap (IntKind.i64.wrap ((48 : Int) + (v.tmod (10 : Int))))) (by simp) (fun L v => rfl) 62 n k [] (by omega) (by omega) h1 (by simp)

def txt (n : Nat) (k : Int) : List Int := ((F_laws_markText n k).getD ([], ())).1
theorem txt_eq {n : Nat} (hn : 70 ≤ n) {k : Int} (h1 : k < 4611686018427387904) : F_laws_markText n k = some (txt n k, ()) := by
  obtain ⟨r, h⟩ := markText_some hn h1
  unfold txt
  rw [h]
  rfl

def marked (n : Nat) (xs : List (List Int)) (k : Int) : List (List Int) := (List.range xs.length).map fun (i : Nat) => txt n (k + (i : Int))

theorem markStringS {n : Nat} {xs : List (List Int)} {k : Int} (hb : xs.length ≤ 2097152) (hn : 2097152 < n) (h0 : 0 ≤ k) (h1 : k < 2305843009213693952) : F_laws_markStringS n xs k = some (k + xs.length, marked n xs k, ()) := by
  unfold F_laws_markStringS
  have hl : (marked n xs k).length = xs.length := by simp [marked]
  have h := mark_loop (B := fun L1 v1 => (if decide (v1.2.1 < (v1.2.2.1.length : Int)) = true then ((F_laws_markText n v1.1).bind fun r2 => (if inLen v1.2.1 v1.2.2.1.length then L1 (IntKind.i64.wrap (v1.1 + (1 : Int)), IntKind.i64.wrap (v1.2.1 + (1 : Int)), v1.2.2.1.set v1.2.1.toNat r2.1, ()) else none)) else some (v1.1, v1.2.2.1, ())))
    (xs := xs) (ys := marked n xs k) (K := fun i => k + i) (n := n) hl (by omega) ?_ ?_
  · simpa using h
  · intro L i hi
    simp only [mix_len hl (Nat.le_of_lt hi), Int.ofNat_lt, hi, decide_true, if_true, inLen_nat hi, txt_eq (n := n) (by omega) (show k + (i : Int) < _ by omega), Option.bind_some, Int.toNat_natCast, wrap_succ hi (by omega)]
    rw [wrap_i64 (by omega) (by omega), mix_set hl hi _ (by simp [marked])]
    congr 2
    omega
  · intro L
    simp [hl]

theorem heldStringS {n : Nat} {xs : List (List Int)} {k : Int} (hb : xs.length ≤ 2097152) (hn : 2097152 < n) (h0 : 0 ≤ k) (h1 : k < 2305843009213693952) : F_laws_heldStringS n (marked n xs k) k = some (k + xs.length, ()) := by
  unfold F_laws_heldStringS
  have hl : (marked n xs k).length = xs.length := by simp [marked]
  have h := held_loop (B := fun L1 v1 => (if decide (v1.2.2.1 < (v1.1.length : Int)) = true then (if inLen v1.2.2.1 v1.1.length then ((F_laws_markText n v1.2.1).bind fun r2 => (if (!decide ((v1.1.getD v1.2.2.1.toNat ([] : List Int)) = r2.1)) = true then some ((-1 : Int), ()) else L1 (v1.1, IntKind.i64.wrap (v1.2.1 + (1 : Int)), IntKind.i64.wrap (v1.2.2.1 + (1 : Int)), ()))) else none) else some (v1.2.1, ())))
    (ys := marked n xs k) (K := fun i => k + i) (n := n) (by omega) ?_ ?_
  · rw [hl] at h
    simpa using h
  · intro L i hi
    have hi' : i < xs.length := by omega
    simp only [Int.ofNat_lt, hi, decide_true, if_true, inLen_nat hi, txt_eq (n := n) (by omega) (show k + (i : Int) < _ by omega), Option.bind_some, getD_nat hi, wrap_succ hi (by omega)]
    rw [wrap_i64 (by omega) (by omega)]
    have : (marked n xs k)[i] = txt n (k + i) := by simp [marked]
    rw [this]
    simp only [decide_true, Bool.not_true, Bool.false_eq_true, if_false]
    congr 3
    omega
  · intro L
    simp

theorem eqStringS {n : Nat} {xs : List (List Int)} (hb : xs.length ≤ 2097152) (hn : 2097152 < n) : F_laws_eqStringS n xs xs = some (true, ()) := by
  unfold F_laws_eqStringS
  rw [if_neg (by simp)]
  exact eq_loop (f := fun x y => some (decide (x = y), ())) (d := ([] : List Int)) (fun L v => rfl) (fun _ _ => by simp) (by unfold big; omega) (by unfold big; omega)

/-! ### The reference -/
def cutR : List Int → List Int → List (List Int)
  | [], cur => [cur]
  | b :: l, cur => if b = 32 then cur :: cutR l [] else cutR l (cur ++ [b])

theorem cut_fb : ∀ (l cur : List Int), (cutR l cur).filter (fun x => !decide (x = [])) = fb l cur
  | [], cur => by
    by_cases h : cur = [] <;> simp [cutR, fb, h]
  | b :: l, cur => by
    have i1 := cut_fb l []
    have i2 := cut_fb l (cur ++ [b])
    simp only [cutR, fb]
    by_cases hb : b = 32
    · rw [if_pos hb, if_pos hb]
      by_cases h : cur = []
      · rw [if_pos h, List.filter_cons_of_neg (by simp [h]), i1]
      · rw [if_neg h, List.filter_cons_of_pos (by simp [h]), i1]
    · rw [if_neg hb, if_neg hb, i2]

def isCut (s : List Int) (i : Nat) : Bool := decide (i = s.length) || decide (s.getD i 0 = 32)
def fr (s : List Int) : Nat → Nat
  | 0 => 0
  | i + 1 => if isCut s i = true then i + 1 else fr s i
def ou (s : List Int) : Nat → List (List Int)
  | 0 => []
  | i + 1 => if isCut s i = true then ou s i ++ [(s.take i).drop (fr s i)] else ou s i
theorem fr_le (s : List Int) : ∀ i, fr s i ≤ i
  | 0 => Nat.le_refl _
  | i + 1 => by
    have := fr_le s i
    unfold fr
    split <;> omega
theorem ou_le (s : List Int) : ∀ i, (ou s i).length ≤ i
  | 0 => Nat.le_refl _
  | i + 1 => by
    have := ou_le s i
    unfold ou
    split
    · simp; omega
    · omega

theorem ou_cut (s : List Int) : ∀ i, i ≤ s.length → ou s i ++ cutR (s.drop i) ((s.take i).drop (fr s i)) = cutR s []
  | 0, _ => by simp [ou, fr]
  | i + 1, h => by
    have ih := ou_cut s i (by omega)
    rw [← ih]
    have hi : i < s.length := by omega
    rw [List.drop_eq_getElem_cons hi]
    rw [ou, fr]
    have hg : s.getD i 0 = s[i] := by simp [hi]
    by_cases hc : isCut s i = true
    · rw [if_pos hc, if_pos hc]
      have h32 : s[i] = 32 := by
        unfold isCut at hc
        rw [hg] at hc
        simp only [Bool.or_eq_true, decide_eq_true_eq] at hc
        omega
      simp only [cutR, h32, if_true, List.append_assoc, List.singleton_append]
      rw [List.drop_eq_nil_of_le (show (s.take (i + 1)).length ≤ i + 1 by simp; omega)]
    · rw [if_neg hc, if_neg hc]
      have h32 : s[i] ≠ 32 := fun e => hc (by unfold isCut; rw [hg]; simp [e])
      simp only [cutR, if_neg h32]
      congr 2
      have := fr_le s i
      rw [List.take_succ_eq_append_getElem hi, List.drop_append_of_le_length (by rw [List.length_take]; omega)]

theorem ou_all (s : List Int) : ou s (s.length + 1) = cutR s [] := by
  have h := ou_cut s s.length (Nat.le_refl _)
  unfold ou
  rw [if_pos (by simp [isCut]), ← h]
  congr 1
  rw [List.drop_length]
  rfl

theorem cut_eq {n : Nat} {s : List Int} (hs : s.length ≤ 1048576) (hn : 2097152 < n) : F_spec_l11Cut n s 32 = some (cutR s [], ()) := by
  unfold F_spec_l11Cut
  refine (rounds_from (fun i => (s, (32 : Int), (fr s i : Int), (i : Int), ou s i, ())) (fun _ => none) (some (cutR s [], ())) (m := s.length + 1) rfl (by omega) ?_ ?_).trans ?_
  · intro L i hi _
    have hf := fr_le s i
    have ho := ou_le s i
    have hle : (i : Int) ≤ (s.length : Int) := by omega
    have hin : 0 ≤ (fr s i : Int) ∧ (fr s i : Int) ≤ (i : Int) ∧ True := ⟨by omega, by omega, trivial⟩
    have hw : IntKind.i64.wrap ((i : Int) + 1) = ((i + 1 : Nat) : Int) := wrap_succ hi (by omega)
    have hz : ((ou s i).length + [(s.take i).drop (fr s i)].length) * 16 ≤ 140737488355328 := by simp; omega
    simp only [hle, decide_true, if_true, hw, Int.toNat_natCast]
    by_cases he : i = s.length
    · have hc : isCut s i = true := by simp [isCut, he]
      have he' : (i : Int) = (s.length : Int) := by omega
      have h1 : fr s (i + 1) = i + 1 := by unfold fr; rw [if_pos hc]
      have h2 : ou s (i + 1) = ou s i ++ [(s.take i).drop (fr s i)] := by rw [ou, if_pos hc]
      simp only [he', decide_true, if_true]
      rw [← he', if_pos hin, if_pos hz, h1, h2]
    · have hlt : i < s.length := by omega
      have he' : ¬ (i : Int) = (s.length : Int) := by omega
      simp only [he', decide_false, Bool.false_eq_true, if_false, inLen_nat hlt, if_true]
      by_cases h32 : s.getD i 0 = 32
      · have hc : isCut s i = true := by unfold isCut; rw [h32]; simp
        have h1 : fr s (i + 1) = i + 1 := by unfold fr; rw [if_pos hc]
        have h2 : ou s (i + 1) = ou s i ++ [(s.take i).drop (fr s i)] := by rw [ou, if_pos hc]
        simp only [h32, decide_true, if_true]
        rw [if_pos hin, if_pos hz, h1, h2]
      · have hc : ¬ isCut s i = true := by unfold isCut; simp only [he, h32, decide_false, Bool.or_self, Bool.false_eq_true, not_false_eq_true]
        have h1 : fr s (i + 1) = fr s i := by rw [fr, if_neg hc]
        have h2 : ou s (i + 1) = ou s i := by rw [ou, if_neg hc]
        simp only [h32, decide_false, Bool.false_eq_true, if_false]
        rw [h1, h2]
  · intro L _
    have : ¬ ((s.length + 1 : Nat) : Int) ≤ (s.length : Int) := by omega
    simp only [this, decide_false, Bool.false_eq_true, if_false, ou_all]
  · exact firstR_none (fun _ _ _ => rfl)

theorem cutR_len : ∀ (l cur : List Int), (cutR l cur).length ≤ l.length + 1
  | [], cur => by simp [cutR]
  | b :: l, cur => by
    have i1 := cutR_len l []
    have i2 := cutR_len l (cur ++ [b])
    simp only [cutR]
    split
    · simp; omega
    · simp only [List.length_cons]; omega

theorem words_eq {n : Nat} {s : List Int} (hs : s.length ≤ 1048576) (hn : 2097152 < n) : F_spec_l16Words n s = some (fb s [], ()) := by
  unfold F_spec_l16Words
  rw [cut_eq hs hn]
  simp only [Option.bind_some]
  have hlen := cutR_len s []
  generalize hw : cutR s [] = w at hlen
  let S : Nat → List (List Int) := fun i => (w.take i).filter (fun x => !decide (x = []))
  have hS : ∀ i, (S i).length ≤ i := fun i => Nat.le_trans (List.length_filter_le _ _) (by rw [List.length_take]; omega)
  refine (rounds_from (fun i => ((i : Int), S i, w, ())) (fun _ => none) (some (fb s [], ())) (m := w.length) (by simp [S]) (by omega) ?_ ?_).trans ?_
  · intro L i hi _
    have hl := hS i
    have hw' : IntKind.i64.wrap ((i : Int) + 1) = ((i + 1 : Nat) : Int) := wrap_succ hi (by omega)
    simp only [Int.ofNat_lt, hi, decide_true, if_true, inLen_nat hi, getD_nat hi, hw']
    have hz : ((S i).length + [w[i]].length) * 16 ≤ 140737488355328 := by simp; omega
    have hsucc : S (i + 1) = if w[i] = [] then S i else S i ++ [w[i]] := by
      show (w.take (i + 1)).filter _ = _
      rw [List.take_succ_eq_append_getElem hi, List.filter_append]
      by_cases h : w[i] = []
      · rw [if_pos h, List.filter_cons_of_neg (by simp [h])]; simp [S]
      · rw [if_neg h, List.filter_cons_of_pos (by simp [h])]; simp [S]
    by_cases h : w[i] = []
    · rw [hsucc, if_pos h]
      simp only [h, decide_true, Bool.not_true, Bool.false_eq_true, if_false]
    · rw [hsucc, if_neg h]
      simp only [h, decide_false, Bool.not_false, if_true]
      rw [if_pos hz]
  · intro L _
    have : S w.length = fb s [] := by
      show (w.take w.length).filter _ = _
      rw [List.take_length, ← hw]
      exact cut_fb s []
    simp [this]
  · exact firstR_none (fun _ _ _ => rfl)

theorem fb_len : ∀ (l cur : List Int), (fb l cur).length ≤ l.length + 1 := fun l cur => by
  rw [← cut_fb]
  exact Nat.le_trans (List.length_filter_le _ _) (cutR_len l cur)

theorem law {s : List Int} (hs : ∃ B, s = bytesOf B) : F_laws_FnExactWordsOf 2097153 s = some (true, ()) := by
  unfold F_laws_FnExactWordsOf
  by_cases hl : (s.length : Int) > 1048576
  · simp [hl]
  · have hl' : s.length ≤ 1048576 := by omega
    obtain ⟨B, rfl⟩ := hs
    have e1 : F_spec_WordsOf 2097153 (bytesOf B) = some (((0 : Int), fb (bytesOf B) [], ()), ()) := by
      unfold F_spec_WordsOf
      rw [words_eq hl' (by omega)]
      rfl
    have e2 : F_impl_WordsOf 2097153 (bytesOf B) = some (((0 : Int), fb (bytesOf B) [], ()), ()) := by
      unfold F_impl_WordsOf F_strings_FieldsFunc_38
      rw [if_pos hl']
      have : fieldsL is32 (bytesOf B) = fb (bytesOf B) [] := by
        unfold fieldsL
        rw [baOf_bytes]
        exact fields32 B
      rw [this]
      rfl
    have hfl := fb_len (bytesOf B) []
    generalize hw : fb (bytesOf B) [] = w at e1 e2 hfl
    have hwl : w.length ≤ 2097152 := by omega
    have e3 : F_laws_eqWordsResult 2097153 ((0 : Int), w, ()) ((0 : Int), w, ()) = some (true, ()) := by
      unfold F_laws_eqWordsResult
      simp [eqStringS hwl (n := 2097153) (by omega)]
    have e4 : F_laws_markWordsResult 2097153 ((0 : Int), w, ()) 1 = some (1 + (w.length : Int), ((0 : Int), marked 2097153 w 1, ()), ()) := by
      unfold F_laws_markWordsResult
      rw [markStringS hwl (by omega) (by omega) (by omega)]
      rfl
    have e5 : F_laws_heldWordsResult 2097153 ((0 : Int), marked 2097153 w 1, ()) 1 = some (1 + (w.length : Int), ()) := by
      unfold F_laws_heldWordsResult
      rw [heldStringS hwl (by omega) (by omega) (by omega)]
      have : ¬ (1 + (w.length : Int) < 0) := by omega
      simp [this]
    have hnn : ¬ (1 + (w.length : Int) < 0) := by omega
    simp only [hl, decide_false, Bool.false_eq_true, if_false, e1, e2, e3, e4, e5, Option.bind_some, Bool.not_true, hnn, decide_true]

theorem all : ∀ (N : Nat) (c : Cont (kin ps_laws_FnExactWordsOf)), lenC ps_laws_FnExactWordsOf c → szC ps_laws_FnExactWordsOf c ≤ N → ∃ n out, E_laws_FnExactWordsOf.F n c = some out ∧ out.1 = true := by
  intro N c hc _
  exact ⟨2097153, (true, ()), law (s := c.1) ⟨baOf c.1, (bytes_baOf hc.1.2).symm⟩, rfl⟩

end Go.Proofs.Ytcelknaomealbaa.WordsMath
