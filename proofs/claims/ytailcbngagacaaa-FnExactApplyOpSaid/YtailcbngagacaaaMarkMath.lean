/- Marks: what is written into a result, and that it is found again. -/
import Derived.Test.YtailcbngagacaaaOwF
import Derived.Test.YtailcbngagacaaaLoopLib
import Derived.Test.YtailcbngagacaaaStoreMath
import Derived.Test.YtailcbngagacaaaOpsMath
import Derived.Test.YtailcbngagacaaaApplyF
set_option linter.unusedSectionVars false
set_option linter.unusedVariables false
set_option linter.unusedSimpArgs false
namespace Go.Proofs.Ytailcbngagacaaa.MarkMath
open Go Go.Proofs.Ytailcbngagacaaa.Ow Go.Proofs.Ytailcbngagacaaa.ApplyF Go.Proofs.Ytailcbngagacaaa.LoopLib Go.Proofs.Ytailcbngagacaaa.StoreMath Go.Proofs.Ytailcbngagacaaa.OpsMath

theorem setL_len {A : Type} {xs : List A} {i : Nat} {d : A} {f : A → A} : (setL xs i d f).length = xs.length := by simp [setL]
theorem setL_twice {A : Type} {xs : List A} {i : Nat} {d : A} {f g : A → A} (h : i < xs.length) : setL (setL xs i d f) i d g = setL xs i d (fun z => g (f z)) := by
  unfold setL
  rw [List.set_set, set_getD h]
theorem setL_getD {A : Type} {xs : List A} {i : Nat} {d : A} {f : A → A} (h : i < xs.length) : (setL xs i d f).getD i d = f (xs.getD i d) := set_getD h _ _

/-! ### Numbers and bytes -/
def mI (k : Int) (l : Nat) : List Int := (List.range l).map fun (i : Nat) => k + (i : Int)
def mB (k : Int) (l : Nat) : List Int := (List.range l).map fun (i : Nat) => IntKind.u8.wrap (k + (i : Int))

theorem markInt64S {n : Nat} {xs : List Int} {k : Int} (hb : xs.length ≤ big) (hn : big < n) (h0 : 0 ≤ k) (h1 : k ≤ 2305843009213693952) : F_laws_markInt64S n xs k = some (k + (xs.length : Int), mI k xs.length, ()) := by
  have hb' : xs.length ≤ 1048576 := hb
  have hl : (mI k xs.length).length = xs.length := by simp [mI]
  unfold F_laws_markInt64S
  have h := mark_loop (B := fun L1 v1 => (if decide (v1.2.1 < (v1.2.2.1.length : Int)) = true then (if inLen v1.2.1 v1.2.2.1.length then L1 (IntKind.i64.wrap (v1.1 + (1 : Int)), IntKind.i64.wrap (v1.2.1 + (1 : Int)), v1.2.2.1.set v1.2.1.toNat v1.1, ()) else none) else some (v1.1, v1.2.2.1, ())))
    (xs := xs) (ys := mI k xs.length) (K := fun i => k + i) (n := n) hl (by omega) ?_ ?_
  · simpa using h
  · intro L i hi
    simp only [mix_len hl (Nat.le_of_lt hi), Int.ofNat_lt, hi, decide_true, if_true, inLen_nat hi, Int.toNat_natCast, wrap_succ hi (by omega)]
    rw [wrap_i64 (by omega) (by omega), mix_set hl hi _ (by simp [mI])]
    congr 2
    omega
  · intro L
    simp [hl]
theorem heldInt64S {n : Nat} {l : Nat} {k : Int} (hb : l ≤ big) (hn : big < n) (h0 : 0 ≤ k) (h1 : k ≤ 2305843009213693952) : F_laws_heldInt64S n (mI k l) k = some (k + (l : Int), ()) := by
  have hb' : l ≤ 1048576 := hb
  have hl : (mI k l).length = l := by simp [mI]
  unfold F_laws_heldInt64S
  have h := held_loop (B := fun L1 v1 => (if decide (v1.2.2.1 < (v1.1.length : Int)) = true then (if inLen v1.2.2.1 v1.1.length then (if (!decide ((v1.1.getD v1.2.2.1.toNat (0 : Int)) = v1.2.1)) = true then some ((-1 : Int), ()) else L1 (v1.1, IntKind.i64.wrap (v1.2.1 + (1 : Int)), IntKind.i64.wrap (v1.2.2.1 + (1 : Int)), ())) else none) else some (v1.2.1, ())))
    (ys := mI k l) (K := fun i => k + i) (n := n) (by omega) ?_ ?_
  · rw [hl] at h
    simpa using h
  · intro L i hi
    have hi' : i < l := by omega
    have hg : (mI k l)[i] = k + (i : Int) := by simp [mI]
    simp only [Int.ofNat_lt, hi, decide_true, if_true, inLen_nat hi, getD_nat hi, hg, Bool.not_true, Bool.false_eq_true, if_false, wrap_succ hi (by omega)]
    rw [wrap_i64 (by omega) (by omega)]
    congr 3
    omega
  · intro L
    simp

theorem markByteS {n : Nat} {xs : List Int} {k : Int} (hb : xs.length ≤ big) (hn : big < n) (h0 : 0 ≤ k) (h1 : k ≤ 4611686018427387904) : F_laws_markByteS n xs k = some (k + (xs.length : Int), mB k xs.length, ()) := by
  have hb' : xs.length ≤ 1048576 := hb
  have hl : (mB k xs.length).length = xs.length := by simp [mB]
  unfold F_laws_markByteS
  have h := mark_loop (B := fun L1 v1 => (if decide (v1.2.1 < (v1.2.2.1.length : Int)) = true then (if inLen v1.2.1 v1.2.2.1.length then L1 (IntKind.i64.wrap (v1.1 + (1 : Int)), IntKind.i64.wrap (v1.2.1 + (1 : Int)), v1.2.2.1.set v1.2.1.toNat (IntKind.u8.wrap v1.1), ()) else none) else some (v1.1, v1.2.2.1, ())))
    (xs := xs) (ys := mB k xs.length) (K := fun i => k + i) (n := n) hl (by omega) ?_ ?_
  · simpa using h
  · intro L i hi
    simp only [mix_len hl (Nat.le_of_lt hi), Int.ofNat_lt, hi, decide_true, if_true, inLen_nat hi, Int.toNat_natCast, wrap_succ hi (by omega)]
    rw [wrap_i64 (by omega) (by omega), mix_set hl hi _ (by simp [mB])]
    congr 2
    omega
  · intro L
    simp [hl]
theorem heldByteS {n : Nat} {l : Nat} {k : Int} (hb : l ≤ big) (hn : big < n) (h0 : 0 ≤ k) (h1 : k ≤ 4611686018427387904) : F_laws_heldByteS n (mB k l) k = some (k + (l : Int), ()) := by
  have hb' : l ≤ 1048576 := hb
  have hl : (mB k l).length = l := by simp [mB]
  unfold F_laws_heldByteS
  have h := held_loop (B := fun L1 v1 => (if decide (v1.2.2.1 < (v1.1.length : Int)) = true then (if inLen v1.2.2.1 v1.1.length then (if (!decide ((v1.1.getD v1.2.2.1.toNat (0 : Int)) = (IntKind.u8.wrap v1.2.1))) = true then some ((-1 : Int), ()) else L1 (v1.1, IntKind.i64.wrap (v1.2.1 + (1 : Int)), IntKind.i64.wrap (v1.2.2.1 + (1 : Int)), ())) else none) else some (v1.2.1, ())))
    (ys := mB k l) (K := fun i => k + i) (n := n) (by omega) ?_ ?_
  · rw [hl] at h
    simpa using h
  · intro L i hi
    have hi' : i < l := by omega
    have hg : (mB k l)[i] = IntKind.u8.wrap (k + (i : Int)) := by simp [mB]
    simp only [Int.ofNat_lt, hi, decide_true, if_true, inLen_nat hi, getD_nat hi, hg, Bool.not_true, Bool.false_eq_true, if_false, wrap_succ hi (by omega)]
    rw [wrap_i64 (by omega) (by omega)]
    congr 3
    omega
  · intro L
    simp

/-! ### Messages -/
def kM (k : Int) (ms : List Msg) : Nat → Int
  | 0 => k
  | i + 1 => kM k ms i + 3 + ((ms.getD i dM).2.2.2.1.length : Int)
def mM (k : Int) (ms : List Msg) : List Msg := (List.range ms.length).map fun (i : Nat) => (kM k ms i, kM k ms i + 1, kM k ms i + 2, mB (kM k ms i + 3) (ms.getD i dM).2.2.2.1.length, ())
theorem mM_length (k : Int) (ms : List Msg) : (mM k ms).length = ms.length := by simp [mM]

theorem kM_bound {k : Int} {ms : List Msg} (h : ∀ m ∈ ms, okM m) : ∀ i, i ≤ ms.length → k ≤ kM k ms i ∧ kM k ms i ≤ k + 1048579 * (i : Int)
  | 0, _ => by simp [kM]
  | i + 1, hi => by
    have := kM_bound (k := k) h i (by omega)
    have h1 := h _ (getD_mem (xs := ms) (k := i) (by omega) dM)
    unfold okM big at h1
    unfold kM
    omega

theorem markMessageS {n : Nat} {ms : List Msg} {k : Int} (hb : ms.length ≤ big) (h : ∀ m ∈ ms, okM m) (hn : big < n) (h0 : 0 ≤ k) (h1 : k ≤ 2305843009213693952) : F_laws_markMessageS n ms k = some (kM k ms ms.length, mM k ms, ()) := by
  have hb' : ms.length ≤ 1048576 := hb
  have hl := mM_length k ms
  unfold F_laws_markMessageS
  refine mark_loop (xs := ms) (ys := mM k ms) (K := kM k ms) (n := n) hl (by omega) ?_ ?_
  · intro L i hi
    have hlen := mix_len hl (Nat.le_of_lt hi)
    have hlt : i < ((mM k ms).take i ++ ms.drop i).length := by omega
    have hget := mix_get hl hi dM
    have hkb := kM_bound (k := k) h i (Nat.le_of_lt hi)
    have hm : (ms[i]).2.2.2.1.length ≤ big := h _ (List.getElem_mem hi)
    have w1 : IntKind.i64.wrap (kM k ms i + 1) = kM k ms i + 1 := wrap_i64 (by omega) (by omega)
    have w2 : IntKind.i64.wrap (kM k ms i + 1 + 1) = kM k ms i + 2 := by rw [wrap_i64 (by omega) (by omega)]; omega
    have w3 : IntKind.i64.wrap (kM k ms i + 2 + 1) = kM k ms i + 3 := by rw [wrap_i64 (by omega) (by omega)]; omega
    have hs := mix_set hl hi (kM k ms i, kM k ms i + 1, kM k ms i + 2, mB (kM k ms i + 3) (ms[i]).2.2.2.1.length, ()) (by simp [mM, hi])
    have hk : kM k ms (i + 1) = kM k ms i + 3 + ((ms[i]).2.2.2.1.length : Int) := by rw [← getD_lt hi dM]; rfl
    simp only [setL_len, hlen, Int.ofNat_lt, hi, decide_true, if_true, inLen_nat hi, Int.toNat_natCast, setL_twice hlt, setL_getD hlt, hget, w1, w2, w3, wrap_succ hi (by omega), markByteS hm hn (show 0 ≤ kM k ms i + 3 by omega) (by omega), Option.bind_some]
    rw [hk, ← hs]
    unfold setL
    rw [hget]
  · intro L
    simp [hl]

theorem heldMessageS {n : Nat} {ms : List Msg} {k : Int} (hb : ms.length ≤ big) (h : ∀ m ∈ ms, okM m) (hn : big < n) (h0 : 0 ≤ k) (h1 : k ≤ 2305843009213693952) : F_laws_heldMessageS n (mM k ms) k = some (kM k ms ms.length, ()) := by
  have hb' : ms.length ≤ 1048576 := hb
  have hl := mM_length k ms
  unfold F_laws_heldMessageS
  rw [← hl]
  refine held_loop (ys := mM k ms) (K := kM k ms) (n := n) (by omega) ?_ ?_
  · intro L i hi'
    have hi : i < ms.length := by omega
    have hkb := kM_bound (k := k) h i (Nat.le_of_lt hi)
    have hm : (ms[i]).2.2.2.1.length ≤ big := h _ (List.getElem_mem hi)
    have w1 : IntKind.i64.wrap (kM k ms i + 1) = kM k ms i + 1 := wrap_i64 (by omega) (by omega)
    have w2 : IntKind.i64.wrap (kM k ms i + 1 + 1) = kM k ms i + 2 := by rw [wrap_i64 (by omega) (by omega)]; omega
    have w3 : IntKind.i64.wrap (kM k ms i + 2 + 1) = kM k ms i + 3 := by rw [wrap_i64 (by omega) (by omega)]; omega
    have hg : (mM k ms)[i] = (kM k ms i, kM k ms i + 1, kM k ms i + 2, mB (kM k ms i + 3) (ms[i]).2.2.2.1.length, ()) := by simp [mM, hi]
    have hk : kM k ms (i + 1) = kM k ms i + 3 + ((ms[i]).2.2.2.1.length : Int) := by rw [← getD_lt hi dM]; rfl
    have hneg : ¬ (kM k ms i + 3 + ((ms[i]).2.2.2.1.length : Int) < 0) := by omega
    simp only [Int.ofNat_lt, hi', decide_true, if_true, inLen_nat hi', getD_nat hi', hg, w1, w2, w3, Bool.not_true, Bool.false_eq_true, if_false, heldByteS hm hn (show 0 ≤ kM k ms i + 3 by omega) (by omega), Option.bind_some, wrap_succ hi' (by omega), hneg, decide_false, hk]
  · intro L
    simp

/-! ### Texts and boxes -/
theorem markText_some {n : Nat} (hn : 70 ≤ n) {k : Int} (h1 : k < 4611686018427387904) : ∃ r, F_laws_markText n k = some (r, ()) := by
  unfold F_laws_markText
  by_cases h0 : k ≤ 0
  · exact ⟨[109, 48], by simp [h0]⟩
  · simp only [h0, decide_false, Bool.false_eq_true, if_false]
    exact digits_loop [109] (fun v => IntKind.u8.wrap (IntKind.i64.wrap ((48 : Int) + (v.tmod (10 : Int))))) (by simp) (fun L v => rfl) 62 n k [] (by omega) (by omega) h1 (by simp)
def txt (n : Nat) (k : Int) : List Int := ((F_laws_markText n k).getD ([], ())).1
theorem txt_eq {n : Nat} (hn : 70 ≤ n) {k : Int} (h1 : k < 4611686018427387904) : F_laws_markText n k = some (txt n k, ()) := by
  obtain ⟨r, h⟩ := markText_some hn h1
  unfold txt
  rw [h]
  rfl

def kX (k : Int) (bs : List Bx) : Nat → Int
  | 0 => k
  | i + 1 => kM (kX k bs i + 3) (bs.getD i dB).2.2.2.1 (bs.getD i dB).2.2.2.1.length
def mX (n : Nat) (k : Int) (bs : List Bx) : List Bx := (List.range bs.length).map fun (i : Nat) => (txt n (kX k bs i), kX k bs i + 1, kX k bs i + 2, mM (kX k bs i + 3) (bs.getD i dB).2.2.2.1, ())
theorem mX_length (n : Nat) (k : Int) (bs : List Bx) : (mX n k bs).length = bs.length := by simp [mX]
theorem kX_bound {k : Int} {bs : List Bx} (h : ∀ b ∈ bs, okB b) : ∀ i, i ≤ bs.length → k ≤ kX k bs i ∧ kX k bs i ≤ k + 1099514773507 * (i : Int)
  | 0, _ => by simp [kX]
  | i + 1, hi => by
    have := kX_bound (k := k) h i (by omega)
    have h1 := h _ (getD_mem (xs := bs) (k := i) (by omega) dB)
    have h2 := kM_bound (k := kX k bs i + 3) h1.2.2 _ (Nat.le_refl _)
    have h3 := h1.2.1
    unfold big at h3
    unfold kX
    omega

theorem markBoxS {n : Nat} {bs : List Bx} {k : Int} (hb : bs.length ≤ big) (h : ∀ b ∈ bs, okB b) (hn : big < n) (h0 : 0 ≤ k) (h1 : k ≤ 1099511627776) : F_laws_markBoxS n bs k = some (kX k bs bs.length, mX n k bs, ()) := by
  have hb' : bs.length ≤ 1048576 := hb
  have hn' : 1048576 < n := hn
  have hl := mX_length n k bs
  unfold F_laws_markBoxS
  refine mark_loop (xs := bs) (ys := mX n k bs) (K := kX k bs) (n := n) hl (by omega) ?_ ?_
  · intro L i hi
    have hlen := mix_len hl (Nat.le_of_lt hi)
    have hlt : i < ((mX n k bs).take i ++ bs.drop i).length := by omega
    have hget := mix_get hl hi dB
    have hkb := kX_bound (k := k) h i (Nat.le_of_lt hi)
    have hB := h _ (List.getElem_mem hi)
    have w1 : IntKind.i64.wrap (kX k bs i + 1) = kX k bs i + 1 := wrap_i64 (by omega) (by omega)
    have w2 : IntKind.i64.wrap (kX k bs i + 1 + 1) = kX k bs i + 2 := by rw [wrap_i64 (by omega) (by omega)]; omega
    have w3 : IntKind.i64.wrap (kX k bs i + 2 + 1) = kX k bs i + 3 := by rw [wrap_i64 (by omega) (by omega)]; omega
    have hs := mix_set hl hi (txt n (kX k bs i), kX k bs i + 1, kX k bs i + 2, mM (kX k bs i + 3) (bs[i]).2.2.2.1, ()) (by simp [mX, hi])
    have hk : kX k bs (i + 1) = kM (kX k bs i + 3) (bs[i]).2.2.2.1 (bs[i]).2.2.2.1.length := by rw [← getD_lt hi dB]; rfl
    simp only [setL_len, hlen, Int.ofNat_lt, hi, decide_true, if_true, inLen_nat hi, Int.toNat_natCast, setL_twice hlt, setL_getD hlt, hget, w1, w2, w3, wrap_succ hi (by omega), txt_eq (n := n) (k := kX k bs i) (by omega) (by omega), markMessageS hB.2.1 hB.2.2 hn (show 0 ≤ kX k bs i + 3 by omega) (by omega), Option.bind_some]
    rw [hk, ← hs]
    unfold setL
    rw [hget]
  · intro L
    simp [hl]

theorem heldBoxS {n : Nat} {bs : List Bx} {k : Int} (hb : bs.length ≤ big) (h : ∀ b ∈ bs, okB b) (hn : big < n) (h0 : 0 ≤ k) (h1 : k ≤ 1099511627776) : F_laws_heldBoxS n (mX n k bs) k = some (kX k bs bs.length, ()) := by
  have hb' : bs.length ≤ 1048576 := hb
  have hn' : 1048576 < n := hn
  have hl := mX_length n k bs
  unfold F_laws_heldBoxS
  rw [← hl]
  refine held_loop (ys := mX n k bs) (K := kX k bs) (n := n) (by omega) ?_ ?_
  · intro L i hi'
    have hi : i < bs.length := by omega
    have hkb := kX_bound (k := k) h i (Nat.le_of_lt hi)
    have hB := h _ (List.getElem_mem hi)
    have w1 : IntKind.i64.wrap (kX k bs i + 1) = kX k bs i + 1 := wrap_i64 (by omega) (by omega)
    have w2 : IntKind.i64.wrap (kX k bs i + 1 + 1) = kX k bs i + 2 := by rw [wrap_i64 (by omega) (by omega)]; omega
    have w3 : IntKind.i64.wrap (kX k bs i + 2 + 1) = kX k bs i + 3 := by rw [wrap_i64 (by omega) (by omega)]; omega
    have hg : (mX n k bs)[i] = (txt n (kX k bs i), kX k bs i + 1, kX k bs i + 2, mM (kX k bs i + 3) (bs[i]).2.2.2.1, ()) := by simp [mX, hi]
    have hk : kX k bs (i + 1) = kM (kX k bs i + 3) (bs[i]).2.2.2.1 (bs[i]).2.2.2.1.length := by rw [← getD_lt hi dB]; rfl
    have hneg : ¬ (kM (kX k bs i + 3) (bs[i]).2.2.2.1 (bs[i]).2.2.2.1.length < 0) := by
      have := kM_bound (k := kX k bs i + 3) hB.2.2 _ (Nat.le_refl _)
      omega
    simp only [Int.ofNat_lt, hi', decide_true, if_true, inLen_nat hi', getD_nat hi', hg, w1, w2, w3, Bool.not_true, Bool.false_eq_true, if_false, txt_eq (n := n) (k := kX k bs i) (by omega) (by omega), heldMessageS hB.2.1 hB.2.2 hn (show 0 ≤ kX k bs i + 3 by omega) (by omega), Option.bind_some, wrap_succ hi' (by omega), hneg, decide_false, hk]
  · intro L
    simp

def mS (n : Nat) (k : Int) (s : Sto) : Sto := (s.1, mX n k s.2.1, ())
def kS (k : Int) (s : Sto) : Int := kX k s.2.1 s.2.1.length
theorem kS_bound {k : Int} {s : Sto} (h : okS s) : k ≤ kS k s ∧ kS k s ≤ k + 1152924803144876032 := by
  have h1 := kX_bound (k := k) h.2 _ (Nat.le_refl _)
  have h2 := h.1
  unfold big at h2
  unfold kS
  omega
theorem markStore {n : Nat} {s : Sto} {k : Int} (h : okS s) (hn : big < n) (h0 : 0 ≤ k) (h1 : k ≤ 1099511627776) : F_laws_markStore n s k = some (kS k s, mS n k s, ()) := by
  unfold F_laws_markStore
  rw [markBoxS h.1 h.2 hn h0 h1]
  rfl
theorem heldStore {n : Nat} {s : Sto} {k : Int} (h : okS s) (hn : big < n) (h0 : 0 ≤ k) (h1 : k ≤ 1099511627776) : F_laws_heldStore n (mS n k s) k = some (kS k s, ()) := by
  have hb := kS_bound (k := k) h
  unfold F_laws_heldStore
  have h2 : F_laws_heldBoxS n (mS n k s).2.1 k = some (kS k s, ()) := heldBoxS h.1 h.2 hn h0 h1
  rw [h2]
  have hneg : ¬ (kS k s < 0) := by omega
  simp only [Option.bind_some, hneg, decide_false, Bool.false_eq_true, if_false]
end Go.Proofs.Ytailcbngagacaaa.MarkMath
