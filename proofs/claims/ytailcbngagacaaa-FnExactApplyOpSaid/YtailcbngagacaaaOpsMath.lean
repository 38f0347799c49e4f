/- Ops on stores: what the printed functions of both sides come to. -/
import Derived.Test.YtailcbngagacaaaOwF
import Derived.Test.YtailcbngagacaaaLoopLib
import Derived.Test.YtailcbngagacaaaCutLib
import Derived.Test.YtailcbngagacaaaTakeLib
import Derived.Test.YtailcbngagacaaaStoreMath
import Derived.Test.YtailcbngagacaaaApplyF
set_option linter.unusedSectionVars false
set_option linter.unusedVariables false
set_option linter.unusedSimpArgs false
namespace Go.Proofs.Ytailcbngagacaaa.OpsMath
open Go Go.Proofs.Ytailcbngagacaaa.Ow Go.Proofs.Ytailcbngagacaaa.ApplyF Go.Proofs.Ytailcbngagacaaa.LoopLib Go.Proofs.Ytailcbngagacaaa.StoreMath

abbrev OpC := Int × List Int × List Int × List Int × Int × Int × Int × List Int × Unit
def okO (o : OpC) : Prop := o.2.1.length ≤ big ∧ o.2.2.1.length ≤ big ∧ o.2.2.2.1.length ≤ big ∧ o.2.2.2.2.2.2.2.1.length ≤ big

/-! ### Copies -/
theorem l1Copy {n : Nat} {bs : List Int} (h : bs.length ≤ big) : F_spec_l1Copy n bs = some (bs, ()) := by
  unfold big at h
  unfold F_spec_l1Copy
  rw [if_pos (by simp; omega)]
  rfl

theorem clone {n : Nat} {bs : List Int} (h : bs.length ≤ big) : F_slices_Clone_byte_byte n bs = some (bs, ()) := by
  unfold big at h
  unfold F_slices_Clone_byte_byte
  have hc : (([] : List Int).length + bs.length) * 1 ≤ 140737488355328 := by simp; omega
  simp only [if_pos hc]
  cases bs with
  | nil => exact (if_pos (show ([] : List Int).isEmpty = true from rfl)).trans (agC_self (ks := [.sl 5 (.int .u8)]) (some (([] : List Int), ())))
  | cons b bs => rfl

theorem l7Messages {n : Nat} {ms : List Msg} (hb : ms.length ≤ big) (h : ∀ m ∈ ms, okM m) (hn : big < n) : F_spec_l7Messages n ms = some (ms, ()) := by
  have hb' := hb
  unfold big at hb
  unfold F_spec_l7Messages
  refine (rounds_from (fun i => (ms, (i : Int), ms.take i, ())) (fun _ => none) (some (ms, ())) (m := ms.length) (by simp) (by omega) ?_ ?_).trans (firstR_none (fun _ _ _ => rfl))
  · intro L i hi _
    have ht : ms.take (i + 1) = ms.take i ++ [ms[i]] := by simp
    have hl : (ms.take i).length ≤ i := by simp; omega
    simp only [Int.ofNat_lt, hi, decide_true, if_true, inLen_nat hi, getD_nat hi, wrap_succ hi (by omega), l1Copy (h ms[i] (List.getElem_mem hi)), Option.bind_some, List.length_singleton, ht]
    rw [if_pos (by omega)]
  · intro L _
    simp

theorem l7CopyBox {n : Nat} {b : Bx} (h : okB b) (hn : big < n) : F_spec_l7CopyBox n b = some (b, ()) := by
  unfold F_spec_l7CopyBox
  rw [l7Messages h.2.1 h.2.2 hn]
  rfl

theorem l7Copy {n : Nat} {s : Sto} (h : okS s) (hn : big < n) : F_spec_l7Copy n s = some (s, ()) := by
  have hb := h.1
  unfold big at hb
  unfold F_spec_l7Copy
  refine (rounds_from (fun i => ((i : Int), s, (0, [], ()), (s.1, s.2.1.take i, ()), ())) (fun _ => none) (some (s, ())) (m := s.2.1.length) (by simp) (by have := h.1; omega) ?_ ?_).trans (firstR_none (fun _ _ _ => rfl))
  · intro L i hi _
    have ht : s.2.1.take (i + 1) = s.2.1.take i ++ [s.2.1[i]] := by simp
    have hl : (s.2.1.take i).length ≤ i := by simp; omega
    simp only [Int.ofNat_lt, hi, decide_true, if_true, inLen_nat hi, getD_nat hi, wrap_succ hi (by omega), l7CopyBox (h.2 _ (List.getElem_mem hi)) hn, Option.bind_some, List.length_singleton, ht]
    rw [if_pos (by omega)]
  · intro L _
    simp

theorem own {n : Nat} {s : Sto} (h : okS s) (hn : big < n) : F_impl_Store_own n s = some (s, ()) := by
  have hb := h.1
  unfold big at hb
  unfold F_impl_Store_own
  refine (rounds_from (fun i => (s.2.1, (s.2.1.length : Int), (i : Int), s, (0, [], ()), (s.1, s.2.1.take i, ()), ())) (fun _ => none) (some (s, ())) (m := s.2.1.length) (by simp) (by have := h.1; omega) ?_ ?_).trans (firstR_none (fun _ _ _ => rfl))
  · intro L i hi _
    have ht : s.2.1.take (i + 1) = s.2.1.take i ++ [s.2.1[i]] := by simp
    have hl : (s.2.1.take i).length ≤ i := by simp; omega
    simp only [Int.ofNat_lt, hi, decide_true, if_true, inLen_nat hi, getD_nat hi]
    have hB := h.2 _ (List.getElem_mem hi)
    generalize s.2.1[i] = b at hB ht ⊢
    have hb2 := hB.2.1
    unfold big at hb2
    refine (rounds_from (fun j => (s.2.1, (s.2.1.length : Int), (i : Int), b.2.2.2.1, (b.2.2.2.1.length : Int), (j : Int), s, (0, [], ()), (s.1, s.2.1.take i, ()), b, (b.1, b.2.1, b.2.2.1, b.2.2.2.1.take j, ()), ())) (fun _ => none) (L (s.2.1, (s.2.1.length : Int), ((i + 1 : Nat) : Int), s, (0, [], ()), (s.1, s.2.1.take (i + 1), ()), ())) (m := b.2.2.2.1.length) (by simp) (by have := hB.2.1; omega) ?_ ?_).trans (firstR_none (fun _ _ _ => rfl))
    · intro L2 j hj _
      have htj : b.2.2.2.1.take (j + 1) = b.2.2.2.1.take j ++ [b.2.2.2.1[j]] := by simp
      have hlj : (b.2.2.2.1.take j).length ≤ j := by simp; omega
      simp only [Int.ofNat_lt, hj, decide_true, if_true, inLen_nat hj, getD_nat hj, wrap_succ hj (by omega), clone (hB.2.2 _ (List.getElem_mem hj)), Option.bind_some, List.length_singleton, htj]
      rw [if_pos (by omega)]
    · intro L2 _
      simp only [Int.lt_irrefl, decide_false, Bool.false_eq_true, if_false, List.take_length, List.length_singleton, wrap_succ hi (by omega), ht]
      rw [if_pos (by omega)]
  · intro L _
    simp

/-! ### Places of boxes -/
def posB (s : Sto) (nm : List Int) : Int := if s.2.1.findIdx (fun b => decide (b.1 = nm)) < s.2.1.length then ((s.2.1.findIdx (fun b => decide (b.1 = nm)) : Nat) : Int) else -1
theorem posB_cases (s : Sto) (nm : List Int) : posB s nm = -1 ∨ ∃ i : Nat, posB s nm = (i : Int) ∧ i < s.2.1.length := by
  unfold posB
  split
  · exact .inr ⟨_, rfl, by assumption⟩
  · exact .inl rfl

theorem l7At {n : Nat} {s : Sto} {nm : List Int} (hb : s.2.1.length ≤ big) (hn : big < n) : F_spec_l7At n s nm = some (posB s nm, ()) := by
  have hb' := hb
  unfold big at hb
  unfold F_spec_l7At
  refine (rounds_from (fun i => (s, nm, (i : Int), ())) (fun j => if decide ((s.2.1.getD j dB).1 = nm) = true then some (some ((j : Int), ())) else none) (some (-1, ())) (m := s.2.1.length) rfl (by omega) ?_ ?_).trans ?_
  · intro L i hi _
    simp only [Int.ofNat_lt, hi, decide_true, if_true, inLen_nat hi, Int.toNat_natCast, wrap_succ hi (by omega)]
    split <;> rfl
  · intro L _
    simp
  · rw [CutLib.first_find (p := fun b : Bx => decide (b.1 = nm)) (r := fun j => some ((j : Int), ())) s.2.1.length 0 (by omega)]
    simp only [List.drop_zero, Nat.zero_add]
    unfold posB
    split <;> rfl

theorem box {n : Nat} {s : Sto} {nm : List Int} (hb : s.2.1.length ≤ big) (hn : big < n) : F_impl_Store_box n s nm = some (posB s nm, ()) := by
  unfold F_impl_Store_box
  have h : F_slices_IndexFunc_impl_Box_impl_Box_impl_Store_box_1 n s.2.1 nm = some (_, ()) := CutLib.index_loop (p := fun b : Bx => decide (b.1 = nm)) (q := fun c x => F_impl_Store_box_1 n x c) (d := dB) (fun _ _ => rfl) (fun _ => rfl) (by unfold big at hb; omega) (by omega)
  rw [h]
  rfl

/-! ### Uids -/
theorem has {n : Nat} {us : List Int} {x : Int} (hb : us.length ≤ big) (hn : big < n) : F_spec_l8Has n us x = some (us.contains x, ()) :=
  TakeLib.has_loop (fun _ _ => rfl) (by unfold big at hb; omega) (by omega)
theorem contains {n : Nat} {us : List Int} {x : Int} (hb : us.length ≤ big) (hn : big < n) : F_slices_Contains_int64_int64 n us x = some (us.contains x, ()) :=
  CutLib.eq_loop (fun _ _ => rfl) (by unfold big at hb; omega) (by omega)

/-! ### A message put -/
def putP (b : Bx) (m : Msg) : Bx := (b.1, b.2.1, b.2.2.1 + 1, b.2.2.2.1 ++ [(b.2.2.1, m.2.1, m.2.2.1, m.2.2.2.1, ())], ())
theorem put_spec {n : Nat} {b : Bx} {m : Msg} (hm : okM m) (h1 : 0 ≤ b.2.2.1) (h2 : b.2.2.1 ≤ 2000) (h3 : b.2.2.2.1.length ≤ 2000) : F_spec_l8Put n b m = some (b.2.2.1, putP b m, ()) := by
  unfold F_spec_l8Put
  rw [l1Copy hm]
  simp only [Option.bind_some, List.length_singleton]
  rw [if_pos (by omega), wrap_i64 (by omega) (by omega)]
  rfl
theorem put_impl {n : Nat} {b : Bx} {m : Msg} (hm : okM m) (h1 : 0 ≤ b.2.2.1) (h2 : b.2.2.1 ≤ 2000) (h3 : b.2.2.2.1.length ≤ 2000) : F_impl_Box_put n b m = some (b.2.2.1, putP b m, ()) := by
  unfold F_impl_Box_put
  rw [clone hm]
  simp only [Option.bind_some, List.length_singleton]
  rw [if_pos ⟨trivial, by omega⟩, wrap_i64 (x := b.2.2.1 + 1) (by omega) (by omega), show b.2.2.1 + 1 - 1 = b.2.2.1 by omega, wrap_i64 (by omega) (by omega)]
  rfl
theorem put_impl2 {n : Nat} {b : Bx} {m : Msg} (hm : okM m) (h1 : 0 ≤ b.2.2.1) (h2 : b.2.2.1 ≤ 2000) (h3 : b.2.2.2.1.length ≤ 2000) : F_impl_Box_put_v2 n b m = some (b.2.2.1, putP b m, ()) := put_impl hm h1 h2 h3

/-! ### Flags -/
def turn (was mode fl : Int) : Int :=
  if mode = 2 then IntKind.i64.wrap ((BitVec.ofInt (IntKind.bits .i64) was ||| BitVec.ofInt (IntKind.bits .i64) fl).toNat) else if mode = 3 then IntKind.i64.wrap ((BitVec.ofInt (IntKind.bits .i64) was &&& ~~~ BitVec.ofInt (IntKind.bits .i64) fl).toNat) else fl
def flagM (o : OpC) (m : Msg) : Msg := if o.2.2.2.1.contains m.1 = true then (m.1, turn m.2.1 o.2.2.2.2.1 o.2.2.2.2.2.1, m.2.2) else m
def flagB (o : OpC) (b : Bx) : Bx := (b.1, b.2.1, b.2.2.1, b.2.2.2.1.map (flagM o), ())
def flagU (o : OpC) (b : Bx) : List Int := (b.2.2.2.1.filter fun m => o.2.2.2.1.contains m.1).map (·.1)

theorem flags {n : Nat} (a m f : Int) : F_spec_l8Flags n a m f = some (turn a m f, ()) := by
  unfold F_spec_l8Flags turn
  by_cases h2 : m = 2
  · simp [h2]
  · by_cases h3 : m = 3 <;> simp [h2, h3]

theorem one_neg {A : Type} {p : A → Bool} {x : A} (h : p x = false) : [x].filter p = [] := by simp [List.filter_cons, h]
theorem one_pos {A : Type} {p : A → Bool} {x : A} (h : p x = true) : [x].filter p = [x] := by simp [List.filter_cons, h]
theorem set_same {A : Type} {f : A → A} {xs : List A} {i : Nat} (hi : i < xs.length) (h : f xs[i] = xs[i]) : (xs.map f).take i ++ xs.drop i = (xs.map f).take (i + 1) ++ xs.drop (i + 1) := by
  have h1 := mix_set (xs := xs) (ys := xs.map f) (by simp) hi xs[i] (by simp [h])
  rw [← h1]
  symm
  have hl : i < ((xs.map f).take i ++ xs.drop i).length := by simp; omega
  have hg := mix_get (xs := xs) (ys := xs.map f) (by simp) hi xs[i]
  rw [List.getD_eq_getElem?_getD, List.getElem?_eq_getElem hl] at hg
  simp only [Option.getD_some] at hg
  conv => lhs; rw [← hg]
  exact List.set_getElem_self hl

theorem flag_spec {n : Nat} {b : Bx} {o : OpC} (hb : b.2.2.2.1.length ≤ big) (ho : o.2.2.2.1.length ≤ big) (hn : big < n) : F_spec_l8Flag n b o = some (flagU o b, flagB o b, ()) := by
  have hb' := hb
  unfold big at hb
  unfold F_spec_l8Flag
  obtain ⟨nm, va, ne, ms, u⟩ := b
  have hb : ms.length ≤ 1048576 := hb
  refine (rounds_from (fun i => (o, (i : Int), (nm, va, ne, (ms.map (flagM o)).take i ++ ms.drop i, ()), ((ms.take i).filter fun m => o.2.2.2.1.contains m.1).map (·.1), ())) (fun _ => none) (some (flagU o (nm, va, ne, ms, ()), flagB o (nm, va, ne, ms, ()), ())) (m := ms.length) (by simp) (by unfold big at hn; omega) ?_ ?_).trans (firstR_none (fun _ _ _ => rfl))
  · intro L i hi _
    have hy : (ms.map (flagM o)).length = ms.length := by simp
    have hlen := mix_len (xs := ms) (ys := ms.map (flagM o)) hy (Nat.le_of_lt hi)
    have hget := mix_get (xs := ms) (ys := ms.map (flagM o)) hy hi dM
    have ht : ms.take (i + 1) = ms.take i ++ [ms[i]] := by simp
    have hl1 : (((ms.take i).filter fun m => o.2.2.2.1.contains m.1).map (·.1)).length ≤ i := by
      rw [List.length_map]; exact Nat.le_trans (List.length_filter_le _ _) (by simp; omega)
    simp only [hlen, Int.ofNat_lt, hi, decide_true, if_true, inLen_nat hi, Int.toNat_natCast, setL, hget, has ho hn, Option.bind_some, flags, wrap_succ hi (by omega)]
    cases hc : o.2.2.2.1.contains ms[i].1 with
    | false =>
      have hf : flagM o ms[i] = ms[i] := by unfold flagM; rw [hc]; rfl
      rw [if_neg Bool.false_ne_true, set_same hi hf, ht, List.filter_append, one_neg (p := fun m : Msg => o.2.2.2.1.contains m.1) hc, List.append_nil]
    | true =>
      have hset := mix_set (xs := ms) (ys := ms.map (flagM o)) hy hi (ms[i].1, turn ms[i].2.1 o.2.2.2.2.1 o.2.2.2.2.2.1, ms[i].2.2) (by rw [List.getElem_map]; unfold flagM; rw [if_pos hc])
      have hgs : ((ms.map (flagM o)).take (i + 1) ++ ms.drop (i + 1)).getD i dM = (ms[i].1, turn ms[i].2.1 o.2.2.2.2.1 o.2.2.2.2.2.1, ms[i].2.2) := by
        rw [← hset, List.getD_eq_getElem?_getD, List.getElem?_set_self (by omega)]; rfl
      simp only [if_true, hset, hgs, List.length_singleton]
      rw [if_pos (by omega), ht, List.filter_append, one_pos (p := fun m : Msg => o.2.2.2.1.contains m.1) hc, List.map_append]
      rfl
  · intro L _
    have ht : (ms.map (flagM o)).take ms.length = ms.map (flagM o) := List.take_of_length_le (by simp)
    simp only [ht, List.length_map, Int.lt_irrefl, decide_false, Bool.false_eq_true, if_false, List.take_length, List.drop_length, List.append_nil]
    rfl

theorem flag_impl {n : Nat} {b : Bx} {o : OpC} (hb : b.2.2.2.1.length ≤ big) (ho : o.2.2.2.1.length ≤ big) (hn : big < n) (hm : 1 ≤ o.2.2.2.2.1 ∧ o.2.2.2.2.1 ≤ 3) : F_impl_Box_flagged n b o = some (flagU o b, flagB o b, ()) := by
  have hb' := hb
  unfold big at hb
  unfold F_impl_Box_flagged
  obtain ⟨nm, va, ne, ms, u⟩ := b
  have hb : ms.length ≤ 1048576 := hb
  refine (rounds_from (fun i => ((ms.length : Int), (i : Int), (nm, va, ne, (ms.map (flagM o)).take i ++ ms.drop i, ()), o, ((ms.take i).filter fun m => o.2.2.2.1.contains m.1).map (·.1), ())) (fun _ => none) (some (flagU o (nm, va, ne, ms, ()), flagB o (nm, va, ne, ms, ()), ())) (m := ms.length) (by simp) (by unfold big at hn; omega) ?_ ?_).trans (firstR_none (fun _ _ _ => rfl))
  · intro L i hi _
    have hy : (ms.map (flagM o)).length = ms.length := by simp
    have hlen := mix_len (xs := ms) (ys := ms.map (flagM o)) hy (Nat.le_of_lt hi)
    have hget := mix_get (xs := ms) (ys := ms.map (flagM o)) hy hi dM
    have ht : ms.take (i + 1) = ms.take i ++ [ms[i]] := by simp
    have hl1 : (((ms.take i).filter fun m => o.2.2.2.1.contains m.1).map (·.1)).length ≤ i := by
      rw [List.length_map]; exact Nat.le_trans (List.length_filter_le _ _) (by simp; omega)
    simp only [hlen, Int.ofNat_lt, hi, decide_true, if_true, inLen_nat hi, Int.toNat_natCast, setL, hget, contains ho hn, Option.bind_some, wrap_succ hi (by omega)]
    cases hc : o.2.2.2.1.contains ms[i].1 with
    | false =>
      have hf : flagM o ms[i] = ms[i] := by unfold flagM; rw [hc]; rfl
      rw [Bool.not_false, if_pos rfl, set_same hi hf, ht, List.filter_append, one_neg (p := fun m : Msg => o.2.2.2.1.contains m.1) hc, List.append_nil]
    | true =>
      have hset := mix_set (xs := ms) (ys := ms.map (flagM o)) hy hi (ms[i].1, turn ms[i].2.1 o.2.2.2.2.1 o.2.2.2.2.2.1, ms[i].2.2) (by rw [List.getElem_map]; unfold flagM; rw [if_pos hc])
      rw [Bool.not_true, if_neg Bool.false_ne_true]
      simp only [List.length_singleton]
      rw [if_pos (by omega), ht, List.filter_append, one_pos (p := fun m : Msg => o.2.2.2.1.contains m.1) hc, List.map_append, ← hset]
      unfold turn
      by_cases h1 : o.2.2.2.2.1 = 1
      · simp [h1]
      · by_cases h2 : o.2.2.2.2.1 = 2
        · simp [h2]
        · have h3 : o.2.2.2.2.1 = 3 := by omega
          simp [h3]
  · intro L _
    have ht : (ms.map (flagM o)).take ms.length = ms.map (flagM o) := List.take_of_length_le (by simp)
    simp only [ht, Int.lt_irrefl, decide_false, Bool.false_eq_true, if_false, List.take_length, List.drop_length, List.append_nil]
    rfl

/-! ### What is taken -/
theorem pick_none (u f : Int) : TakeLib.pick [] 8 u f = PurgeLib.del f := rfl
theorem pick_zero (us : List Int) (u f : Int) : TakeLib.pick us 0 u f = us.contains u := by
  unfold TakeLib.pick
  rw [show BitVec.ofInt (IntKind.bits .i64) f &&& BitVec.ofInt (IntKind.bits .i64) 0 = BitVec.ofInt (IntKind.bits .i64) 0 from BitVec.and_zero]
  have : (IntKind.i64.wrap ((BitVec.ofInt (IntKind.bits .i64) 0).toNat : Int)) = 0 := by decide
  rw [this]
  simp

def goneU (b : Bx) : List Int := (b.2.2.2.1.filter fun m => PurgeLib.del m.2.1).map (·.1)
def leftB (b : Bx) : Bx := (b.1, b.2.1, b.2.2.1, b.2.2.2.1.filter (fun m => !PurgeLib.del m.2.1), ())

theorem purged {n : Nat} {b : Bx} (hb : b.2.2.2.1.length ≤ big) (hn : big < n) : F_impl_Box_purged n b = some (goneU b, leftB b, ()) := by
  unfold big at hb hn
  show PurgeLib.F_purged n b = _
  unfold PurgeLib.F_purged
  rw [if_pos ⟨by omega, by omega⟩]
  rfl
theorem take_gone {n : Nat} {b : Bx} (hb : b.2.2.2.1.length ≤ big) (hn : big < n) : F_spec_l8Take n b [] 8 = some (b.2.2.2.1.filter (fun m => PurgeLib.del m.2.1), leftB b, ()) := by
  unfold big at hb hn
  show TakeLib.F_take TakeLib.pick n b [] 8 = _
  unfold TakeLib.F_take
  rw [if_pos ⟨by omega, by omega, by simp, by simp; omega⟩]
  rfl
/-- Those that an op tells of, and the rest. -/
def toldM (o : OpC) (b : Bx) : List Msg := b.2.2.2.1.filter fun m => o.2.2.2.1.contains m.1
def restB (o : OpC) (b : Bx) : Bx := (b.1, b.2.1, b.2.2.1, b.2.2.2.1.filter (fun m => !o.2.2.2.1.contains m.1), ())
theorem take_told {n : Nat} {b : Bx} {o : OpC} (hb : b.2.2.2.1.length ≤ big) (ho : o.2.2.2.1.length ≤ big) (hn : big < n) : F_spec_l8Take n b o.2.2.2.1 0 = some (toldM o b, restB o b, ()) := by
  have hb' := hb
  have ho' := ho
  unfold big at hb ho hn
  show TakeLib.F_take TakeLib.pick n b o.2.2.2.1 0 = _
  unfold TakeLib.F_take
  rw [if_pos ⟨by omega, by omega, by omega, by omega⟩]
  simp only [pick_zero]
  rfl

/-- The messages put, one behind the other. -/
def putAll (b : Bx) (l : List Msg) : Bx := l.foldl putP b
def uidsOf (b : Bx) : Nat → List Int
  | 0 => []
  | k + 1 => uidsOf b k ++ [b.2.2.1 + (k : Int)]
theorem uidsOf_length (b : Bx) : ∀ k, (uidsOf b k).length = k
  | 0 => rfl
  | k + 1 => by simp [uidsOf, uidsOf_length b k]
theorem putAll_snoc (b : Bx) (l : List Msg) (m : Msg) : putAll b (l ++ [m]) = putP (putAll b l) m := by simp [putAll]
theorem putAll_next (b : Bx) : ∀ l : List Msg, (putAll b l).2.2.1 = b.2.2.1 + (l.length : Int) ∧ (putAll b l).2.2.2.1.length = b.2.2.2.1.length + l.length := by
  intro l
  induction l generalizing b with
  | nil => simp [putAll]
  | cons m l ih =>
    have := ih (putP b m)
    simp only [putAll, List.foldl_cons, List.length_cons] at this ⊢
    rw [this.1, this.2]
    simp [putP]
    omega
theorem putAll_ok {l : List Msg} : ∀ {b : Bx}, okB b → (∀ m ∈ l, okM m) → b.2.2.2.1.length + l.length ≤ big → okB (putAll b l) := by
  induction l with
  | nil => intro b h _ _; exact h
  | cons m l ih =>
    intro b h hl hb
    simp only [List.length_cons] at hb
    refine ih (b := putP b m) ⟨h.1, ?_, ?_⟩ (fun x hx => hl x (by simp [hx])) ?_
    · simp only [putP, List.length_append, List.length_singleton]; omega
    · intro x hx
      simp only [putP, List.mem_append, List.mem_singleton] at hx
      rcases hx with hx | rfl
      · exact h.2.2 x hx
      · exact hl m (by simp)
    · simp only [putP, List.length_append, List.length_singleton]; omega

theorem set_getD {A : Type} {xs : List A} {k : Nat} (h : k < xs.length) (y d : A) : (xs.set k y).getD k d = y := by
  rw [List.getD_eq_getElem?_getD, List.getElem?_set_self h]; rfl
theorem getD_lt {A : Type} {xs : List A} {k : Nat} (h : k < xs.length) (d : A) : xs.getD k d = xs[k] := by
  rw [List.getD_eq_getElem?_getD, List.getElem?_eq_getElem h]; rfl
theorem set_id {A : Type} {xs : List A} {k : Nat} (h : k < xs.length) (d : A) : xs.set k (xs.getD k d) = xs := by
  rw [List.getD_eq_getElem?_getD, List.getElem?_eq_getElem h]
  exact List.set_getElem_self h

/-- One round of puts, whatever is around it. -/
theorem put_step {s : Sto} {k j : Nat} {l : List Msg} {b : Bx} (hk : k < s.2.1.length) (hj : j < l.length) :
    ((s.2.1.set k (putAll b (l.take j))).set k (putP (putAll b (l.take j)) l[j])) = s.2.1.set k (putAll b (l.take (j + 1))) := by
  rw [List.set_set, ← putAll_snoc]
  congr 2
  simp

theorem carry_spec {n : Nat} {s : Sto} {at' : Int} {k : Nat} {o : OpC} {part : Bx} {l : List Msg} {b : Bx} {fin : Int × OpC × Int × Int × Sto × Bx × List Msg × List Int × Unit → Option (List Int × Int × Sto × Unit)}
    {B : (Int × OpC × Int × Int × Sto × Bx × List Msg × List Int × Unit → Option (List Int × Int × Sto × Unit)) → Int × OpC × Int × Int × Sto × Bx × List Msg × List Int × Unit → Option (List Int × Int × Sto × Unit)}
    (hB : ∀ L v, B L v = (if decide (v.2.2.2.1 < (v.2.2.2.2.2.2.1.length : Int)) = true then (if inLen v.2.2.2.1 v.2.2.2.2.2.2.1.length then ((F_spec_l8Put n (v.2.2.2.2.1.2.1.getD v.2.2.1.toNat dB) (v.2.2.2.2.2.2.1.getD v.2.2.2.1.toNat dM)).bind fun r5 => (if (v.2.2.2.2.2.2.2.1.length + [r5.1].length) * 8 ≤ 140737488355328 then L (v.1, v.2.1, v.2.2.1, IntKind.i64.wrap (v.2.2.2.1 + (1 : Int)), (v.2.2.2.2.1.1, v.2.2.2.2.1.2.1.set v.2.2.1.toNat r5.2.1, v.2.2.2.2.1.2.2), v.2.2.2.2.2.1, v.2.2.2.2.2.2.1, v.2.2.2.2.2.2.2.1 ++ [r5.1], ()) else none)) else none) else fin v))
    (hk : k < s.2.1.length) (hb : s.2.1.getD k dB = b) (hl : ∀ m ∈ l, okM m) (hl6 : l.length ≤ 6) (h1 : 0 ≤ b.2.2.1) (h2 : b.2.2.1 ≤ 1000) (h3 : b.2.2.2.1.length ≤ 6) (hn : big < n) :
    rounds B n (at', o, (k : Int), (0 : Int), s, part, l, [], ()) = fin (at', o, (k : Int), (l.length : Int), (s.1, s.2.1.set k (putAll b l), ()), part, l, uidsOf b l.length, ()) := by
  have hn' : 1048576 < n := hn
  refine (rounds_from (fun j => (at', o, (k : Int), (j : Int), (s.1, s.2.1.set k (putAll b (l.take j)), ()), part, l, uidsOf b j, ())) (fun _ => none) (fin (at', o, (k : Int), (l.length : Int), (s.1, s.2.1.set k (putAll b l), ()), part, l, uidsOf b l.length, ())) (m := l.length) ?_ (by omega) ?_ ?_).trans (firstR_none (fun _ _ _ => rfl))
  · rw [List.take_zero]
    show _ = (_, _, _, _, (s.1, s.2.1.set k b, ()), _, _, [], ())
    rw [← hb, set_id hk]
    rfl
  · intro L j hj _
    have hp := putAll_next b (l.take j)
    have hlt : (l.take j).length = j := by simp; omega
    rw [hlt] at hp
    have hput := put_spec (n := n) (b := putAll b (l.take j)) (m := l[j]) (hl _ (List.getElem_mem hj)) (by rw [hp.1]; omega) (by rw [hp.1]; omega) (by rw [hp.2]; omega)
    simp only [hB, Int.ofNat_lt, hj, decide_true, if_true, inLen_nat hj, Int.toNat_natCast, getD_lt hj, set_getD hk, hput, Option.bind_some, wrap_succ hj (by omega), uidsOf_length, List.length_singleton, put_step hk hj]
    rw [if_pos (by omega), hp.1]
    rfl
  · intro L _
    simp only [hB, Int.lt_irrefl, decide_false, Bool.false_eq_true, if_false, List.take_length]

theorem carry_impl {n : Nat} {s : Sto} {at' : Int} {k : Nat} {o : OpC} {l : List Msg} {b : Bx} {fin : Int × Int × Int × Int × Sto × OpC × List Msg × List Int × Unit → Option (List Int × Int × Sto × Unit)}
    {B : (Int × Int × Int × Int × Sto × OpC × List Msg × List Int × Unit → Option (List Int × Int × Sto × Unit)) → Int × Int × Int × Int × Sto × OpC × List Msg × List Int × Unit → Option (List Int × Int × Sto × Unit)}
    (hB : ∀ L v, B L v = (if decide (v.2.2.2.1 < v.2.2.1) = true then (if inLen v.2.2.2.1 v.2.2.2.2.2.2.1.length then ((F_impl_Box_put_v2 n (v.2.2.2.2.1.2.1.getD v.2.1.toNat dB) (v.2.2.2.2.2.2.1.getD v.2.2.2.1.toNat dM)).bind fun r6 => (if (v.2.2.2.2.2.2.2.1.length + [r6.1].length) * 8 ≤ 140737488355328 then L (v.1, v.2.1, v.2.2.1, IntKind.i64.wrap (v.2.2.2.1 + (1 : Int)), (v.2.2.2.2.1.1, v.2.2.2.2.1.2.1.set v.2.1.toNat r6.2.1, v.2.2.2.2.1.2.2), v.2.2.2.2.2.1, v.2.2.2.2.2.2.1, v.2.2.2.2.2.2.2.1 ++ [r6.1], ()) else none)) else none) else fin v))
    (hk : k < s.2.1.length) (hb : s.2.1.getD k dB = b) (hl : ∀ m ∈ l, okM m) (hl6 : l.length ≤ 6) (h1 : 0 ≤ b.2.2.1) (h2 : b.2.2.1 ≤ 1000) (h3 : b.2.2.2.1.length ≤ 6) (hn : big < n) :
    rounds B n (at', (k : Int), (l.length : Int), (0 : Int), s, o, l, [], ()) = fin (at', (k : Int), (l.length : Int), (l.length : Int), (s.1, s.2.1.set k (putAll b l), ()), o, l, uidsOf b l.length, ()) := by
  have hn' : 1048576 < n := hn
  refine (rounds_from (fun j => (at', (k : Int), (l.length : Int), (j : Int), (s.1, s.2.1.set k (putAll b (l.take j)), ()), o, l, uidsOf b j, ())) (fun _ => none) (fin (at', (k : Int), (l.length : Int), (l.length : Int), (s.1, s.2.1.set k (putAll b l), ()), o, l, uidsOf b l.length, ())) (m := l.length) ?_ (by omega) ?_ ?_).trans (firstR_none (fun _ _ _ => rfl))
  · rw [List.take_zero]
    show _ = (_, _, _, _, (s.1, s.2.1.set k b, ()), _, _, [], ())
    rw [← hb, set_id hk]
    rfl
  · intro L j hj _
    have hp := putAll_next b (l.take j)
    have hlt : (l.take j).length = j := by simp; omega
    rw [hlt] at hp
    have hput := put_impl2 (n := n) (b := putAll b (l.take j)) (m := l[j]) (hl _ (List.getElem_mem hj)) (by rw [hp.1]; omega) (by rw [hp.1]; omega) (by rw [hp.2]; omega)
    simp only [hB, Int.ofNat_lt, hj, decide_true, if_true, inLen_nat hj, Int.toNat_natCast, getD_lt hj, set_getD hk, hput, Option.bind_some, wrap_succ hj (by omega), uidsOf_length, List.length_singleton, put_step hk hj]
    rw [if_pos (by omega), hp.1]
    rfl
  · intro L _
    simp only [hB, Int.lt_irrefl, decide_false, Bool.false_eq_true, if_false, List.take_length]

/-- The messages that are copied, read by the implementation. -/
theorem list_impl {n : Nat} {ms : List Msg} {o : OpC} {a b : Int} {s : Sto} {fin : Int × Int × List Msg × Int × Int × Sto × OpC × List Msg × Unit → Option (List Int × Int × Sto × Unit)}
    {B : (Int × Int × List Msg × Int × Int × Sto × OpC × List Msg × Unit → Option (List Int × Int × Sto × Unit)) → Int × Int × List Msg × Int × Int × Sto × OpC × List Msg × Unit → Option (List Int × Int × Sto × Unit)}
    (hB : ∀ L v, B L v = (if decide (v.2.2.2.2.1 < v.2.2.2.1) = true then (if inLen v.2.2.2.2.1 v.2.2.1.length then ((F_slices_Contains_int64_int64 n v.2.2.2.2.2.2.1.2.2.2.1 ((v.2.2.1.getD v.2.2.2.2.1.toNat dM).1)).bind fun r3 => (if r3.1 = true then (if (v.2.2.2.2.2.2.2.1.length + [v.2.2.1.getD v.2.2.2.2.1.toNat dM].length) * 48 ≤ 140737488355328 then L (v.1, v.2.1, v.2.2.1, v.2.2.2.1, IntKind.i64.wrap (v.2.2.2.2.1 + (1 : Int)), v.2.2.2.2.2.1, v.2.2.2.2.2.2.1, v.2.2.2.2.2.2.2.1 ++ [v.2.2.1.getD v.2.2.2.2.1.toNat dM], ()) else none) else L (v.1, v.2.1, v.2.2.1, v.2.2.2.1, IntKind.i64.wrap (v.2.2.2.2.1 + (1 : Int)), v.2.2.2.2.2.1, v.2.2.2.2.2.2.1, v.2.2.2.2.2.2.2.1, ()))) else none) else fin v))
    (hb : ms.length ≤ big) (ho : o.2.2.2.1.length ≤ big) (hn : big < n) :
    rounds B n (a, b, ms, (ms.length : Int), (0 : Int), s, o, [], ()) = fin (a, b, ms, (ms.length : Int), (ms.length : Int), s, o, ms.filter (fun m => o.2.2.2.1.contains m.1), ()) := by
  have hb' : ms.length ≤ 1048576 := hb
  refine (rounds_from (fun i => (a, b, ms, (ms.length : Int), (i : Int), s, o, (ms.take i).filter (fun m => o.2.2.2.1.contains m.1), ())) (fun _ => none) (fin (a, b, ms, (ms.length : Int), (ms.length : Int), s, o, ms.filter (fun m => o.2.2.2.1.contains m.1), ())) (m := ms.length) (by simp) (by omega) ?_ ?_).trans (firstR_none (fun _ _ _ => rfl))
  · intro L i hi _
    have ht : ms.take (i + 1) = ms.take i ++ [ms[i]] := by simp
    have hl : ((ms.take i).filter fun m => o.2.2.2.1.contains m.1).length ≤ i := Nat.le_trans (List.length_filter_le _ _) (by simp; omega)
    simp only [hB, Int.ofNat_lt, hi, decide_true, if_true, inLen_nat hi, getD_nat hi, contains ho hn, Option.bind_some, wrap_succ hi (by omega), List.length_singleton, ht, List.filter_append]
    cases hc : o.2.2.2.1.contains ms[i].1 with
    | false => rw [if_neg Bool.false_ne_true, one_neg (p := fun m : Msg => o.2.2.2.1.contains m.1) hc, List.append_nil]
    | true => rw [if_pos rfl, if_pos (by omega), one_pos (p := fun m : Msg => o.2.2.2.1.contains m.1) hc]
  · intro L _
    simp only [hB, Int.lt_irrefl, decide_false, Bool.false_eq_true, if_false, List.take_length]

/-! ### Copying and moving -/
def smallB (b : Bx) : Prop := (0 ≤ b.2.2.1 ∧ b.2.2.1 ≤ 1000) ∧ b.2.2.2.1.length ≤ 6
def carryP (s : Sto) (i k : Nat) (o : OpC) : List Int × Int × Sto × Unit :=
  if (s.2.1.getD k dB).2.2.2.1.length + (toldM o (s.2.1.getD i dB)).length > 6 then ([], 10, s, ()) else
  if (s.2.1.getD k dB).2.2.1 + ((toldM o (s.2.1.getD i dB)).length : Int) > 1000 then ([], 10, s, ()) else
  (uidsOf (s.2.1.getD k dB) (toldM o (s.2.1.getD i dB)).length, 0, (s.1, if o.1 = 6 then (s.2.1.set k (putAll (s.2.1.getD k dB) (toldM o (s.2.1.getD i dB)))).set i (restB o (s.2.1.getD i dB)) else s.2.1.set k (putAll (s.2.1.getD k dB) (toldM o (s.2.1.getD i dB))), ()), ())
def carried (s : Sto) (i : Nat) (o : OpC) : List Int × Int × Sto × Unit :=
  if posB s o.2.2.1 < 0 then ([], 4, s, ()) else if o.1 = 6 ∧ posB s o.2.2.1 = (i : Int) then ([], 9, s, ()) else carryP s i (posB s o.2.2.1).toNat o

theorem getD_mem {A : Type} {xs : List A} {k : Nat} (h : k < xs.length) (d : A) : xs.getD k d ∈ xs := by
  rw [getD_lt h]; exact List.getElem_mem h

theorem l8Carry {n : Nat} {s : Sto} {i : Nat} {o : OpC} (hs : okS s) (ho : okO o) (hsm : ∀ b ∈ s.2.1, smallB b) (hi : i < s.2.1.length) (hn : big < n) : F_spec_l8Carry n s (i : Int) o = some (carried s i o) := by
  unfold F_spec_l8Carry carried
  rw [l7At hs.1 hn]
  simp only [Option.bind_some]
  rcases posB_cases s o.2.2.1 with h | ⟨k, h, hk⟩
  · rw [h]; rfl
  · rw [h]
    have h0 : ¬ ((k : Int) < 0) := by omega
    rw [decide_eq_false h0, if_neg Bool.false_ne_true, if_neg h0]
    have hA := hsm _ (getD_mem hi dB)
    have hK := hsm _ (getD_mem hk dB)
    have hAo := hs.2 _ (getD_mem hi dB)
    have hKo := hs.2 _ (getD_mem hk dB)
    have hT : (toldM o (s.2.1.getD i dB)).length ≤ 6 := Nat.le_trans (List.length_filter_le _ _) hA.2
    have hTo : ∀ m ∈ toldM o (s.2.1.getD i dB), okM m := fun m hm => hAo.2.2 m (List.mem_filter.1 hm).1
    have hK2 := hK.2
    have hK1 := hK.1
    by_cases h6 : o.1 = 6
    · rw [decide_eq_true h6, if_pos rfl]
      by_cases he : (k : Int) = (i : Int)
      · rw [decide_eq_true he, if_pos rfl, if_pos ⟨h6, he⟩]
      · rw [decide_eq_false he, if_neg Bool.false_ne_true, if_neg (show ¬ (o.1 = 6 ∧ (k : Int) = (i : Int)) from fun h => he h.2), if_pos (inLen_nat hi)]
        simp only [Int.toNat_natCast, l7CopyBox hAo hn, Option.bind_some, take_told hAo.2.1 ho.2.2.1 hn, if_pos (inLen_nat hk)]
        unfold carryP
        have w1 : IntKind.i64.wrap (((s.2.1.getD k dB).2.2.2.1.length : Int) + ((toldM o (s.2.1.getD i dB)).length : Int)) = ((s.2.1.getD k dB).2.2.2.1.length : Int) + ((toldM o (s.2.1.getD i dB)).length : Int) := wrap_i64 (by omega) (by omega)
        have w2 : IntKind.i64.wrap ((s.2.1.getD k dB).2.2.1 + ((toldM o (s.2.1.getD i dB)).length : Int)) = (s.2.1.getD k dB).2.2.1 + ((toldM o (s.2.1.getD i dB)).length : Int) := wrap_i64 (by omega) (by omega)
        simp only [w1, w2]
        by_cases c1 : (s.2.1.getD k dB).2.2.2.1.length + (toldM o (s.2.1.getD i dB)).length > 6
        · have c1' : ((s.2.1.getD k dB).2.2.2.1.length : Int) + ((toldM o (s.2.1.getD i dB)).length : Int) > 6 := by omega
          simp only [c1, c1', decide_true, if_true]
        · have c1' : ¬ (((s.2.1.getD k dB).2.2.2.1.length : Int) + ((toldM o (s.2.1.getD i dB)).length : Int) > 6) := by omega
          simp only [c1, c1', decide_false, Bool.false_eq_true, if_false]
          by_cases c2 : (s.2.1.getD k dB).2.2.1 + ((toldM o (s.2.1.getD i dB)).length : Int) > 1000
          · simp only [c2, decide_true, if_true]
          · simp only [c2, decide_false, Bool.false_eq_true, if_false]
            refine (carry_spec (s := s) (k := k) (l := toldM o (s.2.1.getD i dB)) (b := s.2.1.getD k dB) (fun _ _ => rfl) hk rfl hTo hT hK1.1 hK1.2 hK2 hn).trans ?_
            have hi2 : i < (s.2.1.set k (putAll (s.2.1.getD k dB) (toldM o (s.2.1.getD i dB)))).length := by simpa using hi
            simp only [h6, decide_true, if_true, if_pos (inLen_nat hi2), Int.toNat_natCast]
    · rw [decide_eq_false h6, if_neg Bool.false_ne_true, if_neg (show ¬ (o.1 = 6 ∧ (k : Int) = (i : Int)) from fun h => h6 h.1), if_pos (inLen_nat hi)]
      simp only [Int.toNat_natCast, l7CopyBox hAo hn, Option.bind_some, take_told hAo.2.1 ho.2.2.1 hn, if_pos (inLen_nat hk)]
      unfold carryP
      have w1 : IntKind.i64.wrap (((s.2.1.getD k dB).2.2.2.1.length : Int) + ((toldM o (s.2.1.getD i dB)).length : Int)) = ((s.2.1.getD k dB).2.2.2.1.length : Int) + ((toldM o (s.2.1.getD i dB)).length : Int) := wrap_i64 (by omega) (by omega)
      have w2 : IntKind.i64.wrap ((s.2.1.getD k dB).2.2.1 + ((toldM o (s.2.1.getD i dB)).length : Int)) = (s.2.1.getD k dB).2.2.1 + ((toldM o (s.2.1.getD i dB)).length : Int) := wrap_i64 (by omega) (by omega)
      simp only [w1, w2]
      by_cases c1 : (s.2.1.getD k dB).2.2.2.1.length + (toldM o (s.2.1.getD i dB)).length > 6
      · have c1' : ((s.2.1.getD k dB).2.2.2.1.length : Int) + ((toldM o (s.2.1.getD i dB)).length : Int) > 6 := by omega
        simp only [c1, c1', decide_true, if_true]
      · have c1' : ¬ (((s.2.1.getD k dB).2.2.2.1.length : Int) + ((toldM o (s.2.1.getD i dB)).length : Int) > 6) := by omega
        simp only [c1, c1', decide_false, Bool.false_eq_true, if_false]
        by_cases c2 : (s.2.1.getD k dB).2.2.1 + ((toldM o (s.2.1.getD i dB)).length : Int) > 1000
        · simp only [c2, decide_true, if_true]
        · simp only [c2, decide_false, Bool.false_eq_true, if_false]
          refine (carry_spec (s := s) (k := k) (l := toldM o (s.2.1.getD i dB)) (b := s.2.1.getD k dB) (fun _ _ => rfl) hk rfl hTo hT hK1.1 hK1.2 hK2 hn).trans ?_
          simp only [h6, decide_false, Bool.false_eq_true, if_false]

theorem getD_set_ne {A : Type} {xs : List A} {i k : Nat} (h : k ≠ i) (y d : A) : (xs.set k y).getD i d = xs.getD i d := by
  rw [List.getD_eq_getElem?_getD, List.getD_eq_getElem?_getD, List.getElem?_set_ne h]
theorem delfunc {n : Nat} {ms : List Msg} {o : OpC} (hb : ms.length ≤ big) (ho : o.2.2.2.1.length ≤ big) (hn : big < n) :
    F_slices_DeleteFunc_impl_Message_impl_Message_impl_Store_copied_1 n ms o = some (((ms.filter fun m => !o.2.2.2.1.contains m.1).length : Int), (ms.filter fun m => !o.2.2.2.1.contains m.1) ++ List.replicate (ms.length - (ms.filter fun m => !o.2.2.2.1.contains m.1).length) dM, ()) := by
  unfold big at hb ho hn
  show CutLib.F_delf n ms o = _
  unfold CutLib.F_delf
  rw [if_pos ⟨by omega, by omega, by omega, by omega⟩]
  rfl

theorem copied {n : Nat} {s : Sto} {i : Nat} {o : OpC} (hs : okS s) (ho : okO o) (hsm : ∀ b ∈ s.2.1, smallB b) (hi : i < s.2.1.length) (hn : big < n) : F_impl_Store_copied n s (i : Int) o = some (carried s i o) := by
  unfold F_impl_Store_copied carried
  rw [box hs.1 hn]
  simp only [Option.bind_some]
  rcases posB_cases s o.2.2.1 with h | ⟨k, h, hk⟩
  · rw [h]; rfl
  · rw [h]
    have h0 : ¬ ((k : Int) < 0) := by omega
    rw [decide_eq_false h0, if_neg Bool.false_ne_true, if_neg h0]
    have hA := hsm _ (getD_mem hi dB)
    have hK := hsm _ (getD_mem hk dB)
    have hAo := hs.2 _ (getD_mem hi dB)
    have hKo := hs.2 _ (getD_mem hk dB)
    have hT : (toldM o (s.2.1.getD i dB)).length ≤ 6 := Nat.le_trans (List.length_filter_le _ _) hA.2
    have hTo : ∀ m ∈ toldM o (s.2.1.getD i dB), okM m := fun m hm => hAo.2.2 m (List.mem_filter.1 hm).1
    have hK2 := hK.2
    have hK1 := hK.1
    have w1 : IntKind.i64.wrap (((s.2.1.getD k dB).2.2.2.1.length : Int) + ((toldM o (s.2.1.getD i dB)).length : Int)) = ((s.2.1.getD k dB).2.2.2.1.length : Int) + ((toldM o (s.2.1.getD i dB)).length : Int) := wrap_i64 (by omega) (by omega)
    have w2 : IntKind.i64.wrap ((s.2.1.getD k dB).2.2.1 + ((toldM o (s.2.1.getD i dB)).length : Int)) = (s.2.1.getD k dB).2.2.1 + ((toldM o (s.2.1.getD i dB)).length : Int) := wrap_i64 (by omega) (by omega)
    have hlist : (s.2.1.getD i dB).2.2.2.1.filter (fun m => o.2.2.2.1.contains m.1) = toldM o (s.2.1.getD i dB) := rfl
    by_cases h6 : o.1 = 6
    · rw [decide_eq_true h6, if_pos rfl]
      by_cases he : (k : Int) = (i : Int)
      · rw [decide_eq_true he, if_pos rfl, if_pos ⟨h6, he⟩]
      · rw [decide_eq_false he, if_neg Bool.false_ne_true, if_neg (show ¬ (o.1 = 6 ∧ (k : Int) = (i : Int)) from fun h => he h.2), if_pos (inLen_nat hi)]
        simp only [Int.toNat_natCast]
        refine (list_impl (s := s) (o := o) (a := (i : Int)) (b := (k : Int)) (ms := (s.2.1.getD i dB).2.2.2.1) (fun _ _ => rfl) hAo.2.1 ho.2.2.1 hn).trans ?_
        simp only [if_pos (inLen_nat hk), Int.toNat_natCast, hlist, w1]
        unfold carryP
        by_cases c1 : (s.2.1.getD k dB).2.2.2.1.length + (toldM o (s.2.1.getD i dB)).length > 6
        · have c1' : ((s.2.1.getD k dB).2.2.2.1.length : Int) + ((toldM o (s.2.1.getD i dB)).length : Int) > 6 := by omega
          simp only [c1, c1', decide_true, if_true]
        · have c1' : ¬ (((s.2.1.getD k dB).2.2.2.1.length : Int) + ((toldM o (s.2.1.getD i dB)).length : Int) > 6) := by omega
          have hlen : F_impl_length_impl_Message n (toldM o (s.2.1.getD i dB)) = some (((toldM o (s.2.1.getD i dB)).length : Int), ()) := rfl
          simp only [c1, c1', decide_false, Bool.false_eq_true, if_false, hlen, Option.bind_some, w2]
          by_cases c2 : (s.2.1.getD k dB).2.2.1 + ((toldM o (s.2.1.getD i dB)).length : Int) > 1000
          · simp only [c2, decide_true, if_true]
          · simp only [c2, decide_false, Bool.false_eq_true, if_false]
            refine (carry_impl (s := s) (k := k) (l := toldM o (s.2.1.getD i dB)) (b := s.2.1.getD k dB) (fun _ _ => rfl) hk rfl hTo hT hK1.1 hK1.2 hK2 hn).trans ?_
            have hki : k ≠ i := fun h => he (by omega)
            have hi2 : i < (s.2.1.set k (putAll (s.2.1.getD k dB) (toldM o (s.2.1.getD i dB)))).length := by simpa using hi
            simp only [h6, decide_true, if_true, if_pos (inLen_nat hi2), Int.toNat_natCast, setL, getD_set_ne hki, delfunc hAo.2.1 ho.2.2.1 hn, Option.bind_some, List.set_set, set_getD hi2, List.take_left']
            rfl
    · rw [decide_eq_false h6, if_neg Bool.false_ne_true, if_neg (show ¬ (o.1 = 6 ∧ (k : Int) = (i : Int)) from fun h => h6 h.1), if_pos (inLen_nat hi)]
      simp only [Int.toNat_natCast]
      refine (list_impl (s := s) (o := o) (a := (i : Int)) (b := (k : Int)) (ms := (s.2.1.getD i dB).2.2.2.1) (fun _ _ => rfl) hAo.2.1 ho.2.2.1 hn).trans ?_
      simp only [if_pos (inLen_nat hk), Int.toNat_natCast, hlist, w1]
      unfold carryP
      by_cases c1 : (s.2.1.getD k dB).2.2.2.1.length + (toldM o (s.2.1.getD i dB)).length > 6
      · have c1' : ((s.2.1.getD k dB).2.2.2.1.length : Int) + ((toldM o (s.2.1.getD i dB)).length : Int) > 6 := by omega
        simp only [c1, c1', decide_true, if_true]
      · have c1' : ¬ (((s.2.1.getD k dB).2.2.2.1.length : Int) + ((toldM o (s.2.1.getD i dB)).length : Int) > 6) := by omega
        have hlen : F_impl_length_impl_Message n (toldM o (s.2.1.getD i dB)) = some (((toldM o (s.2.1.getD i dB)).length : Int), ()) := rfl
        simp only [c1, c1', decide_false, Bool.false_eq_true, if_false, hlen, Option.bind_some, w2]
        by_cases c2 : (s.2.1.getD k dB).2.2.1 + ((toldM o (s.2.1.getD i dB)).length : Int) > 1000
        · simp only [c2, decide_true, if_true]
        · simp only [c2, decide_false, Bool.false_eq_true, if_false]
          refine (carry_impl (s := s) (k := k) (l := toldM o (s.2.1.getD i dB)) (b := s.2.1.getD k dB) (fun _ _ => rfl) hk rfl hTo hT hK1.1 hK1.2 hK2 hn).trans ?_
          simp only [h6, decide_false, Bool.false_eq_true, if_false]

/-! ### One op -/
abbrev ResC := Int × List Int × Sto × Unit
def bad (c : Int) : ResC := (c, [], (0, [], ()), ())
def makeP (s : Sto) (o : OpC) : List Int × Int × Sto × Unit :=
  if posB s o.2.1 ≥ 0 then ([], 6, s, ()) else if s.2.1.length = 3 then ([], 10, s, ()) else if s.1 = 1000 then ([], 10, s, ()) else ([], 0, (s.1 + 1, s.2.1 ++ [(o.2.1, s.1, 1, [], ())], ()), ())
def addP (s : Sto) (i : Nat) (o : OpC) : List Int × Int × Sto × Unit :=
  if (s.2.1.getD i dB).2.2.2.1.length = 6 then ([], 10, s, ()) else if (s.2.1.getD i dB).2.2.1 = 1000 then ([], 10, s, ()) else
    ([(s.2.1.getD i dB).2.2.1], 0, (s.1, s.2.1.set i (putP (s.2.1.getD i dB) (0, o.2.2.2.2.2.1, o.2.2.2.2.2.2.1, o.2.2.2.2.2.2.2.1, ())), ()), ())
def restP (s : Sto) (i : Nat) (o : OpC) : List Int × Int × Sto × Unit :=
  if o.1 = 2 then ([], 0, (s.1, s.2.1.take i ++ s.2.1.drop (i + 1), ()), ()) else
  if o.1 = 3 then addP s i o else
  if o.1 = 4 then (flagU o (s.2.1.getD i dB), 0, (s.1, s.2.1.set i (flagB o (s.2.1.getD i dB)), ()), ()) else
  if o.1 = 7 then (goneU (s.2.1.getD i dB), 0, (s.1, s.2.1.set i (leftB (s.2.1.getD i dB)), ()), ()) else carried s i o
def applyP (s : Sto) (o : OpC) : List Int × Int × Sto × Unit :=
  if o.1 = 1 then makeP s o else if posB s o.2.1 < 0 then ([], 4, s, ()) else restP s (posB s o.2.1).toNat o
def resP (r : List Int × Int × Sto × Unit) : ResC := if r.2.1 = 0 then (0, r.1, r.2.2.1, ()) else bad r.2.1

structure Fit (s : Sto) (o : OpC) : Prop where
  okS : okS s
  okO : okO o
  val : 1 ≤ s.1 ∧ s.1 ≤ 1000
  few : s.2.1.length ≤ 3
  small : ∀ b ∈ s.2.1, smallB b
  mode : o.1 = 4 → 1 ≤ o.2.2.2.2.1 ∧ o.2.2.2.2.1 ≤ 3

theorem made {n : Nat} {s : Sto} {o : OpC} (h : Fit s o) (hn : big < n) : F_impl_Store_made n s o.2.1 = some ((makeP s o).2.1, (makeP s o).2.2.1, ()) ∧ (makeP s o).1 = [] := by
  have hf := h.few
  have hv := h.val
  unfold F_impl_Store_made makeP
  rw [box h.okS.1 hn]
  simp only [Option.bind_some]
  by_cases c0 : posB s o.2.1 ≥ 0
  · simp only [c0, decide_true, if_true, and_self]
  · simp only [c0, decide_false, Bool.false_eq_true, if_false]
    by_cases c1 : s.2.1.length = 3
    · simp only [c1, if_true]
      exact ⟨rfl, trivial⟩
    · have : ¬ (s.2.1.length : Int) = 3 := by omega
      simp only [c1, this, decide_false, Bool.false_eq_true, if_false]
      by_cases c2 : s.1 = 1000
      · simp only [c2, decide_true, if_true, and_self]
      · simp only [c2, decide_false, Bool.false_eq_true, if_false, List.length_singleton, and_true]
        rw [if_pos (by omega), wrap_i64 (by omega) (by omega)]

theorem l8Make {n : Nat} {s : Sto} {o : OpC} (h : Fit s o) (hn : big < n) : F_spec_l8Make n s o = some (resP (makeP s o), ()) := by
  have hf := h.few
  have hv := h.val
  unfold F_spec_l8Make makeP
  rw [l7At h.okS.1 hn]
  simp only [Option.bind_some]
  by_cases c0 : posB s o.2.1 ≥ 0
  · simp only [c0, decide_true, if_true]; rfl
  · simp only [c0, decide_false, Bool.false_eq_true, if_false]
    by_cases c1 : s.2.1.length = 3
    · have : (s.2.1.length : Int) ≥ 3 := by omega
      simp only [c1, this, decide_true, if_true]; rfl
    · have : ¬ (s.2.1.length : Int) ≥ 3 := by omega
      simp only [c1, this, decide_false, Bool.false_eq_true, if_false]
      by_cases c2 : s.1 = 1000
      · have : s.1 ≥ 1000 := by omega
        simp only [c2, decide_true, if_true]; rfl
      · have : ¬ s.1 ≥ 1000 := by omega
        simp only [c2, this, decide_false, Bool.false_eq_true, if_false, l7Copy h.okS hn, Option.bind_some, List.length_singleton]
        rw [if_pos (by omega), wrap_i64 (by omega) (by omega)]
        rfl

theorem okM_op {o : OpC} (ho : okO o) : okM (0, o.2.2.2.2.2.1, o.2.2.2.2.2.2.1, o.2.2.2.2.2.2.2.1, ()) := ho.2.2.2

theorem apply_impl {n : Nat} {s : Sto} {o : OpC} (h : Fit s o) (hn : big < n) : F_impl_Store_apply n s o = some (applyP s o) := by
  unfold F_impl_Store_apply applyP
  by_cases k1 : o.1 = 1
  · obtain ⟨h1, h2⟩ := made h hn
    simp only [k1, decide_true, if_true, h1, Option.bind_some]
    rw [← h2]
  · simp only [k1, decide_false, Bool.false_eq_true, if_false, box h.okS.1 hn, Option.bind_some]
    rcases posB_cases s o.2.1 with hp | ⟨i, hp, hi⟩
    · rw [hp]; rfl
    · rw [hp]
      have h0 : ¬ ((i : Int) < 0) := by omega
      simp only [h0, decide_false, Bool.false_eq_true, if_false, if_pos (inLen_nat hi), Int.toNat_natCast]
      have hB := h.small _ (getD_mem hi dB)
      have hBo := h.okS.2 _ (getD_mem hi dB)
      have hB1 := hB.1
      have hB2 := hB.2
      have hf := h.few
      unfold restP
      by_cases k2 : o.1 = 2
      · have hw : IntKind.i64.wrap ((i : Int) + 1) = ((i + 1 : Nat) : Int) := wrap_succ hi (by omega)
        have hdel : F_slices_Delete_impl_Box_impl_Box n s.2.1 (i : Int) ((i + 1 : Nat) : Int) = some (((s.2.1.length - 1 : Nat) : Int), s.2.1.take i ++ s.2.1.drop (i + 1) ++ [dB], ()) := by
          show CutLib.delF dB s.2.1 (i : Int) ((i + 1 : Nat) : Int) = _
          unfold CutLib.delF
          rw [if_pos ⟨by omega, by omega, by omega⟩]
          simp only [Int.toNat_natCast, Nat.add_sub_cancel_left]
          rfl
        have hl : (s.2.1.take i ++ s.2.1.drop (i + 1)).length = s.2.1.length - 1 := by simp; omega
        simp only [k2, decide_true, if_true, hw, hdel, Option.bind_some, Int.toNat_natCast]
        rw [← hl, List.take_left']
        rfl
      · simp only [k2, decide_false, Bool.false_eq_true, if_false]
        by_cases k3 : o.1 = 3
        · simp only [k3, decide_true, if_true]
          unfold addP
          by_cases c1 : (s.2.1.getD i dB).2.2.2.1.length = 6
          · simp only [c1, if_true]
            rfl
          · have : ¬ ((s.2.1.getD i dB).2.2.2.1.length : Int) = 6 := by omega
            simp only [c1, this, decide_false, Bool.false_eq_true, if_false]
            by_cases c2 : (s.2.1.getD i dB).2.2.1 = 1000
            · simp only [c2, decide_true, if_true]
            · have hput := put_impl (n := n) (b := s.2.1.getD i dB) (okM_op h.okO) (by omega) (by omega) (by omega)
              simp only [c2, decide_false, Bool.false_eq_true, if_false, hput, Option.bind_some]
        · simp only [k3, decide_false, Bool.false_eq_true, if_false]
          by_cases k4 : o.1 = 4
          · simp only [k4, decide_true, if_true, flag_impl hBo.2.1 h.okO.2.2.1 hn (h.mode k4), Option.bind_some]
          · simp only [k4, decide_false, Bool.false_eq_true, if_false]
            by_cases k7 : o.1 = 7
            · simp only [k7, decide_true, if_true, purged hBo.2.1 hn, Option.bind_some]
            · simp only [k7, decide_false, Bool.false_eq_true, if_false, copied h.okS h.okO h.small hi hn, Option.bind_some]

theorem gone_loop {n : Nat} {ms : List Msg} {r0 : ResC} {st : Sto} {c : Int} {B : (Int × ResC × ResC × List Msg × Unit → Option (ResC × Unit)) → Int × ResC × ResC × List Msg × Unit → Option (ResC × Unit)}
    (hB : ∀ L v, B L v = (if decide (v.1 < (v.2.2.2.1.length : Int)) = true then (if inLen v.1 v.2.2.2.1.length then (if (v.2.2.1.2.1.length + [(v.2.2.2.1.getD v.1.toNat dM).1].length) * 8 ≤ 140737488355328 then L (IntKind.i64.wrap (v.1 + (1 : Int)), v.2.1, (v.2.2.1.1, v.2.2.1.2.1 ++ [(v.2.2.2.1.getD v.1.toNat dM).1], v.2.2.1.2.2), v.2.2.2.1, ()) else none) else none) else some (v.2.2.1, ())))
    (hb : ms.length ≤ big) (hn : big < n) : rounds B n ((0 : Int), r0, (c, [], st, ()), ms, ()) = some ((c, ms.map (·.1), st, ()), ()) := by
  have hb' : ms.length ≤ 1048576 := hb
  refine (rounds_from (fun i => ((i : Int), r0, (c, (ms.take i).map (·.1), st, ()), ms, ())) (fun _ => none) (some ((c, ms.map (·.1), st, ()), ())) (m := ms.length) (by simp) (by omega) ?_ ?_).trans (firstR_none (fun _ _ _ => rfl))
  · intro L i hi _
    have ht : ms.take (i + 1) = ms.take i ++ [ms[i]] := by simp
    have hl : ((ms.take i).map (·.1)).length ≤ i := by simp; omega
    simp only [hB, Int.ofNat_lt, hi, decide_true, if_true, inLen_nat hi, getD_nat hi, wrap_succ hi (by omega), List.length_singleton, ht, List.map_append, List.map_cons, List.map_nil]
    rw [if_pos (by omega)]
  · intro L _
    simp only [hB, Int.lt_irrefl, decide_false, Bool.false_eq_true, if_false, List.take_length]

theorem apply_spec {n : Nat} {s : Sto} {o : OpC} (h : Fit s o) (hn : big < n) : F_spec_l8Apply n s o = some (resP (applyP s o), ()) := by
  unfold F_spec_l8Apply applyP
  by_cases k1 : o.1 = 1
  · simp only [k1, decide_true, if_true, l8Make h hn, Option.bind_some]
  · simp only [k1, decide_false, Bool.false_eq_true, if_false, l7At h.okS.1 hn, Option.bind_some]
    rcases posB_cases s o.2.1 with hp | ⟨i, hp, hi⟩
    · rw [hp]; rfl
    · rw [hp]
      have h0 : ¬ ((i : Int) < 0) := by omega
      simp only [h0, decide_false, Bool.false_eq_true, if_false, l7Copy h.okS hn, Option.bind_some, if_pos (inLen_nat hi), Int.toNat_natCast]
      have hB := h.small _ (getD_mem hi dB)
      have hBo := h.okS.2 _ (getD_mem hi dB)
      have hB1 := hB.1
      have hB2 := hB.2
      have hf := h.few
      unfold restP
      by_cases k2 : o.1 = 2
      · have hw : IntKind.i64.wrap ((i : Int) + 1) = ((i + 1 : Nat) : Int) := wrap_succ hi (by omega)
        simp only [k2, decide_true, if_true, hw, Int.toNat_natCast]
        rw [if_pos ⟨by omega, by omega⟩, if_pos (by simp; omega), if_pos ⟨by omega, by omega⟩, if_pos (by simp; omega)]
        rfl
      · simp only [k2, decide_false, Bool.false_eq_true, if_false]
        by_cases k3 : o.1 = 3
        · simp only [k3, decide_true, if_true]
          unfold addP
          by_cases c1 : (s.2.1.getD i dB).2.2.2.1.length = 6
          · have : ((s.2.1.getD i dB).2.2.2.1.length : Int) ≥ 6 := by omega
            simp only [c1, this, decide_true, if_true]; rfl
          · have : ¬ ((s.2.1.getD i dB).2.2.2.1.length : Int) ≥ 6 := by omega
            simp only [c1, this, decide_false, Bool.false_eq_true, if_false]
            by_cases c2 : (s.2.1.getD i dB).2.2.1 = 1000
            · have : (s.2.1.getD i dB).2.2.1 ≥ 1000 := by omega
              simp only [c2, this, decide_true, if_true]; rfl
            · have : ¬ (s.2.1.getD i dB).2.2.1 ≥ 1000 := by omega
              have hput := put_spec (n := n) (b := s.2.1.getD i dB) (okM_op h.okO) (by omega) (by omega) (by omega)
              simp only [c2, this, decide_false, Bool.false_eq_true, if_false, hput, Option.bind_some]
              rfl
        · simp only [k3, decide_false, Bool.false_eq_true, if_false]
          by_cases k4 : o.1 = 4
          · simp only [k4, decide_true, if_true, flag_spec hBo.2.1 h.okO.2.2.1 hn, Option.bind_some]
            rfl
          · simp only [k4, decide_false, Bool.false_eq_true, if_false]
            by_cases k7 : o.1 = 7
            · simp only [k7, decide_true, if_true, take_gone hBo.2.1 hn, Option.bind_some]
              exact gone_loop (fun _ _ => rfl) (Nat.le_trans (List.length_filter_le _ _) hBo.2.1) hn
            · simp only [k7, decide_false, Bool.false_eq_true, if_false, l8Carry h.okS h.okO h.small hi hn, Option.bind_some]
              unfold resP
              by_cases c : (carried s i o).2.1 = 0
              · simp only [c, decide_true, Bool.not_true, Bool.false_eq_true, if_false, if_true]
              · simp only [c, decide_false, Bool.not_false, if_true, if_false]; rfl

/-! ### Faults of ops -/
theorem copies {n : Nat} (k : Int) : F_spec_l8Copies n k = some (decide (k = 5) || decide (k = 6), ()) := by
  unfold F_spec_l8Copies
  cases decide (k = 5) <;> rfl
theorem hasTo {n : Nat} (o : OpC) : F_impl_Op_hasTo n o = some (decide (o.1 = 5) || decide (o.1 = 6), ()) := copies (n := n) o.1
theorem hasUids {n : Nat} (o : OpC) : F_impl_Op_hasUids n o = some ((decide (o.1 = 5) || decide (o.1 = 6)) || decide (o.1 = 4), ()) := by
  unfold F_impl_Op_hasUids
  rw [hasTo]
  simp only [Option.bind_some]
  cases (decide (o.1 = 5) || decide (o.1 = 6)) <;> rfl
theorem gt_not (k : Nat) : decide ((k : Int) > 0) = !decide ((k : Int) = 0) := by
  by_cases h : k = 0
  · subst h; rfl
  · rw [decide_eq_true (by omega), decide_eq_false (by omega)]; rfl

def formP (o : OpC) : Bool := (((decide (o.1 = 5) || decide (o.1 = 6)) || decide (o.2.2.1 = [])) && ((((decide (o.1 = 5) || decide (o.1 = 6)) || decide (o.1 = 4)) || decide ((o.2.2.2.1.length : Int) = 0)) && ((decide (o.1 = 4) || decide (o.2.2.2.2.1 = 0)) &&
  ((decide (o.1 = 4) || (decide (o.1 = 3) || decide (o.2.2.2.2.2.1 = 0))) && (decide (o.1 = 3) || (decide (o.2.2.2.2.2.2.1 = 0) && decide ((o.2.2.2.2.2.2.2.1.length : Int) = 0)))))))

set_option maxRecDepth 20000 in
theorem only {n : Nat} (o : OpC) : F_impl_Op_isOnly n o = some (formP o, ()) := by
  unfold F_impl_Op_isOnly formP
  simp only [hasTo, hasUids, Option.bind_some]
  generalize (decide (o.1 = 5) || decide (o.1 = 6)) = c
  generalize decide (o.2.2.1 = []) = b1
  generalize decide (o.1 = 4) = b2
  generalize decide ((o.2.2.2.1.length : Int) = 0) = b3
  generalize decide (o.2.2.2.2.1 = 0) = b4
  generalize decide (o.1 = 3) = b5
  generalize decide (o.2.2.2.2.2.1 = 0) = b6
  generalize decide (o.2.2.2.2.2.2.1 = 0) = b7
  generalize decide ((o.2.2.2.2.2.2.2.1.length : Int) = 0) = b8
  revert c b1 b2 b3 b4 b5 b6 b7 b8
  decide +kernel
set_option maxRecDepth 20000 in
theorem form {n : Nat} (o : OpC) : F_spec_l8Form n o = some (decide (1 ≤ o.1 ∧ o.1 ≤ 7) && formP o, ()) := by
  unfold F_spec_l8Form formP
  simp only [l1In, copies, Option.bind_some, gt_not]
  generalize (decide (o.1 = 5) || decide (o.1 = 6)) = c
  generalize decide (o.2.2.1 = []) = b1
  generalize decide (o.1 = 4) = b2
  generalize decide ((o.2.2.2.1.length : Int) = 0) = b3
  generalize decide (o.2.2.2.2.1 = 0) = b4
  generalize decide (o.1 = 3) = b5
  generalize decide (o.2.2.2.2.2.1 = 0) = b6
  generalize decide (o.2.2.2.2.2.2.1 = 0) = b7
  generalize decide ((o.2.2.2.2.2.2.2.1.length : Int) = 0) = b8
  generalize decide (1 ≤ o.1 ∧ o.1 ≤ 7) = b9
  revert c b1 b2 b3 b4 b5 b6 b7 b8 b9
  decide +kernel

def badU (us : List Int) (j : Nat) : Bool := !decide (1 ≤ us.getD j 0 ∧ us.getD j 0 ≤ 999) || (decide ((j : Int) > 0) && decide (us.getD j 0 ≤ us.getD (j - 1) 0))
theorem uids_spec {n : Nat} {us : List Int} (hb : us.length ≤ big) (hn : big < n) : F_spec_l8Uids n us = firstR (fun j => if badU us j = true then some (some (false, ())) else none) (some (true, ())) us.length 0 := by
  have hb' : us.length ≤ 1048576 := hb
  unfold F_spec_l8Uids
  refine rounds_from (fun i => (us, (i : Int), ())) (fun j => if badU us j = true then some (some (false, ())) else none) (some (true, ())) (m := us.length) rfl (by omega) ?_ ?_
  · intro L i hi _
    simp only [Int.ofNat_lt, hi, decide_true, if_true, inLen_nat hi, Int.toNat_natCast, l1In, Option.bind_some, wrap_succ hi (by omega)]
    unfold badU
    cases h1 : decide (1 ≤ us.getD i 0 ∧ us.getD i 0 ≤ 999) with
    | false => rfl
    | true =>
      cases i with
      | zero => rfl
      | succ j =>
        have hj : j < us.length := by omega
        rw [decide_eq_true (show ((j + 1 : Nat) : Int) > 0 by omega), wrap_pred hj (by omega)]
        simp only [inLen_nat hj, if_true, Int.toNat_natCast, Nat.add_sub_cancel, Bool.not_true, Bool.false_eq_true, if_false, Bool.false_or, Bool.true_and]
        by_cases hle : us.getD (j + 1) 0 ≤ us.getD j 0
        · simp only [hle, decide_true, if_true]
        · simp only [hle, decide_false, Bool.false_eq_true, if_false]
  · intro L _
    simp
theorem uids_impl {n : Nat} {us : List Int} (hb : us.length ≤ big) (hn : big < n) : F_impl_areUids n us = firstR (fun j => if badU us j = true then some (some (false, ())) else none) (some (true, ())) us.length 0 := by
  have hb' : us.length ≤ 1048576 := hb
  unfold F_impl_areUids
  refine rounds_from (fun i => (us, us, (us.length : Int), (i : Int), ())) (fun j => if badU us j = true then some (some (false, ())) else none) (some (true, ())) (m := us.length) rfl (by omega) ?_ ?_
  · intro L i hi _
    have hu : F_impl_isUid n (us.getD i 0) = some (decide (1 ≤ us.getD i 0 ∧ us.getD i 0 ≤ 999), ()) := by
      unfold F_impl_isUid
      rw [within_eq, l1In]; rfl
    simp only [Int.ofNat_lt, hi, decide_true, if_true, inLen_nat hi, Int.toNat_natCast, hu, Option.bind_some, wrap_succ hi (by omega)]
    unfold badU
    cases h1 : decide (1 ≤ us.getD i 0 ∧ us.getD i 0 ≤ 999) with
    | false => rfl
    | true =>
      cases i with
      | zero => rfl
      | succ j =>
        have hj : j < us.length := by omega
        rw [decide_eq_true (show ((j + 1 : Nat) : Int) > 0 by omega), wrap_pred hj (by omega)]
        simp only [inLen_nat hj, if_true, Int.toNat_natCast, Nat.add_sub_cancel, Bool.not_true, Bool.false_eq_true, if_false, Bool.false_or, Bool.true_and, ge_iff_le]
        cases decide (us.getD (j + 1) 0 ≤ us.getD j 0) <;> rfl
  · intro L _
    simp
def uidsP (us : List Int) : Bool := ((firstR (fun j => if badU us j = true then some (some (false, ())) else none) (some (true, ())) us.length 0).getD (false, ())).1
theorem uidsP_eq (us : List Int) : firstR (fun j => if badU us j = true then some (some (false, ())) else none) (some (true, ())) us.length 0 = some (uidsP us, ()) := by
  unfold uidsP
  rcases firstR_const (step := fun j => if badU us j = true then some (some (false, ())) else none) (fin := some (true, ())) (r := some (false, ())) (fun j => by by_cases h : badU us j = true <;> simp [h]) (m := us.length) (i := 0) with h | h <;> rw [h] <;> rfl

def faultP (o : OpC) : Int :=
  if (!(decide (1 ≤ o.1 ∧ o.1 ≤ 7) && formP o)) = true then 1 else
  if (!decide (goodN o.2.1) || ((decide (o.1 = 5) || decide (o.1 = 6)) && !decide (goodN o.2.2.1))) = true then 5 else
  if decide ((o.2.2.2.1.length : Int) > 6) = true then 2 else
  if (!uidsP o.2.2.2.1 || (decide (o.1 = 4) && !decide (1 ≤ o.2.2.2.2.1 ∧ o.2.2.2.2.1 ≤ 3)) || !decide (0 ≤ o.2.2.2.2.2.1 ∧ o.2.2.2.2.2.1 ≤ 15) || !decide (0 ≤ o.2.2.2.2.2.2.1 ∧ o.2.2.2.2.2.2.1 ≤ 9999)) = true then 3 else
  if decide ((o.2.2.2.2.2.2.2.1.length : Int) > 400) = true then 2 else 0

set_option maxRecDepth 20000 in
theorem fault_spec {n : Nat} {o : OpC} (ho : okO o) (hn : big < n) : F_spec_l8Fault n o = some (faultP o, ()) := by
  unfold F_spec_l8Fault faultP
  simp only [form, (name_eq ho.1 hn).2, (name_eq ho.2.1 hn).2, copies, l1In, uids_spec ho.2.2.1 hn, uidsP_eq, Option.bind_some]
  generalize (decide (1 ≤ o.1 ∧ o.1 ≤ 7) && formP o) = b0
  generalize decide (goodN o.2.1) = b1
  generalize (decide (o.1 = 5) || decide (o.1 = 6)) = b2
  generalize decide (goodN o.2.2.1) = b3
  generalize decide ((o.2.2.2.1.length : Int) > 6) = b4
  generalize uidsP o.2.2.2.1 = b5
  generalize decide (o.1 = 4) = b6
  generalize decide (1 ≤ o.2.2.2.2.1 ∧ o.2.2.2.2.1 ≤ 3) = b7
  generalize decide (0 ≤ o.2.2.2.2.2.1 ∧ o.2.2.2.2.2.1 ≤ 15) = b8
  generalize decide (0 ≤ o.2.2.2.2.2.2.1 ∧ o.2.2.2.2.2.2.1 ≤ 9999) = b9
  generalize decide ((o.2.2.2.2.2.2.2.1.length : Int) > 400) = c
  revert b0 b1 b2 b3 b4 b5 b6 b7 b8 b9 c
  decide +kernel
set_option maxRecDepth 20000 in
theorem fault_impl {n : Nat} {o : OpC} (ho : okO o) (hn : big < n) : F_impl_OpFault n o = some (faultP o, ()) := by
  have hfl : ∀ x, F_impl_areFlags n x = some (decide (0 ≤ x ∧ x ≤ 15), ()) := fun x => by unfold F_impl_areFlags; rw [within_eq, l1In]; rfl
  have hda : ∀ x, F_impl_isDate n x = some (decide (0 ≤ x ∧ x ≤ 9999), ()) := fun x => by unfold F_impl_isDate; rw [within_eq, l1In]; rfl
  unfold F_impl_OpFault faultP
  simp only [only, (name_eq ho.1 hn).1, (name_eq ho.2.1 hn).1, hasTo, within_eq, l1In, uids_impl ho.2.2.1 hn, uidsP_eq, hfl, hda, Option.bind_some]
  generalize formP o = b0
  generalize decide (1 ≤ o.1 ∧ o.1 ≤ 7) = a0
  generalize decide (goodN o.2.1) = b1
  generalize (decide (o.1 = 5) || decide (o.1 = 6)) = b2
  generalize decide (goodN o.2.2.1) = b3
  generalize decide ((o.2.2.2.1.length : Int) > 6) = b4
  generalize uidsP o.2.2.2.1 = b5
  generalize decide (o.1 = 4) = b6
  generalize decide (1 ≤ o.2.2.2.2.1 ∧ o.2.2.2.2.1 ≤ 3) = b7
  generalize decide (0 ≤ o.2.2.2.2.2.1 ∧ o.2.2.2.2.2.1 ≤ 15) = b8
  generalize decide (0 ≤ o.2.2.2.2.2.2.1 ∧ o.2.2.2.2.2.2.1 ≤ 9999) = b9
  generalize decide ((o.2.2.2.2.2.2.2.1.length : Int) > 400) = c
  revert a0 b0 b1 b2 b3 b4 b5 b6 b7 b8 b9 c
  decide +kernel

/-! ### ApplyOp -/
def okR (r : ResC) : Prop := r.2.1.length ≤ big ∧ okS r.2.2.1
theorem okR_bad (c : Int) : okR (bad c) := by
  refine ⟨by simp [bad, big], by simp [bad, big], fun b hb => ?_⟩
  simp [bad] at hb
theorem okS_set {s : Sto} {i : Nat} {b : Bx} {v : Int} (hs : okS s) (hb : okB b) : okS (v, s.2.1.set i b, ()) := by
  refine ⟨by simpa using hs.1, fun x hx => ?_⟩
  rcases List.mem_or_eq_of_mem_set hx with h | rfl
  · exact hs.2 x h
  · exact hb
theorem okB_filter {b : Bx} {p : Msg → Bool} (h : okB b) : okB (b.1, b.2.1, b.2.2.1, b.2.2.2.1.filter p, ()) :=
  ⟨h.1, Nat.le_trans (List.length_filter_le _ _) h.2.1, fun m hm => h.2.2 m (List.mem_filter.1 hm).1⟩

theorem carryP_ok {s : Sto} {i k : Nat} {o : OpC} (hs : okS s) (hsm : ∀ b ∈ s.2.1, smallB b) (hi : i < s.2.1.length) (hk : k < s.2.1.length) : (carryP s i k o).1.length ≤ big ∧ okS (carryP s i k o).2.2.1 := by
  have hT : (toldM o (s.2.1.getD i dB)).length ≤ 6 := Nat.le_trans (List.length_filter_le _ _) (hsm _ (getD_mem hi dB)).2
  have hK := (hsm _ (getD_mem hk dB)).2
  unfold carryP
  split
  · exact ⟨by simp [big], hs⟩
  · split
    · exact ⟨by simp [big], hs⟩
    · have hP : okB (putAll (s.2.1.getD k dB) (toldM o (s.2.1.getD i dB))) := putAll_ok (hs.2 _ (getD_mem hk dB)) (fun m hm => (hs.2 _ (getD_mem hi dB)).2.2 m (List.mem_filter.1 hm).1) (by unfold big; omega)
      refine ⟨by rw [uidsOf_length]; unfold big; omega, ?_⟩
      have h1 : okS (s.1, s.2.1.set k (putAll (s.2.1.getD k dB) (toldM o (s.2.1.getD i dB))), ()) := okS_set hs hP
      by_cases h6 : o.1 = 6
      · simp only [h6, if_true]
        exact okS_set (s := (s.1, s.2.1.set k (putAll (s.2.1.getD k dB) (toldM o (s.2.1.getD i dB))), ())) h1 (okB_filter (hs.2 _ (getD_mem hi dB)))
      · simp only [h6, if_false]
        exact h1

theorem applyP_ok {s : Sto} {o : OpC} (h : Fit s o) : (applyP s o).1.length ≤ big ∧ okS (applyP s o).2.2.1 := by
  have hs := h.okS
  have hf := h.few
  unfold applyP
  by_cases k1 : o.1 = 1
  · rw [if_pos k1]
    unfold makeP
    split
    · exact ⟨by simp [big], hs⟩
    · split
      · exact ⟨by simp [big], hs⟩
      · split
        · exact ⟨by simp [big], hs⟩
        · refine ⟨by simp [big], ?_, fun b hb => ?_⟩
          · simp [big]; omega
          · rcases List.mem_append.1 hb with hb | hb
            · exact hs.2 b hb
            · simp only [List.mem_singleton] at hb
              subst hb
              exact ⟨h.okO.1, by simp [big], by simp⟩
  · rw [if_neg k1]
    rcases posB_cases s o.2.1 with hp | ⟨i, hp, hi⟩
    · rw [hp, if_pos (by decide)]
      exact ⟨by simp [big], hs⟩
    · rw [hp, if_neg (by omega), Int.toNat_natCast]
      have hB := h.small _ (getD_mem hi dB)
      have hBo := hs.2 _ (getD_mem hi dB)
      have hB2 := hB.2
      unfold restP
      split
      · refine ⟨by simp [big], ?_, fun b hb => ?_⟩
        · simp [big]; omega
        · rcases List.mem_append.1 hb with hb | hb
          · exact hs.2 b (List.mem_of_mem_take hb)
          · exact hs.2 b (List.mem_of_mem_drop hb)
      · split
        · unfold addP
          split
          · exact ⟨by simp [big], hs⟩
          · split
            · exact ⟨by simp [big], hs⟩
            · refine ⟨by simp [big], okS_set hs (putAll_ok (l := [_]) hBo (fun m hm => ?_) (by simp only [List.length_singleton]; unfold big; omega))⟩
              simp only [List.mem_singleton] at hm
              subst hm
              exact okM_op h.okO
        · split
          · refine ⟨?_, okS_set hs ⟨hBo.1, by simpa [flagB] using hBo.2.1, fun m hm => ?_⟩⟩
            · unfold flagU
              rw [List.length_map]
              exact Nat.le_trans (List.length_filter_le _ _) hBo.2.1
            · obtain ⟨x, hx, rfl⟩ := List.mem_map.1 hm
              unfold flagM
              split
              · exact hBo.2.2 x hx
              · exact hBo.2.2 x hx
          · split
            · refine ⟨?_, okS_set hs (okB_filter hBo)⟩
              unfold goneU
              rw [List.length_map]
              exact Nat.le_trans (List.length_filter_le _ _) hBo.2.1
            · unfold carried
              split
              · exact ⟨by simp [big], hs⟩
              · split
                · exact ⟨by simp [big], hs⟩
                · rename_i hneg _
                  rcases posB_cases s o.2.2.1 with hp2 | ⟨k, hp2, hk⟩
                  · rw [hp2] at hneg; exact absurd (by decide) hneg
                  · rw [hp2, Int.toNat_natCast]
                    exact carryP_ok hs h.small hi hk

theorem resP_ok {s : Sto} {o : OpC} (h : Fit s o) : okR (resP (applyP s o)) := by
  unfold resP
  split
  · exact applyP_ok h
  · exact okR_bad _

theorem fit {s : Sto} {o : OpC} (hs : okS s) (ho : okO o) (hg : goodS s) (hf : faultP o = 0) : Fit s o := by
  refine ⟨hs, ho, hg.1, hg.2.1, fun b hb => ?_, fun h4 => ?_⟩
  · obtain ⟨i, hi, rfl⟩ := List.mem_iff_getElem.1 hb
    have := (hg.2.2 i hi).1
    rw [getD_lt hi] at this
    obtain ⟨_, _, h3, h4, _⟩ := this
    exact ⟨⟨by omega, h3.2⟩, h4⟩
  · unfold faultP at hf
    split at hf
    · omega
    · split at hf
      · omega
      · split at hf
        · omega
        · split at hf
          · omega
          · rename_i hc
            rw [decide_eq_true h4] at hc
            simp only [Bool.not_eq_true, Bool.or_eq_false_iff, Bool.true_and] at hc
            have := hc.1.1.2
            simpa using this

theorem applyOp {n : Nat} {s : Sto} {o : OpC} (hs : okS s) (ho : okO o) (hn : big < n) : ∃ r : ResC, F_spec_ApplyOp n s o = some (r, ()) ∧ F_impl_ApplyOp n s o = some (r, ()) ∧ okR r := by
  obtain ⟨he, c, hc, hg⟩ := fault_eq hs hn
  unfold F_spec_ApplyOp F_impl_ApplyOp F_impl_applied
  rw [he, hc]
  simp only [Option.bind_some]
  by_cases h0 : c = 0
  · simp only [h0, decide_true, Bool.not_true, Bool.false_eq_true, if_false, fault_spec ho hn, fault_impl ho hn, Option.bind_some]
    by_cases h1 : faultP o = 0
    · have hF := fit hs ho (hg.1 h0) h1
      simp only [h1, decide_true, Bool.not_true, Bool.false_eq_true, if_false, apply_spec hF hn, own hs hn, apply_impl hF hn, Option.bind_some]
      refine ⟨resP (applyP s o), rfl, ?_, resP_ok hF⟩
      unfold resP
      by_cases h2 : (applyP s o).2.1 = 0
      · simp only [h2, decide_true, Bool.not_true, Bool.false_eq_true, if_false, if_true, Option.bind_some]
      · simp only [h2, decide_false, Bool.not_false, if_true, if_false, Option.bind_some]
        rfl
    · refine ⟨bad (faultP o), ?_, ?_, okR_bad _⟩
      · simp only [h1, decide_false, Bool.not_false, if_true]; rfl
      · simp only [h1, decide_false, Bool.not_false, if_true]; rfl
  · refine ⟨bad c, ?_, ?_, okR_bad _⟩
    · simp only [h0, decide_false, Bool.not_false, if_true]; rfl
    · simp only [h0, decide_false, Bool.not_false, if_true]; rfl
end Go.Proofs.Ytailcbngagacaaa.OpsMath
