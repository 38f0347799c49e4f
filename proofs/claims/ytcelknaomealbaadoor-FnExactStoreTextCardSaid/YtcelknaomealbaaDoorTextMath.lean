/- 'FnExactStoreText': what its functions come to. -/
import Derived.Test.YtcelknaomealbaaDoorOwF
import Derived.Test.YtcelknaomealbaaDoorNumLib
import Derived.Test.YtcelknaomealbaaDoorJoinLib
import Derived.Test.YtcelknaomealbaaDoorStoreMath
import Derived.Test.YtcelknaomealbaaDoorTextF
set_option linter.unusedSectionVars false
set_option linter.unusedVariables false
set_option linter.unusedSimpArgs false
namespace Go.Proofs.YtcelknaomealbaaDoor.TextMath
open Go Go.Proofs.YtcelknaomealbaaDoor.Ow Go.Proofs.YtcelknaomealbaaDoor.TextF Go.Proofs.YtcelknaomealbaaDoor.LoopLib Go.Proofs.YtcelknaomealbaaDoor.LaidLib Go.Proofs.YtcelknaomealbaaDoor.NumLib Go.Proofs.YtcelknaomealbaaDoor.StoreMath

/-! ### Digits -/
def isB (s : List Int) : Prop := ∀ b ∈ s, 0 ≤ b ∧ b < 256
theorem ints_isB (l : List UInt8) : isB (ints l) := by
  intro b hb
  unfold ints at hb
  obtain ⟨c, _, rfl⟩ := List.mem_map.1 hb
  have := c.toNat_lt
  omega
theorem decL_ints (n : Int) : decL n = ints (Lib.itoa n) := by
  unfold decL bytesOf ints
  simp
theorem decL_nat (v : Nat) : decL v = ints (Lib.decDigits v) := by rw [decL_ints, itoa_nat]
theorem decL_isB (n : Int) : isB (decL n) := by rw [decL_ints]; exact ints_isB _

theorem dec_big {v : Nat} (h : ¬ v < 10) : decL v = decL ((v / 10 : Nat) : Int) ++ [((48 + v % 10 : Nat) : Int)] := by
  rw [decL_nat, decL_nat]
  conv => lhs; rw [Lib.decDigits, dif_neg h]
  unfold ints
  rw [List.map_append]
  congr 1
  show [((UInt8.ofNat (48 + v % 10)).toNat : Int)] = _
  rw [toNat_dig (by omega)]
theorem dec_small {v : Nat} (h : v < 10) : decL v = [((48 + v : Nat) : Int)] := by
  rw [decL_nat, Lib.decDigits_one h]
  show [((UInt8.ofNat (48 + v)).toNat : Int)] = _
  rw [toNat_dig h]

theorem wrapc {x : Int} (h0 : 0 ≤ x) (h1 : x < 10) : IntKind.u8.wrap (IntKind.i64.wrap (48 + x)) = 48 + x := by
  rw [wrap_i64 (by omega) (by omega)]
  unfold IntKind.wrap
  simp [IntKind.bits, IntKind.signed]
  omega

theorem digits : ∀ (k n : Nat) (v : Nat), k + 1 ≤ n → v < 10 ^ (k + 1) → k ≤ 17 → F_spec_l1Digits n v = some (decL v, ()) ∧ (decL v).length ≤ k + 1 := by
  intro k
  induction k with
  | zero =>
    intro n v hn hv _
    have hv : v < 10 := by simpa using hv
    cases n with
    | zero => omega
    | succ n =>
      rw [dec_small hv]
      refine ⟨?_, by simp⟩
      unfold F_spec_l1Digits
      rw [if_pos (by rw [decide_eq_true_eq]; omega), wrapc (by omega) (by omega)]
      simp
  | succ k ih =>
    intro n v hn hv hk
    cases n with
    | zero => omega
    | succ n =>
      by_cases h : v < 10
      · rw [dec_small h]
        refine ⟨?_, by simp⟩
        unfold F_spec_l1Digits
        rw [if_pos (by rw [decide_eq_true_eq]; omega), wrapc (by omega) (by omega)]
        simp
      · rw [Nat.pow_succ] at hv
        obtain ⟨h1, h2⟩ := ih n (v / 10) (by omega) (by omega) (by omega)
        have hb : (10 : Nat) ^ (k + 1) ≤ 10 ^ 17 := Nat.pow_le_pow_right (by decide) (by omega)
        have hb2 : (10 : Nat) ^ 17 = 100000000000000000 := by decide
        have e1 : (v : Int).tdiv 10 = ((v / 10 : Nat) : Int) := by rw [Int.tdiv_eq_ediv_of_nonneg (by omega)]; omega
        have e2 : (v : Int).tmod 10 = ((v % 10 : Nat) : Int) := by rw [Int.tmod_eq_emod_of_nonneg (by omega)]; omega
        rw [dec_big h]
        refine ⟨?_, by rw [List.length_append, List.length_singleton]; omega⟩
        unfold F_spec_l1Digits
        rw [if_neg (by rw [decide_eq_true_eq]; omega), if_pos (by omega), e1, wrap_i64 (by omega) (by omega), h1]
        simp only [Option.bind_some]
        rw [if_pos (by omega), if_pos (by rw [List.length_singleton]; omega), e2, wrapc (by omega) (by omega)]
        simp

theorem digit {n : Nat} (hn : 4 ≤ n) {v : Int} (h0 : 0 ≤ v) (h1 : v < 10000) : F_spec_l1Digits n v = some (decL v, ()) ∧ (decL v).length ≤ 4 := by
  obtain ⟨m, rfl⟩ : ∃ m : Nat, v = m := ⟨v.toNat, by omega⟩
  exact digits 3 n m (by omega) (by omega) (by omega)

/-! ### Numbers behind a word -/
def numsT (l : List Int) : List Int := (l.map fun v => 32 :: decL v).flatten
def inR (l : List Int) : Prop := ∀ v ∈ l, 0 ≤ v ∧ v < 10000
theorem numsT_len {l : List Int} (h : inR l) : (numsT l).length ≤ 5 * l.length := by
  induction l with
  | nil => simp [numsT]
  | cons v l ih =>
    have := ih (fun x hx => h x (by simp [hx]))
    have := (digit (n := 4) (by omega) (h v (by simp)).1 (h v (by simp)).2).2
    simp only [numsT, List.map_cons, List.flatten_cons, List.length_append, List.length_cons] at *
    omega
theorem numsT_snoc (l : List Int) {i : Nat} (hi : i < l.length) : numsT (l.take (i + 1)) = (numsT (l.take i) ++ [32]) ++ decL l[i] := by
  rw [List.take_succ_eq_append_getElem hi]
  simp only [numsT, List.map_append, List.flatten_append, List.map_cons, List.map_nil, List.flatten_cons, List.flatten_nil, List.append_nil, List.append_assoc, List.cons_append, List.nil_append]

theorem spec_numbers {n : Nat} (hn : 1000 < n) {l : List Int} (h : inR l) (hl : l.length ≤ 10) : F_spec_l15Numbers n l = some (numsT l, ()) := by
  unfold F_spec_l15Numbers
  refine (rounds_from (fun i => (l, numsT (l.take i), (i : Int), ())) (fun _ => none) (some (numsT l, ())) (m := l.length) rfl (by omega) ?_ ?_).trans (firstR_none (fun _ _ _ => rfl))
  · intro L i hi _
    obtain ⟨d1, d2⟩ := digit (n := n) (by omega) (h l[i] (List.getElem_mem hi)).1 (h l[i] (List.getElem_mem hi)).2
    have hle := numsT_len (l := l.take i) (fun x hx => h x (List.mem_of_mem_take hx))
    rw [List.length_take] at hle
    simp only [Int.ofNat_lt, hi, decide_true, if_true, inLen_nat hi, getD_nat hi, wrap_succ hi (by omega), d1, Option.bind_some]
    rw [if_pos (by simp; omega), if_pos (by simp; omega), numsT_snoc l hi]
  · intro L _
    simp

theorem bytes_u8 {s : List Int} (h : isB s) : ints (JoinLib.u8 s) = s := by
  unfold JoinLib.u8
  rw [baOf_toList]
  exact ints_u8 h
theorem ints_append (a b : List UInt8) : ints (a ++ b) = ints a ++ ints b := by simp [ints]
theorem u8_len (s : List Int) : (JoinLib.u8 s).length = s.length := by unfold JoinLib.u8; rw [baOf_toList]; simp [u8]

theorem joinT (sep : List UInt8) (r : List (List Int)) (hr : ∀ x ∈ r, isB x) : ints (Lib.joinTail sep (r.map JoinLib.u8)) = (r.map fun x => ints sep ++ x).flatten ∧ (Lib.joinTail sep (r.map JoinLib.u8)).length = ((r.map fun x => ints sep ++ x).flatten).length := by
  induction r with
  | nil => exact ⟨rfl, rfl⟩
  | cons x r ih =>
    obtain ⟨h1, h2⟩ := ih (fun y hy => hr y (by simp [hy]))
    unfold Lib.joinTail at *
    simp only [List.map_cons, List.flatten_cons, ints_append, bytes_u8 (hr x (by simp)), h1, List.length_append, h2, u8_len]
    refine ⟨trivial, ?_⟩
    simp [ints]

theorem join_at {n : Nat} {w : List Int} {r : List (List Int)} (hw : isB w) (hr : ∀ x ∈ r, isB x) (hl : w.length + ((r.map fun x => (32 : Int) :: x).flatten).length ≤ 1000) (hn : r.length ≤ 1000) : F_strings_Join n (w :: r) [32] = some (w ++ (r.map fun x => (32 : Int) :: x).flatten, ()) := by
  show JoinLib.joinF _ _ = _
  have es : ints (JoinLib.u8 [32]) = [32] := bytes_u8 (by intro b hb; simp at hb; omega)
  obtain ⟨h1, h2⟩ := joinT (JoinLib.u8 [32]) r hr
  rw [es] at h1 h2
  have e : Lib.join ((w :: r).map JoinLib.u8) (JoinLib.u8 [32]) = JoinLib.u8 w ++ Lib.joinTail (JoinLib.u8 [32]) (r.map JoinLib.u8) := by rw [List.map_cons, Lib.join_cons]
  have e3 : ∀ x : List Int, [(32 : Int)] ++ x = 32 :: x := fun x => rfl
  simp only [e3] at h1 h2
  unfold JoinLib.joinF
  rw [if_pos ⟨by simp; omega, by rw [e, List.length_append, u8_len, h2]; omega⟩]
  unfold JoinLib.joinL
  rw [e]
  have e2 : ∀ l : List UInt8, bytesOf ⟨l.toArray⟩ = ints l := fun l => by unfold bytesOf ints; simp
  rw [e2, ints_append, bytes_u8 hw, h1]

theorem impl_numbers {n : Nat} (hn : 1000 < n) {w l : List Int} (hw : isB w) (hwl : w.length ≤ 20) (h : inR l) (hl : l.length ≤ 10) : F_impl_numbersText n w l = some (w ++ numsT l, ()) := by
  unfold F_impl_numbersText
  refine (rounds_from (fun i => (l, (l.length : Int), (i : Int), w :: (l.take i).map decL, ())) (fun _ => none) (some (w ++ numsT l, ())) (m := l.length) (by simp) (by omega) ?_ ?_).trans (firstR_none (fun _ _ _ => rfl))
  · intro L i hi _
    obtain ⟨b0, b1⟩ := h l[i] (List.getElem_mem hi)
    have hd : F_impl_decimal n l[i] = some (decL l[i], ()) := by
      show decF _ = _
      unfold decF
      rw [if_pos (by omega)]
    simp only [Int.ofNat_lt, hi, decide_true, if_true, inLen_nat hi, getD_nat hi, wrap_succ hi (by omega), hd, Option.bind_some]
    rw [if_pos (by simp; omega), List.take_succ_eq_append_getElem hi, List.map_append]
    rfl
  · intro L _
    have hN := numsT_len h
    have e : ((l.map decL).map fun x => (32 : Int) :: x).flatten = numsT l := by unfold numsT; rw [List.map_map]; rfl
    have hj := join_at (n := n) (w := w) (r := l.map decL) hw (fun x hx => by
      obtain ⟨v, _, rfl⟩ := List.mem_map.1 hx
      exact decL_isB v) (by rw [e]; omega) (by simp; omega)
    simp only [Int.lt_irrefl, decide_false, Bool.false_eq_true, if_false, List.take_length, hj, Option.bind_some, e]

/-! ### Stores -/
def msgT (m : Msg) : List Int := ([109, 101, 115, 115, 97, 103, 101] ++ numsT [m.1, m.2.1, m.2.2.1, (m.2.2.2.1.length : Int)]) ++ [10]
def headT (b : Bx) : List Int := (([98, 111, 120, 32] ++ b.1) ++ numsT [b.2.1, b.2.2.1]) ++ [10]
def msgsT (ms : List Msg) : List Int := (ms.map msgT).flatten
def boxT (b : Bx) : List Int := headT b ++ msgsT b.2.2.2.1
def boxesT (bs : List Bx) : List Int := (bs.map boxT).flatten

theorem msg_inR {m : Msg} (h : goodM m) : inR [m.1, m.2.1, m.2.2.1, (m.2.2.2.1.length : Int)] := by
  obtain ⟨a, b, c, d⟩ := h
  intro v hv
  simp only [List.mem_cons, List.not_mem_nil, or_false] at hv
  rcases hv with rfl | rfl | rfl | rfl <;> omega
theorem msgT_len {m : Msg} (h : goodM m) : (msgT m).length ≤ 28 := by
  have := numsT_len (msg_inR h)
  simp only [msgT, List.length_append, List.length_cons, List.length_nil] at *
  omega
theorem msgsT_len {ms : List Msg} (h : ∀ m ∈ ms, goodM m) : (msgsT ms).length ≤ 28 * ms.length := by
  induction ms with
  | nil => simp [msgsT]
  | cons m ms ih =>
    have := ih (fun x hx => h x (by simp [hx]))
    have := msgT_len (h m (by simp))
    simp only [msgsT, List.map_cons, List.flatten_cons, List.length_append, List.length_cons] at *
    omega
theorem box_inR {b : Bx} (h : goodB b) : inR [b.2.1, b.2.2.1] := by
  obtain ⟨_, b, c, _⟩ := h
  intro v hv
  simp only [List.mem_cons, List.not_mem_nil, or_false] at hv
  rcases hv with rfl | rfl <;> omega
theorem box_msgs {b : Bx} (h : goodB b) : ∀ m ∈ b.2.2.2.1, goodM m := fun m hm => by
  obtain ⟨i, hi, rfl⟩ := List.getElem_of_mem hm
  have := (h.2.2.2.2 i hi).1
  simpa [hi] using this
theorem headT_len {b : Bx} (h : goodB b) : (headT b).length ≤ 23 := by
  have := numsT_len (box_inR h)
  have := h.1.1.2
  simp only [headT, List.length_append, List.length_cons, List.length_nil] at *
  omega
theorem boxT_len {b : Bx} (h : goodB b) : (boxT b).length ≤ 191 := by
  have h1 := headT_len h
  have h2 := msgsT_len (box_msgs h)
  have h3 : b.2.2.2.1.length ≤ 6 := h.2.2.2.1
  simp only [boxT, List.length_append]
  omega
theorem boxesT_len {bs : List Bx} (h : ∀ b ∈ bs, goodB b) : (boxesT bs).length ≤ 191 * bs.length := by
  induction bs with
  | nil => simp [boxesT]
  | cons m ms ih =>
    have := ih (fun x hx => h x (by simp [hx]))
    have := boxT_len (h m (by simp))
    simp only [boxesT, List.map_cons, List.flatten_cons, List.length_append, List.length_cons] at *
    omega
theorem msgsT_snoc (ms : List Msg) {i : Nat} (hi : i < ms.length) : msgsT (ms.take (i + 1)) = msgsT (ms.take i) ++ msgT ms[i] := by
  rw [List.take_succ_eq_append_getElem hi]
  simp only [msgsT, List.map_append, List.flatten_append, List.map_cons, List.map_nil, List.flatten_cons, List.flatten_nil, List.append_nil, List.append_assoc, List.cons_append, List.nil_append]
theorem boxesT_snoc (bs : List Bx) {i : Nat} (hi : i < bs.length) : boxesT (bs.take (i + 1)) = boxesT (bs.take i) ++ boxT bs[i] := by
  rw [List.take_succ_eq_append_getElem hi]
  simp only [boxesT, List.map_append, List.flatten_append, List.map_cons, List.map_nil, List.flatten_cons, List.flatten_nil, List.append_nil, List.append_assoc, List.cons_append, List.nil_append]
def outT (bs : List Bx) : List Int := if boxesT bs = [] then [110, 111, 110, 101, 10] else boxesT bs

theorem good_boxes {s : Sto} (h : goodS s) : ∀ b ∈ s.2.1, goodB b := fun m hm => by
  obtain ⟨i, hi, rfl⟩ := List.getElem_of_mem hm
  have := (h.2.2 i hi).1
  simpa [hi] using this

theorem spec_store {n : Nat} (hn : 1000 < n) {s : Sto} (hg : goodS s) : F_spec_l16Store n s = some (outT s.2.1, ()) := by
  obtain ⟨nx, bs, ⟨⟩⟩ := s
  have hb3 : bs.length ≤ 3 := hg.2.1
  have hgb : ∀ b ∈ bs, goodB b := good_boxes hg
  unfold F_spec_l16Store
  refine (rounds_from (fun i => ((nx, bs, ()), boxesT (bs.take i), (i : Int), ())) (fun _ => none) (some (outT bs, ())) (m := bs.length) rfl (by omega) ?_ ?_).trans (firstR_none (fun _ _ _ => rfl))
  · intro L i hi _
    have gb := hgb bs[i] (List.getElem_mem hi)
    have hle := boxesT_len (bs := bs.take i) (fun b hb => hgb b (List.mem_of_mem_take hb))
    rw [List.length_take] at hle
    have hN := numsT_len (box_inR gb)
    have hnm := gb.1.1.2
    have h6 : bs[i].2.2.2.1.length ≤ 6 := gb.2.2.2.1
    simp only [Int.ofNat_lt, hi, decide_true, if_true, inLen_nat hi, getD_nat hi, wrap_succ hi (by omega), spec_numbers hn (box_inR gb) (by simp), Option.bind_some]
    simp only [List.length_cons, List.length_nil] at hN
    rw [if_pos (by simp; omega), if_pos (by simp; omega), if_pos (by simp; omega), if_pos (by simp; omega), boxesT_snoc bs hi]
    refine (rounds_from (fun k => ((nx, bs, ()), (boxesT (bs.take i) ++ headT bs[i]) ++ msgsT (bs[i].2.2.2.1.take k), (i : Int), bs[i], (k : Int), ())) (fun _ => none) (L ((nx, bs, ()), boxesT (bs.take i) ++ boxT bs[i], ((i + 1 : Nat) : Int), ())) (m := bs[i].2.2.2.1.length) (by simp [headT, msgsT]) (by omega) ?_ ?_).trans (firstR_none (fun _ _ _ => rfl))
    · intro L3 k hk _
      have gm := box_msgs gb bs[i].2.2.2.1[k] (List.getElem_mem hk)
      have hle2 := msgsT_len (ms := bs[i].2.2.2.1.take k) (fun m hm => box_msgs gb m (List.mem_of_mem_take hm))
      rw [List.length_take] at hle2
      have hM := numsT_len (msg_inR gm)
      have hH := headT_len gb
      simp only [Int.ofNat_lt, hk, decide_true, if_true, inLen_nat hk, getD_nat hk, wrap_succ hk (by omega), spec_numbers hn (msg_inR gm) (by simp), Option.bind_some]
      simp only [List.length_cons, List.length_nil] at hM
      rw [if_pos (by simp; omega), if_pos (by simp; omega), if_pos (by simp; omega), msgsT_snoc _ hk]
      simp [msgT]
    · intro L3 _
      simp only [Int.lt_irrefl, decide_false, Bool.false_eq_true, if_false, List.take_length, wrap_succ hi (by omega)]
      simp [boxT]
  · intro L _
    simp only [Int.lt_irrefl, decide_false, Bool.false_eq_true, if_false, List.take_length]
    unfold outT
    by_cases h : boxesT bs = []
    · simp [h]
    · simp [h]

theorem name_isB {s : List Int} (h : goodN s) : isB ([98, 111, 120, 32] ++ s) := by
  intro b hb
  rcases List.mem_append.1 hb with hb | hb
  · simp only [List.mem_cons, List.not_mem_nil, or_false] at hb
    omega
  · have := h.2 b hb
    omega

theorem impl_store {n : Nat} (hn : 1000 < n) {s : Sto} (hg : goodS s) : F_impl_storeText n s = some (outT s.2.1, ()) := by
  obtain ⟨nx, bs, ⟨⟩⟩ := s
  have hb3 : bs.length ≤ 3 := hg.2.1
  have hgb : ∀ b ∈ bs, goodB b := good_boxes hg
  unfold F_impl_storeText
  refine (rounds_from (fun i => (boxesT (bs.take i), bs, (bs.length : Int), (i : Int), (nx, bs, ()), ())) (fun _ => none) (some (outT bs, ())) (m := bs.length) rfl (by omega) ?_ ?_).trans (firstR_none (fun _ _ _ => rfl))
  · intro L i hi _
    have gb := hgb bs[i] (List.getElem_mem hi)
    have hle := boxesT_len (bs := bs.take i) (fun b hb => hgb b (List.mem_of_mem_take hb))
    rw [List.length_take] at hle
    have hN := numsT_len (box_inR gb)
    have hnm := gb.1.1.2
    have h6 : bs[i].2.2.2.1.length ≤ 6 := gb.2.2.2.1
    simp only [Int.ofNat_lt, hi, decide_true, if_true, inLen_nat hi, getD_nat hi, wrap_succ hi (by omega), impl_numbers hn (name_isB gb.1) (by simp; omega) (box_inR gb) (by simp), Option.bind_some]
    simp only [List.length_cons, List.length_nil] at hN
    rw [if_pos (by simp; omega), if_pos (by simp; omega), if_pos (by simp; omega), boxesT_snoc bs hi]
    refine (rounds_from (fun k => ((boxesT (bs.take i) ++ headT bs[i]) ++ msgsT (bs[i].2.2.2.1.take k), bs, (bs.length : Int), (i : Int), bs[i].2.2.2.1, (bs[i].2.2.2.1.length : Int), (k : Int), (nx, bs, ()), bs[i], ())) (fun _ => none) (L (boxesT (bs.take i) ++ boxT bs[i], bs, (bs.length : Int), ((i + 1 : Nat) : Int), (nx, bs, ()), ())) (m := bs[i].2.2.2.1.length) (by simp [headT, msgsT]) (by omega) ?_ ?_).trans (firstR_none (fun _ _ _ => rfl))
    · intro L3 k hk _
      have gm := box_msgs gb bs[i].2.2.2.1[k] (List.getElem_mem hk)
      have hle2 := msgsT_len (ms := bs[i].2.2.2.1.take k) (fun m hm => box_msgs gb m (List.mem_of_mem_take hm))
      rw [List.length_take] at hle2
      have hM := numsT_len (msg_inR gm)
      have hH := headT_len gb
      have hlen : ∀ l : List Int, F_impl_length_byte n l = some ((l.length : Int), ()) := fun l => rfl
      simp only [Int.ofNat_lt, hk, decide_true, if_true, inLen_nat hk, getD_nat hk, wrap_succ hk (by omega), hlen, Option.bind_some]
      rw [impl_numbers hn (w := [109, 101, 115, 115, 97, 103, 101]) (by intro b hb; simp only [List.mem_cons, List.not_mem_nil, or_false] at hb; omega) (by simp) (msg_inR gm) (by simp)]
      simp only [Option.bind_some]
      simp only [List.length_cons, List.length_nil] at hM
      rw [if_pos (by simp; omega), if_pos (by simp; omega), msgsT_snoc _ hk]
      simp [msgT]
    · intro L3 _
      simp only [Int.lt_irrefl, decide_false, Bool.false_eq_true, if_false, List.take_length, wrap_succ hi (by omega)]
      simp [boxT]
  · intro L _
    simp only [Int.lt_irrefl, decide_false, Bool.false_eq_true, if_false, List.take_length]
    unfold outT
    by_cases h : boxesT bs = []
    · simp [h]
    · simp [h]

theorem text_eq {n : Nat} (hn : big < n) {s : Sto} (hs : okS s) : F_impl_StoreText n s = F_spec_StoreText n s ∧ ∃ r, F_spec_StoreText n s = some (r, ()) := by
  obtain ⟨h0, r, h1, h2⟩ := fault_eq hs hn
  have hn' : 1000 < n := by unfold big at hn; omega
  unfold F_impl_StoreText F_spec_StoreText
  rw [h0, h1]
  simp only [Option.bind_some]
  by_cases hr : r = 0
  · rw [spec_store hn' (h2.1 hr), impl_store hn' (h2.1 hr)]
    simp [hr]
  · simp [hr]

theorem law {s : Sto} (hs : lS s) : F_laws_FnExactStoreText 1048577 s = some (true, ()) := by
  unfold F_laws_FnExactStoreText
  have hn : big < 1048577 := by decide
  obtain ⟨r, h1, h2⟩ := szStore hs hn
  rw [h1]
  simp only [Option.bind_some]
  by_cases hr : r < 0
  · simp [hr]
  · have ok := h2.resolve_left hr
    obtain ⟨e, q, hq⟩ := text_eq hn ok
    have he : F_laws_eqTextResult 1048577 q q = some (true, ()) := by simp [F_laws_eqTextResult]
    simp only [hr, decide_false, Bool.false_eq_true, if_false, toStore ok hn, Option.bind_some, e, hq, he, Bool.not_true, eqStore ok hn]

theorem all : ∀ (N : Nat) (c : Cont (kin ps_laws_FnExactStoreText)), lenC ps_laws_FnExactStoreText c → szC ps_laws_FnExactStoreText c ≤ N → ∃ n out, E_laws_FnExactStoreText.F n c = some out ∧ out.1 = true := by
  intro N c hc _
  refine ⟨1048577, (true, ()), law (s := c.1) ?_, rfl⟩
  obtain ⟨⟨_, ⟨h1, h2⟩, _⟩, _⟩ := hc
  refine ⟨h1, fun b hb => ?_⟩
  obtain ⟨⟨g1, _⟩, _, _, ⟨g2, g3⟩, _⟩ := h2 b hb
  refine ⟨g1, g2, fun m hm => ?_⟩
  obtain ⟨_, _, _, ⟨f1, _⟩, _⟩ := g3 m hm
  exact f1
end Go.Proofs.YtcelknaomealbaaDoor.TextMath
