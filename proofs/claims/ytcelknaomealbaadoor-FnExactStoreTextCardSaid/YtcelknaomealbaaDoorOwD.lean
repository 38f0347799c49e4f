/- A verified reading of translated code: values in place of memory; part D of 6. No condition. Own work of this seat. -/
import Derived.Test.YtcelknaomealbaaDoorOwC
/- The framework, part 37: append, of what is owned. Own work of this seat. -/
set_option linter.unusedSectionVars false
set_option linter.unusedVariables false
set_option linter.unusedSimpArgs false
namespace Go.Proofs.YtcelknaomealbaaDoor.Ow
open Go

variable [Fr]

def segL (news : List Value) (s i : Nat) : List Value := (news.drop (i * s)).take s

theorem segL_len {news : List Value} {s i m : Nat} (h : news.length = m * s) (hi : i < m) : (segL news s i).length = s := by
  unfold segL
  have : (i + 1) * s ≤ m * s := Nat.mul_le_mul_right _ hi
  rw [Nat.add_mul, Nat.one_mul] at this
  simp
  omega

theorem segL_get {news : List Value} {s i j : Nat} (hj : j < s) : (segL news s i)[j]? = news[i * s + j]? := by
  unfold segL
  rw [List.getElem?_take, if_pos hj, List.getElem?_drop]

theorem fos_app {fos fos' : List (List Nat)} {i : Nat} : (fos ++ fos').getD i [] = if i < fos.length then fos.getD i [] else fos'.getD (i - fos.length) [] := by
  simp only [List.getD_eq_getElem?_getD, List.getElem?_append]
  split <;> rfl

section
variable {P : Program} {T : Tab} {w : World}

theorem Ow_blocks {h : Heap} {own : List TypeId} {ok : Nat → Prop} {k : K} {x : El k} {cs : List Value} {fo : List Nat} (H : Ow h own ok k x cs fo) : ∀ b ∈ fo, ∃ o, h b = some o := by
  intro b hb
  obtain ⟨e, _, _, he⟩ := Ow_fo_ty H b hb
  unfold elTy at he
  split at he
  · rename_i h1; exact ⟨_, h1⟩
  · simp at he

theorem appendMem {t u ty e : TypeId} {kk : K} (ht : TyOk P T t (.sl e kk)) {own : List TypeId} {ok : Nat → Prop} {xs0 xs1 : List (El kk)} {v0 x : Value} {fo0 : List Nat} {fos : List (List Nat)} {news : List Value}
    (hO : Ow (hp w) own ok (.sl e kk) xs0 [v0] fo0) (hown : memN e own = true) (hnd : (fo0 ++ fos.flatten).Nodup) (hok : ∀ b, ok b → b ∉ fo0 ∧ b < w.heap.size) (hlt : ∀ b ∈ fo0 ++ fos.flatten, b < w.heap.size)
    (hS : Src P w kk.size u x xs1.length news) (hfl : fos.length = xs1.length) (hel : ∀ i (hi : i < xs1.length), Ow (hp w) own ok kk xs1[i] (segL news kk.size i) (fos.getD i []))
    (hb : (xs0.length + xs1.length) * T.bytes e ≤ 140737488355328) :
    ∃ v' w' fo', (Builtin.append_ #[t, u] ty #[v0, x]).run P w = .ok v' w' ∧ (w'.os = w.os ∧ w'.tape = w.tape ∧ w'.output = w.output) ∧ w.heap.size ≤ w'.heap.size ∧
      (∀ b, b < w.heap.size → hp w' b ≠ hp w b → b ∈ fo0 ∧ elTy (hp w) b = some e) ∧ (∀ b ∈ fo', b ∈ fo0 ∨ b ∈ fos.flatten ∨ (w.heap.size ≤ b ∧ b < w'.heap.size)) ∧ fo'.Nodup ∧
      Ow (hp w') own ok (.sl e kk) (xs0 ++ xs1) [v'] fo' := by
  have hsz : 0 < kk.size := ht.sl.2.2.1
  have hnl := hS.nl
  unfold Ow at hO
  rw [if_pos hown] at hO
  obtain ⟨a, n, c, e1, e2, e3, hO⟩ := hO
  simp only [List.cons.injEq, and_true] at e1
  subst e1
  have e2' : n = xs0.length := e2
  have hnd' := List.nodup_append.1 hnd
  by_cases hr : n + xs1.length ≤ c
  · have hrun := run_append_in (ty := ty) ht hS (b := a) (n := n) hr
    rcases hO with ⟨hc0, hf0⟩ | ⟨b, o, arr, lo, hi, ea, hbk, hf, hs, fos0, hl0, hp0, hO⟩
    · have hx1 : xs1 = [] := List.eq_nil_of_length_eq_zero (by omega)
      have hx0 : xs0 = [] := List.eq_nil_of_length_eq_zero (by omega)
      subst hx1
      subst hx0
      have hnews : news = [] := List.eq_nil_of_length_eq_zero (by simpa using hnl)
      subst hnews
      have hn0 : n = 0 := by simpa using e2'
      subst hn0
      subst hc0
      have : (Builtin.append_ #[t, u] ty #[.slice a 0 0, x]).run P w = .ok (.slice a 0 0) w := by
        rw [hrun]
        cases a <;> rfl
      exact ⟨_, w, [], this, ⟨rfl, rfl, rfl⟩, Nat.le_refl _, fun b _ h => absurd rfl h, fun b hb => by simp at hb, List.nodup_nil, nil_held⟩
    · subst ea
      have hle : (n + xs1.length) * kk.size ≤ c * kk.size := Nat.mul_le_mul_right _ hr
      rw [Nat.add_mul] at hle
      have hst := run_storeCells_row (P := P) (o := o + n * kk.size) news hbk hf (by rw [hnl]; omega) hS.one
      simp only [Result.andThen, addr_add, hst] at hrun
      obtain ⟨s1, s2, arr', s3, s4, s5, s6⟩ := setCells_hp b news w arr e (lo, hi) (o + n * kk.size) hbk (by rw [hnl]; omega)
      have s7 := setCells_meta b news w (o + n * kk.size)
      have hb0 : b ∈ fo0 := hp0.mem_iff.2 (by simp)
      have hnd0 := hp0.nodup hnd'.1
      have hne : ∀ b' ∈ fos0.flatten ++ fos.flatten, b' ≠ b := by
        intro b' hb' e
        subst e
        rcases List.mem_append.1 hb' with h | h
        · exact (List.nodup_cons.1 hnd0).1 h
        · exact hnd'.2.2 b' hb0 b' h rfl
      have hokb : ∀ b', ok b' → hp (w.setCells b (o + n * kk.size) news) b' = hp w b' := fun b' h => s1 b' (fun e => (hok b' h).1 (e ▸ hb0))
      refine ⟨_, _, b :: (fos0.flatten ++ fos.flatten), hrun, s7, by omega, ?_, ?_, ?_, ?_⟩
      · intro b' _ hne'
        by_cases e : b' = b
        · subst e; exact ⟨hb0, by unfold elTy; rw [hbk]⟩
        · exact absurd (s1 b' e) hne'
      · intro b' hb'
        rcases List.mem_cons.1 hb' with h | h
        · subst h; exact .inl hb0
        · rcases List.mem_append.1 h with h | h
          · exact .inl (hp0.mem_iff.2 (by simp [h]))
          · exact .inr (.inl h)
      · refine List.nodup_cons.2 ⟨fun h => hne b h rfl, List.nodup_append.2 ⟨(List.nodup_cons.1 hnd0).2, hnd'.2.1, fun b1 h1 b2 h2 e => hnd'.2.2 b1 (hp0.mem_iff.2 (by simp [h1])) b2 h2 e⟩⟩
      · unfold Ow
        rw [if_pos hown]
        refine ⟨_, _, _, rfl, by simp [e2'], hr, .inr ⟨b, o, arr', lo, hi, rfl, s3, by rw [s4]; exact hf, by rw [s4]; exact hs, fos0 ++ fos, by simp [hl0, hfl], by simp, fun i hi => ?_⟩⟩
        have hi' : i < xs0.length + xs1.length := by simpa using hi
        rw [fos_app]
        by_cases hi0 : i < xs0.length
        · obtain ⟨ds, h1, h2⟩ := hO i hi0
          have hfl0 : i < fos0.length := by rw [hl0]; exact hi0
          rw [if_pos hfl0]
          have hx : (xs0 ++ xs1)[i]'hi = xs0[i] := List.getElem_append_left hi0
          refine ⟨ds, fun j hj => ?_, ?_⟩
          · have hdl := Ow_len h2
            have hlt2 : (i + 1) * kk.size ≤ n * kk.size := Nat.mul_le_mul_right _ (by omega)
            rw [Nat.add_mul, Nat.one_mul] at hlt2
            have := h1 j hj
            unfold cellAt at this ⊢
            rw [hbk] at this
            rw [s3]
            simp only at this ⊢
            rw [s6 _ (by rw [hnl]; omega)]
            exact this
          · show Ow _ own ok kk ((xs0 ++ xs1)[i]'hi) ds _
            rw [hx]
            exact Ow_mono hokb (fun _ h => h) (fun b' hb' => s1 b' (hne b' (List.mem_append_left _ (mem_fos hb')))) h2
        · have hi1 : i - xs0.length < xs1.length := by omega
          rw [if_neg (by rw [hl0]; exact hi0)]
          have hx : (xs0 ++ xs1)[i]'hi = xs1[i - xs0.length] := List.getElem_append_right (by omega)
          have hfe : i - fos0.length = i - xs0.length := by rw [hl0]
          rw [hfe]
          refine ⟨segL news kk.size (i - xs0.length), fun j hj => ?_, ?_⟩
          · rw [segL_len hnl hi1] at hj
            unfold cellAt
            rw [s3, segL_get hj]
            simp only
            have e4 : o + i * kk.size + j = o + n * kk.size + ((i - xs0.length) * kk.size + j) := by
              have : i * kk.size = n * kk.size + (i - xs0.length) * kk.size := by rw [← Nat.add_mul]; congr 1; omega
              omega
            rw [e4]
            refine s5 _ ?_
            rw [hnl]
            have : (i - xs0.length + 1) * kk.size ≤ xs1.length * kk.size := Nat.mul_le_mul_right _ hi1
            rw [Nat.add_mul, Nat.one_mul] at this
            omega
          · show Ow _ own ok kk ((xs0 ++ xs1)[i]'hi) _ _
            rw [hx]
            exact Ow_mono hokb (fun _ h => h) (fun b' hb' => s1 b' (hne b' (List.mem_append_right _ (mem_fos hb')))) (hel _ hi1)
  · -- the cells that were there
    obtain ⟨olds, ho1, ho2, fos0, hl0, hf0, hOe⟩ : ∃ olds, olds.length = n * kk.size ∧ (Builtin.firstCells kk.size n (.slice a n c)).run P w.drew = .ok olds.toArray w.drew ∧ ∃ fos0 : List (List Nat), fos0.length = xs0.length ∧ ((∀ b ∈ fos0.flatten, b ∈ fo0) ∧ fos0.flatten.Nodup) ∧
        ∀ i (hi : i < xs0.length), Ow (hp w) own ok kk xs0[i] (segL olds kk.size i) (fos0.getD i []) := by
      rcases hO with ⟨hc0, hf0⟩ | ⟨b, o, arr, lo, hi, ea, hbk, hf, hs, fos0, hl0, hp0, hO⟩
      · have hx0 : xs0 = [] := List.eq_nil_of_length_eq_zero (by omega)
        subst hx0
        have hn0 : n = 0 := by simpa using e2'
        subst hn0
        refine ⟨[], by simp, ?_, [], rfl, ⟨by simp, by simp⟩, fun i hi => by simp at hi⟩
        cases a with
        | none => exact run_firstCells_none w.drew kk.size 0 0 c
        | some ad => exact run_firstCells_some (P := P) w.drew kk.size 0 ad 0 c [] (by simp) (fun j v hj => by simp at hj)
      · subst ea
        have hle : n * kk.size ≤ c * kk.size := Nat.mul_le_mul_right _ e3
        have hrow := Cells_row (n := n * kk.size) hbk (by omega : o + n * kk.size ≤ arr.size)
        have hrl : (rowL (hp w) b o (n * kk.size)).length = n * kk.size := by simp [rowL]
        have hnd0 := hp0.nodup hnd'.1
        refine ⟨rowL (hp w) b o (n * kk.size), hrl, ?_, fos0, hl0, ⟨fun b' hb' => hp0.mem_iff.2 (by simp [hb']), (List.nodup_cons.1 hnd0).2⟩, fun i hi => ?_⟩
        · refine run_firstCells_some (P := P) w.drew kk.size n ⟨b, o, none⟩ n c _ hrl (fun j v hj => ?_)
          rw [addr_add, cell_hp]
          have := hrow j (by rw [hrl]; have := (List.getElem?_eq_some_iff.1 hj).1; rw [hrl] at this; exact this)
          rw [hj] at this
          exact this
        · obtain ⟨ds, h1, h2⟩ := hO i hi
          have hdl := Ow_len h2
          have : segL (rowL (hp w) b o (n * kk.size)) kk.size i = ds := by
            apply List.ext_getElem?
            intro j
            by_cases hj : j < kk.size
            · rw [segL_get hj]
              have hlt2 : (i + 1) * kk.size ≤ n * kk.size := Nat.mul_le_mul_right _ (by omega)
              rw [Nat.add_mul, Nat.one_mul] at hlt2
              rw [← hrow _ (by rw [hrl]; omega), ← Nat.add_assoc]
              exact h1 j (by omega)
            · rw [List.getElem?_eq_none (by rw [segL_len hrl (by omega)]; omega), List.getElem?_eq_none (by omega)]
          rw [this]
          exact h2
    obtain ⟨nc, hnc, hrun⟩ := run_append_out (ty := ty) ht hS ho2 hr (by rw [e2']; exact hb)
    have hnew := hp_alloc_new w.drew (.cells (olds.toArray ++ news.toArray ++ Builtin.zeroCells (zval kk).cells (nc - (n + xs1.length))) e)
    have hold : ∀ b', b' < w.heap.size → hp (w.drew.alloc (.cells (olds.toArray ++ news.toArray ++ Builtin.zeroCells (zval kk).cells (nc - (n + xs1.length))) e)) b' = hp w b' := fun b' h => hp_alloc_old w.drew _ h
    have hws : w.drew.heap.size = w.heap.size := rfl
    rw [hws] at hnew
    have hsz2 : (w.drew.alloc (.cells (olds.toArray ++ news.toArray ++ Builtin.zeroCells (zval kk).cells (nc - (n + xs1.length))) e)).heap.size = w.heap.size + 1 := Array.size_push ..
    have hzl : (zval kk).cells.size = kk.size := by
      rw [zval_cells ht.sl.2.1.shape]
      simpa using Ow_len (zero_any (h := hp w) (own := own) (ok := ok) ht.sl.2.1.noGap)
    have hall : ∀ b' ∈ fos0.flatten ++ fos.flatten, b' < w.heap.size := by
      intro b' hb'
      rcases List.mem_append.1 hb' with h | h
      · exact hlt b' (List.mem_append_left _ (hf0.1 b' h))
      · exact hlt b' (List.mem_append_right _ h)
    refine ⟨_, _, w.heap.size :: (fos0.flatten ++ fos.flatten), hrun, ⟨rfl, rfl, rfl⟩, by omega, fun b' hb' hne => absurd (hold b' hb') hne, ?_, ?_, ?_⟩
    · intro b' hb'
      rcases List.mem_cons.1 hb' with h | h
      · subst h; exact .inr (.inr ⟨Nat.le_refl _, by omega⟩)
      · rcases List.mem_append.1 h with h | h
        · exact .inl (hf0.1 b' h)
        · exact .inr (.inl h)
    · refine List.nodup_cons.2 ⟨fun h => by have := hall _ h; omega, List.nodup_append.2 ⟨hf0.2, hnd'.2.1, fun b1 h1 b2 h2 e => hnd'.2.2 b1 (hf0.1 b1 h1) b2 h2 e⟩⟩
    · unfold Ow
      rw [if_pos hown]
      refine ⟨_, _, _, rfl, by simp [e2'], hnc, .inr ⟨w.heap.size, 0, _, 0, 0, rfl, hnew, fun i hi => by omega, ?_, fos0 ++ fos, by simp [hl0, hfl], by simp, fun i hi => ?_⟩⟩
      · simp only [Array.size_append, List.size_toArray, size_zeroCells, hzl, ho1, hnl, ← Nat.add_mul]
        have : n + xs1.length + (nc - (n + xs1.length)) = nc := by omega
        rw [this]
        omega
      have hi' : i < xs0.length + xs1.length := by simpa using hi
      rw [fos_app]
      have hcell : ∀ q, q < (olds ++ news).length → cellAt (hp (w.drew.alloc (.cells (olds.toArray ++ news.toArray ++ Builtin.zeroCells (zval kk).cells (nc - (n + xs1.length))) e))) w.heap.size (0 + q) = (olds ++ news)[q]? := by
        intro q hq
        unfold cellAt
        rw [hnew]
        simp only [Nat.zero_add]
        rw [Array.getElem?_append_left (by simpa using hq)]
        simp
      by_cases hi0 : i < xs0.length
      · rw [if_pos (by rw [hl0]; exact hi0)]
        have hx : (xs0 ++ xs1)[i]'hi = xs0[i] := List.getElem_append_left hi0
        refine ⟨segL olds kk.size i, fun j hj => ?_, ?_⟩
        · rw [segL_len ho1 (by omega)] at hj
          have hlt2 : (i + 1) * kk.size ≤ n * kk.size := Nat.mul_le_mul_right _ (by omega)
          rw [Nat.add_mul, Nat.one_mul] at hlt2
          rw [Nat.add_assoc, hcell _ (by rw [List.length_append, ho1]; omega), List.getElem?_append_left (by rw [ho1]; omega), segL_get hj]
        · show Ow _ own ok kk ((xs0 ++ xs1)[i]'hi) _ _
          rw [hx]
          exact Ow_mono (fun b' h => hold b' (hok b' h).2) (fun _ h => h) (fun b' hb' => hold b' (hall b' (List.mem_append_left _ (mem_fos hb')))) (hOe i hi0)
      · have hi1 : i - xs0.length < xs1.length := by omega
        rw [if_neg (by rw [hl0]; exact hi0)]
        have hx : (xs0 ++ xs1)[i]'hi = xs1[i - xs0.length] := List.getElem_append_right (by omega)
        have hfe : i - fos0.length = i - xs0.length := by rw [hl0]
        rw [hfe]
        refine ⟨segL news kk.size (i - xs0.length), fun j hj => ?_, ?_⟩
        · rw [segL_len hnl hi1] at hj
          have hlt2 : (i - xs0.length + 1) * kk.size ≤ xs1.length * kk.size := Nat.mul_le_mul_right _ hi1
          rw [Nat.add_mul, Nat.one_mul] at hlt2
          have e4 : i * kk.size = n * kk.size + (i - xs0.length) * kk.size := by rw [← Nat.add_mul]; congr 1; omega
          rw [Nat.add_assoc, hcell _ (by rw [List.length_append, ho1, hnl]; omega), List.getElem?_append_right (by rw [ho1]; omega), segL_get hj]
          congr 1
          rw [ho1]
          omega
        · show Ow _ own ok kk ((xs0 ++ xs1)[i]'hi) _ _
          rw [hx]
          exact Ow_mono (fun b' h => hold b' (hok b' h).2) (fun _ h => h) (fun b' hb' => hold b' (hall b' (List.mem_append_right _ (mem_fos hb')))) (hel _ hi1)

end
end Go.Proofs.YtcelknaomealbaaDoor.Ow

/- The framework, part 38: what is appended. Own work of this seat. -/
namespace Go.Proofs.YtcelknaomealbaaDoor.Ow
open Go

variable [Fr]

section
variable {P : Program} {T : Tab} {cx : Cx} {σ : St} {α : Asg} {F : List Nat} {a : Act} {w : World}

theorem Vw_cast {k l : K} (e : k = l) {x : El k} {y : El l} (ey : y = e ▸ x) {h : Heap} {ok : Nat → Prop} {cs : List Value} (H : Vw h ok k x cs) : Vw h ok l y cs := by subst e; subst ey; exact H
theorem Ow_cast {k l : K} (e : k = l) {x : El k} {y : El l} (ey : y = e ▸ x) {h : Heap} {own : List TypeId} {ok : Nat → Prop} {cs : List Value} {fo : List Nat} (H : Ow h own ok k x cs fo) : Ow h own ok l y cs fo := by subst e; subst ey; exact H

theorem row_src {u : TypeId} {size n c bb q : Nat} (hu : (∃ e', P.underlying u = some (.slice e')) ∨ P.underlying u = some .string) (Q : Nat → List Value → Prop)
    (hE : ∀ i, i < n → ∃ ds, ds.length = size ∧ Cells (hp w) bb (q + i * size) ds ∧ (∀ v ∈ ds, v.oneCell' = true) ∧ Q i ds) :
    ∃ news, Src P w size u (.slice (some ⟨bb, q, none⟩) n c) n news ∧ ∀ i, i < n → Q i (segL news size i) := by
  have hrl : (rowL (hp w) bb q (n * size)).length = n * size := by simp [rowL]
  have hseg : ∀ i, i < n → ∃ ds, segL (rowL (hp w) bb q (n * size)) size i = ds ∧ ds.length = size ∧ Cells (hp w) bb (q + i * size) ds ∧ (∀ v ∈ ds, v.oneCell' = true) ∧ Q i ds := by
    intro i hi
    obtain ⟨ds, hdl, h1, h2, h3⟩ := hE i hi
    refine ⟨ds, ?_, hdl, h1, h2, h3⟩
    apply List.ext_getElem?
    intro j
    by_cases hj : j < size
    · rw [segL_get hj]
      have hlt2 : (i + 1) * size ≤ n * size := Nat.mul_le_mul_right _ (by omega)
      rw [Nat.add_mul, Nat.one_mul] at hlt2
      unfold rowL
      rw [List.getElem?_map, List.getElem?_range (by omega)]
      have := h1 j (by omega)
      simp only [Option.map_some]
      rw [← Nat.add_assoc, this, List.getElem?_eq_getElem (by omega)]
      rfl
    · rw [List.getElem?_eq_none (by rw [segL_len hrl hi]; omega), List.getElem?_eq_none (by omega)]
  have hcell : ∀ j, j < n * size → cellAt (hp w) bb (q + j) = (rowL (hp w) bb q (n * size))[j]? ∧ ∀ v, (rowL (hp w) bb q (n * size))[j]? = some v → v.oneCell' = true := by
    intro j hj
    have hk : 0 < size := by
      rcases Nat.eq_zero_or_pos size with h | h
      · rw [h] at hj; omega
      · exact h
    have hi : j / size < n := Nat.div_lt_of_lt_mul (by rw [Nat.mul_comm]; exact hj)
    have hm : j % size < size := Nat.mod_lt _ hk
    obtain ⟨ds, s1, hdl, s2, s3, _⟩ := hseg _ hi
    have hjj : j / size * size + j % size = j := by rw [Nat.mul_comm]; exact Nat.div_add_mod j size
    have h1 : (rowL (hp w) bb q (n * size))[j]? = ds[j % size]? := by
      rw [← s1, segL_get hm, hjj]
    have h2 := s2 (j % size) (by omega)
    rw [Nat.add_assoc, hjj] at h2
    refine ⟨by rw [h2, h1], fun v hv => ?_⟩
    rw [h1] at hv
    exact s3 v (List.mem_of_getElem? hv)
  refine ⟨rowL (hp w) bb q (n * size), src_slice hu hrl (fun v hv => ?_) (fun _ => ⟨bb, q, rfl, fun i hi => (hcell i (by rw [hrl] at hi; exact hi)).1⟩), fun i hi => ?_⟩
  · obtain ⟨j, hj, rfl⟩ := List.mem_iff_getElem.1 hv
    exact (hcell j (by rw [hrl] at hj; exact hj)).2 _ (List.getElem?_eq_getElem hj)
  · obtain ⟨ds, s1, _, _, _, s3⟩ := hseg i hi
    rw [s1]
    exact s3

theorem vw_src {u e : TypeId} {kk : K} {h : Heap} {ok : Nat → Prop} {xs : List (El kk)} {v : Value} {cs : List Value} (hu : (∃ e', P.underlying u = some (.slice e')) ∨ P.underlying u = some .string) (hg : noGap kk = true)
    (hh : h = hp w) (hv : VC (.sl e kk) v cs) (hV : Vw h ok (.sl e kk) xs cs) :
    ∃ news, Src P w kk.size u v xs.length news ∧ ∀ i (hi : i < xs.length), Vw h ok kk xs[i] (segL news kk.size i) := by
  subst hh
  obtain ⟨b, n, c, e1, e2, e3, e4, e5⟩ := sl_val hv hV
  subst e1
  subst e3
  by_cases h0 : 0 < xs.length
  · obtain ⟨bb, q, eb, hok, hel, hE⟩ := e5 h0
    subst eb
    obtain ⟨news, g1, g2⟩ := row_src (P := P) (w := w) (n := xs.length) (c := c) (bb := bb) (q := q) hu (fun i ds => ∀ hi : i < xs.length, Vw (hp w) ok kk xs[i] ds) (fun i hi => by
      obtain ⟨ds, h1, h2⟩ := hE i hi
      exact ⟨ds, Vw_len h2, h1, Vw_one hg h2, fun _ => h2⟩)
    exact ⟨news, g1, fun i hi => g2 i hi hi⟩
  · have hx : xs = [] := List.eq_nil_of_length_eq_zero (by omega)
    subst hx
    exact ⟨[], src_slice hu (by simp) (by simp) (fun h => by simp at h), fun i hi => by simp at hi⟩

theorem ow_src {u e : TypeId} {kk : K} {own : List TypeId} {ok : Nat → Prop} {xs : List (El kk)} {v : Value} {cs : List Value} {fo : List Nat} (hu : (∃ e', P.underlying u = some (.slice e')) ∨ P.underlying u = some .string) (hg : noGap kk = true)
    (hv : VC (.sl e kk) v cs) (hown : memN e own = true) (hO : Ow (hp w) own ok (.sl e kk) xs cs fo) (hnd : fo.Nodup) :
    ∃ news, Src P w kk.size u v xs.length news ∧ ∃ fos : List (List Nat), fos.length = xs.length ∧ fos.flatten.Nodup ∧ (∀ b ∈ fos.flatten, b ∈ fo) ∧ ∀ i (hi : i < xs.length), Ow (hp w) own ok kk xs[i] (segL news kk.size i) (fos.getD i []) := by
  unfold Ow at hO
  rw [if_pos hown] at hO
  obtain ⟨b, n, c, e1, e2, e3, hO⟩ := hO
  obtain ⟨e5, _⟩ : cs = [v] ∧ _ := hv
  rw [e1] at e5
  simp only [List.cons.injEq, and_true] at e5
  subst e5
  have e2' : n = xs.length := e2
  subst e2'
  rcases hO with ⟨hc0, hf0⟩ | ⟨bb, q, arr, lo, hi, ea, hbk, hf, hs, fos0, hl0, hp0, hO⟩
  · have hx : xs = [] := List.eq_nil_of_length_eq_zero (by omega)
    subst hx
    exact ⟨[], src_slice hu (by simp) (by simp) (fun h => by simp at h), [], rfl, by simp, by simp, fun i hi => by simp at hi⟩
  · subst ea
    have hnd0 := hp0.nodup hnd
    obtain ⟨news, g1, g2⟩ := row_src (P := P) (w := w) (n := xs.length) (c := c) (bb := bb) (q := q) hu (fun i ds => ∀ hi : i < xs.length, Ow (hp w) own ok kk xs[i] ds (fos0.getD i [])) (fun i hi => by
      obtain ⟨ds, h1, h2⟩ := hO i hi
      exact ⟨ds, Ow_len h2, h1, Ow_one hg h2, fun _ => h2⟩)
    exact ⟨news, g1, fos0, hl0, (List.nodup_cons.1 hnd0).2, fun b hb => hp0.mem_iff.2 (by simp [hb]), fun i hi => g2 i hi hi⟩

/-- Elements, of fewer types owned. -/
theorem els_less {kk : K} {own own' : List TypeId} {ok : Nat → Prop} {xs : List (El kk)} {news : List Value} {fos : List (List Nat)} (hfl : fos.length = xs.length) (hnd : fos.flatten.Nodup) (hsub : ∀ t ∈ kk.tys, memN t own' = true → memN t own = true)
    (hel : ∀ i (hi : i < xs.length), Ow (hp w) own ok kk xs[i] (segL news kk.size i) (fos.getD i [])) :
    ∃ (fos' : List (List Nat)) (fdt : List Nat), fos'.length = xs.length ∧ (fos'.flatten ++ fdt).Nodup ∧ (∀ b ∈ fos'.flatten ++ fdt, b ∈ fos.flatten) ∧
      ∀ i (hi : i < xs.length), Ow (hp w) own' (fun b => ok b ∨ b ∈ fdt) kk xs[i] (segL news kk.size i) (fos'.getD i []) := by
  suffices hs : ∀ (n : Nat), n ≤ xs.length → ∃ (fos' : List (List Nat)) (fdt : List Nat), fos'.length = n ∧ (fos.take n).flatten.Perm (fos'.flatten ++ fdt) ∧
      ∀ i (_ : i < n) (hi : i < xs.length), Ow (hp w) own' (fun b => ok b ∨ b ∈ fdt) kk xs[i] (segL news kk.size i) (fos'.getD i []) by
    obtain ⟨fos', fdt, h1, h2, h3⟩ := hs xs.length (Nat.le_refl _)
    rw [List.take_of_length_le (by omega)] at h2
    exact ⟨fos', fdt, h1, h2.nodup hnd, fun b hb => h2.mem_iff.2 hb, fun i hi => h3 i hi hi⟩
  intro n
  induction n with
  | zero => intro _; exact ⟨[], [], rfl, by simp, fun i hi => by omega⟩
  | succ n ih =>
    intro hn
    obtain ⟨fos', fdt, h1, h2, h3⟩ := ih (by omega)
    obtain ⟨f1, f2, p1, p2⟩ := Ow_less (own' := own') hsub (hel n (by omega))
    refine ⟨fos' ++ [f1], fdt ++ f2, by simp [h1], ?_, fun i hi hi' => ?_⟩
    · rw [List.take_succ_eq_append_getElem (by omega), List.flatten_append]
      have e : [fos[n]'(by omega)].flatten = fos.getD n [] := by rw [getElem_getD (show n < fos.length by omega)]; simp
      rw [e]
      refine (h2.append p1).trans ?_
      simp only [List.flatten_append, List.append_assoc]
      refine List.Perm.append_left _ ?_
      simp only [List.flatten_cons, List.flatten_nil, List.append_nil]
      exact perm_mid
    · rw [fos_app, h1]
      by_cases h : i < n
      · rw [if_pos h]
        exact Ow_mono (fun _ _ => rfl) (fun b hb => hb.imp id (fun h => by simp [h])) (fun _ _ => rfl) (h3 i h hi')
      · have : i = n := by omega
        subst this
        rw [if_neg (by omega)]
        simp only [Nat.sub_self]
        exact Ow_mono (fun _ _ => rfl) (fun b hb => hb.imp id (fun h => by simp [h])) (fun _ _ => rfl) p2

/-- What is known of what is appended, where it was having been left. -/
def SrcOk (P : Program) (cx : Cx) (σ : St) (α : Asg) (F : List Nat) (a : Act) (w : World) (u e : TypeId) (kk : K) (v : Value) (s : Elems kk) : Prop :=
  ∃ α1 F1 news, Rel cx (appAll s.ws σ) α1 F1 a w ∧ (∀ q, q ∉ s.ws.flatMap Wr.rid → Same σ α (appAll s.ws σ) α1 q) ∧ (appAll s.ws σ).slots = σ.slots ∧ (∀ q, σ.roots q = none → (appAll s.ws σ).roots q = none) ∧ (∀ b ∈ F, b ∈ F1) ∧
    tagsW (appAll s.ws σ) s.tags ∧ Src P w kk.size u v s.xs.length news ∧
    ∀ own', (∀ t ∈ kk.tys, memN t own' = true → t ∉ s.bad) → ∃ (fos : List (List Nat)) (fdt : List Nat), fos.length = s.xs.length ∧ (fos.flatten ++ fdt).Nodup ∧ (∀ b ∈ fos.flatten ++ fdt, b ∈ F1 ∧ b ∉ F) ∧
      ∀ i (hi : i < s.xs.length), Ow (hp w) own' (fun b => (okT cx (appAll s.ws σ) α1 F1 w s.tags b ∧ ∃ t ∈ s.bad, elIs (hp w) b t) ∨ b ∈ fdt) kk s.xs[i] (segL news kk.size i) (fos.getD i [])

theorem getD_rep {n i : Nat} : (List.replicate n ([] : List Nat)).getD i [] = [] := by
  simp only [List.getD_eq_getElem?_getD, List.getElem?_replicate]
  split <;> rfl

theorem srcOk_view (H : Rel cx σ α F a w) {u e : TypeId} {kk : K} {v : Value} {s : Elems kk} (hws : s.ws = []) (htg : tagsW σ s.tags) {news : List Value} (hS : Src P w kk.size u v s.xs.length news)
    (hV : ∀ i (hi : i < s.xs.length), Vw (hp w) (okT cx σ α F w s.tags) kk s.xs[i] (segL news kk.size i)) (hbad : s.bad = kk.tys ∨ kk.flat = true ∨ s.xs = []) : SrcOk P cx σ α F a w u e kk v s := by
  refine ⟨α, F, news, by rw [hws]; exact H, by rw [hws]; exact fun q _ => Same_refl .., by rw [hws]; rfl, by rw [hws]; exact fun q h => h, fun _ h => h, by rw [hws]; exact htg, hS, fun own' ho => ?_⟩
  refine ⟨List.replicate s.xs.length [], [], by simp, by simp, by simp, fun i hi => ?_⟩
  rw [getD_rep, hws]
  rcases hbad with h | h | h
  · refine Ow_mono (fun _ _ => rfl) (fun b hb => .inl (h ▸ hb)) (fun _ _ => rfl) (Ow_of_view (fun t ht => ?_) (Vw_tys kk.tys (fun _ h => h) (hV i hi)))
    cases hm : memN t own' with
    | false => rfl
    | true => exact absurd (h ▸ ht) (ho t ht hm)
  · exact Ow_of_view (fun t ht => by rw [flat_tys h] at ht; simp at ht) (Vw_flat h (hV i hi))
  · rw [h] at hi; simp at hi

theorem srcP_inv {A : Type} {z : A} (H : Rel cx σ α F a w) {u e : TypeId} {kk : K} {x : AV} {v : Value} {k : Elems kk → Prog A} (hu : (∃ e', P.underlying u = some (.slice e')) ∨ P.underlying u = some .string) (hg : noGap kk = true)
    (hx : AVok cx σ α F w x v) (hw : avW σ x) (h : (srcP e kk x k).ends σ z) : ∃ s : Elems kk, (k s).ends σ z ∧ SrcOk P cx σ α F a w u e kk v s := by
  have hview : (asVal x fun k' y tags => match castK k' (.sl e kk) y with
      | some xs => k ⟨xs, kk.tys, bif kk.flat then [] else tags, [], false, []⟩
      | none => .fail).ends σ z → ∃ s : Elems kk, (k s).ends σ z ∧ SrcOk P cx σ α F a w u e kk v s := by
    intro h
    obtain ⟨k', y, Tg, cs, h1, h2, h3, h4⟩ := asVal_inv H hx hw h
    cases hc : castK k' (.sl e kk) y with
    | none => rw [hc] at h4; exact h4.elim
    | some xs =>
      rw [hc] at h4
      obtain ⟨ek, ey⟩ := castK_some hc
      subst ek
      simp only at ey
      subst ey
      obtain ⟨news, g1, g2⟩ := vw_src (P := P) (u := u) (xs := xs) hu hg rfl h1 h2
      cases hf : kk.flat with
      | true =>
        rw [hf] at h4
        exact ⟨_, h4, srcOk_view H rfl (fun t ht => by simp at ht) g1 (fun i hi => Vw_flat hf (g2 i hi)) (.inr (.inl hf))⟩
      | false =>
        rw [hf] at h4
        exact ⟨_, h4, srcOk_view H rfl h3 g1 g2 (.inl rfl)⟩
  cases x with
  | val k1 y Tg =>
    cases k1 with
    | str =>
      simp only [srcP] at h
      cases h1 : castK (.int .u8) kk (0 : Int) with
      | none => rw [h1] at h; exact h.elim
      | some q =>
        rw [h1] at h
        obtain ⟨ek, _⟩ := castK_some h1
        subst ek
        simp only at h
        cases h2 : castK (.sl e (.int .u8)) (.sl e (.int .u8)) (show List Int from y) with
        | none => rw [h2] at h; exact h.elim
        | some xs =>
          rw [h2] at h
          obtain ⟨_, ey⟩ := castK_some h2
          simp only at ey
          subst ey
          obtain ⟨B, e1, e2⟩ := val_str hx
          subst e1
          have hlen : (bytesOf B).length = B.size := bytesOf_len B
          have hS := src_string (P := P) (w := w) (u := u) (B := B) hu
          subst e2
          refine ⟨_, h, srcOk_view H rfl (fun t ht => by simp at ht) (news := B.data.toList.map fun b => .int .u8 b.toNat) ?_ (fun i hi => ?_) (.inr (.inl rfl))⟩
          · show Src P w 1 u _ (bytesOf B).length _
            rw [hlen]
            exact hS
          · have hi' : i < B.size := by
              have : i < (bytesOf B).length := hi
              rw [hlen] at this; exact this
            have hseg : segL (B.data.toList.map fun b => Value.int .u8 b.toNat) (K.int .u8).size i = [.int .u8 (B.data.toList[i]'(by simpa using hi')).toNat] := by
              apply List.ext_getElem?
              intro j
              show (segL (B.data.toList.map fun b => Value.int .u8 b.toNat) 1 i)[j]? = _
              cases j with
              | zero => rw [segL_get (by omega)]; simp [hi']
              | succ j => rw [List.getElem?_eq_none (by rw [segL_len (m := B.size) (by simp) hi']; omega)]; simp
            rw [hseg]
            have he : (bytesOf B)[i]'hi = ((B.data.toList[i]'(by simpa using hi')).toNat : Int) := by simp [bytesOf]
            refine ⟨?_, ?_⟩
            · show [Value.int .u8 _] = [Value.int .u8 _]
              congr 2
              exact he.symm
            · show rng .u8 _
              have : rng .u8 ((B.data.toList[i]'(by simpa using hi')).toNat : Int) := ⟨by omega, by have := (B.data.toList[i]'(by simpa using hi')).toNat_lt; omega⟩
              exact he ▸ this
    | _ => exact hview h
  | nils =>
    obtain ⟨b, rfl⟩ := hx
    exact ⟨_, h, srcOk_view H rfl (fun t ht => by simp at ht) (news := []) (src_slice hu (by simp) (by simp) (fun h => by simp at h)) (fun i hi => by simp at hi) (.inr (.inr rfl))⟩
  | ref r g =>
    simp only [srcP] at h
    obtain ⟨R, hr, hv, h⟩ := useR_inv h
    rcases cond_ends h with ⟨hg1, h⟩ | ⟨_, h⟩
    · have hgg := Nat.eq_of_beq_eq_true hg1
      obtain ⟨hkind, hVC⟩ := hx R hr hgg
      cases hc : castK R.k (.sl e kk) R.x with
      | none => rw [hc] at h; exact h.elim
      | some xs =>
        rw [hc] at h
        simp only at h
        obtain ⟨ek, ey⟩ := castK_some hc
        have K := H.roots r R hr
        have hO := K.ow hv
        have hview0 := out_view H hr hO (fun b hb => hb)
        cases hf : kk.flat with
        | true =>
          rw [hf] at h
          have hO' : Vw (hp w) (okT cx σ α F w (R.out r R.k)) (.sl e kk) xs (α.hdr r) := Vw_cast ek ey hview0
          obtain ⟨news, g1, g2⟩ := vw_src (P := P) (u := u) (xs := xs) hu hg rfl (ek ▸ hVC) hO'
          exact ⟨_, h, srcOk_view H rfl (fun t ht => by simp at ht) g1 (fun i hi => Vw_flat hf (g2 i hi)) (.inr (.inl hf))⟩
        | false =>
          rw [hf] at h
          simp only [cond_false] at h
          rcases cond_ends h with ⟨_, h⟩ | ⟨_, h⟩
          · exact h.elim
          · obtain ⟨H1, T1, hh, hcl⟩ := kill H hr hkind hv
            have hO1 : Ow (hp w) R.own (okT cx (setRoot σ r deadRoot) (killed α r) (α.fo r ++ F) w R.tags) (.sl e kk) xs (α.hdr r) (α.fo r) := Ow_cast ek ey (hh.ow hcl)
            have hVC' : VC (.sl e kk) v (α.hdr r) := ek ▸ hVC
            have hsame : ∀ q, q ∉ ([Wr.r r none] : List Wr).flatMap Wr.rid → Same σ α (setRoot σ r deadRoot) (killed α r) q := fun q hq => Same_ne (by simpa [Wr.rid] using hq)
            have hnone : ∀ q, σ.roots q = none → (setRoot σ r deadRoot).roots q = none := fun q hq => by
              rw [setRoot_ne]
              · exact hq
              · intro e; rw [e, hr.1] at hq; simp at hq
            have hfoF : ∀ b ∈ α.fo r, b ∉ F := fun b hb => H.fdis r R hr b (List.mem_append_right _ hb)
            cases hme : memN e R.own with
            | true =>
              obtain ⟨news, g1, fos, g2, g3, g4, g5⟩ := ow_src (P := P) (u := u) hu hg hVC' hme hO1 hh.nd
              rw [hme] at h
              simp only [cond_true, Bool.true_and] at h
              refine ⟨_, h, killed α r, α.fo r ++ F, news, H1, hsame, rfl, hnone, fun b hb => List.mem_append_right _ hb, ?_, g1, fun own' ho => ?_⟩
              · intro t ht
                simp only at ht
                cases hal : (kk.tys.all fun t => memN t R.own) with
                | true => rw [hal] at ht; simp at ht
                | false => rw [hal] at ht; exact hh.wt t ht
              · simp only at ho ⊢
                have g5' : ∀ i (hi : i < List.length xs), Ow (hp w) R.own (fun b => okT cx (setRoot σ r deadRoot) (killed α r) (α.fo r ++ F) w (bif (kk.tys.all fun t => memN t R.own) then [] else R.tags) b ∧ ∃ t ∈ vtysK R.own kk, elIs (hp w) b t) kk xs[i] (segL news kk.size i) (fos.getD i []) := by
                  intro i hi
                  cases hal : (kk.tys.all fun t => memN t R.own) with
                  | false => exact Ow_tys _ (fun _ h => h) (g5 i hi)
                  | true => exact Ow_own (vtysK_all (memN_all hal)) (g5 i hi)
                obtain ⟨fos', fdt, f1, f2, f3, f4⟩ := els_less (own' := own') g2 g3 (fun t ht hm => (vtysK_or (own := R.own) ht).resolve_left (fun hx => ho t ht hm hx)) g5'
                exact ⟨fos', fdt, f1, f2, fun b hb => ⟨List.mem_append_left _ (g4 b (f3 b hb)), hfoF b (g4 b (f3 b hb))⟩, f4⟩
            | false =>
              have hO2 := hO1
              unfold Ow at hO2
              rw [hme] at hO2 h
              simp only [Bool.false_eq_true, if_false] at hO2
              simp only [cond_false, Bool.false_and] at h
              obtain ⟨news, g1, g2⟩ := vw_src (P := P) (u := u) (xs := xs) hu hg rfl hVC' hO2.2
              refine ⟨_, h, killed α r, α.fo r ++ F, news, H1, hsame, rfl, hnone, fun b hb => List.mem_append_right _ hb, hh.wt, g1, fun own' ho => ?_⟩
              refine ⟨List.replicate (List.length xs) [], [], by simp, by simp, by simp, fun i hi => ?_⟩
              rw [getD_rep]
              refine Ow_mono (fun _ _ => rfl) (fun b hb => .inl hb) (fun _ _ => rfl) (Ow_of_view (fun t ht => ?_) (Vw_tys kk.tys (fun _ h => h) (g2 i hi)))
              cases hm : memN t own' with
              | false => rfl
              | true => exact absurd ht (ho t ht hm)
    · exact h.elim
  | bor r p n => exact hview h
  | undef => exact hview h
  | ptr r p n => exact hview h
  | rptr bt k y T => exact hview h
  | cpy _ _ _ _ => exact hview h
  | nilq _ => exact hview h
  | nilp => exact hview h
  | fn f cs => exact hview h

end
end Go.Proofs.YtcelknaomealbaaDoor.Ow

/- The framework, part 39: append, the operation. Own work of this seat. -/
namespace Go.Proofs.YtcelknaomealbaaDoor.Ow
open Go

variable [Fr]

section
variable {P : Program} {T : Tab} {cx : Cx} {σ : St} {α : Asg} {F : List Nat} {a : Act} {w : World} {o : Oper} {d : Nat} {ws : List Wr} {r : Nat} {R : Root}

/-- A root's content, put anew. -/
theorem regen (H : Rel cx σ α F a w) (hr : liveR σ r R) (hv : validR σ R) (hk : R.kind = .anon) {R' : Root} (hk' : R'.kind = .anon) {e : TypeId} (hw : R'.w = e :: R.w) (hh : R'.h = GAPT :: e :: R.h) (hg : R'.g = R.g + 1) (hev : R'.ew = R.ew ∧ R'.eh = R.eh)
    (htg : tagsW σ R'.tags ∧ ∀ n, (r, n) ∉ R'.tags) {w' : World} (hos : w'.os = w.os ∧ w'.tape = w.tape ∧ w'.output = w.output) (hsize : w.heap.size ≤ w'.heap.size) {fo' : List Nat}
    (chg : ∀ b, b < w.heap.size → hp w' b ≠ hp w b → b ∈ F ∨ (b ∈ α.fo r ∧ elTy (hp w) b = some e)) (newfo : ∀ b ∈ fo', b ∈ α.fo r ∨ b ∈ F ∨ (w.heap.size ≤ b ∧ b < w'.heap.size)) (hnd : fo'.Nodup)
    {hdr' : List Value} (hlen : hdr'.length = R'.k.size) (how : Ow (hp w') R'.own (okT cx (setRoot σ r R') (setAsg α r (α.loc r) hdr' fo') [] w' R'.tags) R'.k R'.x hdr' fo') {v' : Value} (hv' : VC R'.k v' hdr') :
    Rel cx (setRoot σ r R') (setAsg α r (α.loc r) hdr' fo') [] a w' ∧ AVok cx (setRoot σ r R') (setAsg α r (α.loc r) hdr' fo') [] w' (.ref r R'.g) v' := by
  have hblk : blk α R r = α.fo r := by simp [blk, whR, hk]
  have hd' : R'.isDead = false := by simp [Root.isDead, hk']
  have T1 : Turn1 cx σ α F w r R R' fo' [] w' [e] [GAPT, e] := by
    refine ⟨.inr ⟨hw, hh, by omega, hk'.trans hk.symm, fun h => by rw [hk] at h; simp at h, .inl (by simp)⟩, htg, hos, hsize, fun b hb hne => ?_, fun _ b hb => ?_, fun b hb => by simp at hb, List.nodup_nil, fun _ b _ h => by simp at h, fun j pi b o n hj hb hrj hne => ?_, fun _ => hev⟩
    · rcases chg b hb hne with h | ⟨h1, h2⟩
      · exact .inl h
      · exact .inr ⟨by rw [hblk]; exact h1, .inr (.inl ⟨e, by simp, h2⟩)⟩
    · rw [blkOf_anon hk'] at hb
      rw [hblk]
      exact newfo b hb
    · obtain ⟨Q, hQ, hkq, _, _⟩ := H.pbase j pi b o n hj hb
      have hQR : Q = R := by have := hQ.1; rw [← hrj, hr.1] at this; simpa using this.symm
      rw [hQR, hk] at hkq
      simp at hkq
  refine ⟨T1.rel H hr (fun _ => ⟨fun _ => how, hlen, fun b o hb => by rw [whOf_anon hk'] at hb; simp at hb, by rw [blkOf_anon hk']; exact hnd⟩) ?_ ?_, ?_⟩
  · intro _ p n v hn hold
    refine ⟨hold.1, fun Q hQ hvQ hcl hty hs => ?_⟩
    rw [setRoot_same] at hQ
    simp only [Option.some.injEq] at hQ
    subst hQ
    cases p with
    | nil =>
      obtain ⟨_, cs, b, o, h1, _⟩ := hold.2 R hr.1 hv (by simp [clean, ptrTys, memN]) (fun t ht => by simp [pathTys] at ht) rfl
      simp only [navF, Option.some.injEq, Prod.mk.injEq] at h1
      have : whR α R r = none := by simp [whR, hk]
      rw [this] at h1
      simp at h1
    | cons s p =>
      have e1 : R'.h = [GAPT, e] ++ R.h := hh
      rw [e1, clean_append hn] at hcl
      exact absurd (show GAPT ∈ ptrTys (s :: p) R'.k from List.mem_cons_self) (hcl.1 GAPT (by simp))
  · intro _ g v hgl hold Q hQ hgQ
    obtain ⟨rfl, _⟩ := liveR_same hQ
    omega
  · intro Q hQ _
    obtain ⟨rfl, _⟩ := liveR_same hQ
    refine ⟨hk', ?_⟩
    simp only [setAsg, upd_same]
    exact hv'

/-- What was ok, or free, and is not owned now. -/
theorem okNew (H : Rel cx σ α F a w) {w' : World} (hs : w.heap.size ≤ w'.heap.size) {Tg Tg' : List Tag} {fo' : List Nat} {b : Nat} (hb : okT cx σ α F w Tg b ∨ b ∈ F) (ht : ∀ t ∈ Tg, t ∈ Tg') (hfo : b ∉ fo') : okT cx σ α fo' w' Tg' b := by
  rcases hb with hb | hb
  · exact ⟨Nat.lt_of_lt_of_le hb.1 hs, hfo, hb.2.2.1, fun q Q hq hbq => (hb.2.2.2.1 q Q hq hbq).imp fun n hn => ht _ hn, fun h0 => (hb.2.2.2.2 h0).imp (fun ⟨j, n, h1, h2⟩ => ⟨j, n, ht _ h1, h2⟩) id⟩
  · have hm := H.fl b hb
    refine ⟨Nat.lt_of_lt_of_le hm.1 hs, hfo, F_notBase H hb, fun q Q hq hbq => absurd hb (H.fdis q Q hq b hbq), fun h0 => ?_⟩
    rcases hm.2 with h | ⟨j, pi, h1, h2⟩
    · omega
    · exact .inr ⟨j, pi, h1, h2⟩

theorem run_append_builtin {c : Call} (ho : o.op = .call c) (hb : c.callee = .builtin .append) {x y : Operand} (ha : c.args.toList = [x, y]) {t u : TypeId} (ht : c.argTypes[0]? = some t) (hu : c.argTypes[1]? = some u) {v' : Value} {w' : World}
    (h : (Builtin.append_ #[t, u] o.type #[a.eval x, a.eval y]).run P w = .ok v' w') : (execOp a.eval o).run P w = .ok (.value v') w' := by
  obtain ⟨cc, hcc⟩ := run_call_builtin (P := P) (a := a) (w := w) ho hb
  rw [hcc]
  have h1 : c.args.map a.eval = #[a.eval x, a.eval y] := by
    apply Array.ext'
    rw [Array.toList_map, ha]
    rfl
  have h2 : Builtin.append_ c.argTypes o.type #[a.eval x, a.eval y] = Builtin.append_ #[t, u] o.type #[a.eval x, a.eval y] := by
    unfold Builtin.append_
    simp only [ht, hu]
    rfl
  rw [h1]
  simp only [builtin, Sem.run_bind, h2, h, Result.andThen_ok, Sem.run_pure]

end
end Go.Proofs.YtcelknaomealbaaDoor.Ow

/- The framework, part 40: did_append. Own work of this seat. -/
namespace Go.Proofs.YtcelknaomealbaaDoor.Ow
open Go

variable [Fr]

section
variable {P : Program} {T : Tab} {cx : Cx} {σ : St} {α : Asg} {F : List Nat} {a : Act} {w : World} {o : Oper} {d : Nat} {ws : List Wr}

theorem own_less {e : TypeId} {kk : K} {own bad : List TypeId} (hb : memN e bad = false) (he : memN e own = true) : memN e (ownLess own bad) = true ∧ ∀ t ∈ kk.tys, memN t (ownLess own bad) = true → t ∉ bad :=
  ⟨memN_ownLess.2 ⟨he, memN_false.1 hb⟩, fun _ _ h => (memN_ownLess.1 h).2⟩

/-- A new slice out of what is free and what is appended. -/
theorem append_new (hT : TabOk P T) {σ1 : St} {α1 : Asg} {F1 : List Nat} (H1 : Rel cx σ1 α1 F1 a w) (hd : o.dst = some d) (hdn : d < cx.nt) {c : Call} (ho : o.op = .call c) (hcb : c.callee = .builtin .append) {x y : Operand} (ha : c.args.toList = [x, y])
    {t u e : TypeId} {kk : K} (ht0 : c.argTypes[0]? = some t) (hu0 : c.argTypes[1]? = some u) (hty : T.ty t = some (.sl e kk)) (hn1 : σ1.roots (locR d 0) = none)
    {own : List TypeId} {tags T1 T2 : List Tag} {bad : List TypeId} {xs0 xs1 : List (El kk)} {v0 : Value} {fo0 fd : List Nat} {fos : List (List Nat)} {fdt : List Nat} {news : List Value} (hv0 : a.eval x = v0) (hS : Src P w kk.size u (a.eval y) xs1.length news)
    (hown : memN e own = true) (hob : ∀ t, memN t own = true → t ∉ bad) (hwt : tagsW σ1 tags) (ht1 : ∀ t ∈ T1, t ∈ tags) (ht2 : ∀ t ∈ T2, t ∈ tags)
    (hO : Ow (hp w) own (fun b => okT cx σ1 α1 F1 w T1 b ∨ b ∈ fd) (.sl e kk) xs0 [v0] fo0) (hF0 : ∀ b ∈ fo0 ++ fd, b ∈ F1) (hnd0 : (fo0 ++ fd).Nodup) (hF1 : ∀ b ∈ fos.flatten ++ fdt, b ∈ F1 ∧ b ∉ fo0 ++ fd) (hnd1 : (fos.flatten ++ fdt).Nodup)
    (hfl : fos.length = xs1.length) (hel : ∀ i (hi : i < xs1.length), Ow (hp w) own (fun b => ((okT cx σ1 α1 F1 w T2 b ∨ b ∈ F1) ∧ ∃ t ∈ bad, elIs (hp w) b t) ∨ b ∈ fdt) kk xs1[i] (segL news kk.size i) (fos.getD i []))
    (hb : (xs0.length + xs1.length) * T.bytes e ≤ 140737488355328) (kp : Bool) :
    Did P cx o a w (appAll [.r (locR d 0) (some (newRoot (.sl e kk) (xs0 ++ xs1) own tags .anon kp)), .s d (.one (.ref (locR d 0) 0))] σ1) := by
  have ht := hT.ty t _ hty
  have n0 := List.nodup_append.1 hnd0
  have n1 := List.nodup_append.1 hnd1
  have hlt : ∀ b ∈ F1, b < w.heap.size := fun b h => (H1.fl b h).1
  have hty0 := Ow_fo_ty hO
  have hnot : ∀ b, ((okT cx σ1 α1 F1 w T2 b ∨ b ∈ F1) ∧ ∃ t ∈ bad, elIs (hp w) b t) → b ∉ fo0 := by
    rintro b ⟨_, t, h1, h2⟩ hb0
    obtain ⟨e', _, h3, h4⟩ := hty0 b hb0
    have h2 := H1.tyOf (H1.fl b (hF0 b (List.mem_append_left _ hb0))) h2
    rw [h2] at h4
    simp only [Option.some.injEq] at h4
    subst h4
    exact hob _ h3 h1
  let ok : Nat → Prop := fun b => (okT cx σ1 α1 F1 w T1 b ∨ b ∈ fd) ∨ ((okT cx σ1 α1 F1 w T2 b ∨ b ∈ F1) ∧ ∃ t ∈ bad, elIs (hp w) b t) ∨ b ∈ fdt
  obtain ⟨v', w', fo', hrun, hos, hsz, hchg, hfo, hfnd, hO'⟩ := appendMem (w := w) (ok := ok) (u := u) (ty := o.type) (x := a.eval y) (fos := fos) ht (Ow_mono (fun _ _ => rfl) (fun b h => .inl h) (fun _ _ => rfl) hO) hown
    (List.nodup_append.2 ⟨n0.1, n1.1, fun b1 h1 b2 h2 e => (hF1 b2 (List.mem_append_left _ h2)).2 (List.mem_append_left _ (e ▸ h1))⟩)
    (fun b hb => by
      rcases hb with (h | h) | h | h
      · exact ⟨fun h0 => h.2.1 (hF0 b (List.mem_append_left _ h0)), h.1⟩
      · exact ⟨fun h0 => n0.2.2 b h0 b h rfl, hlt b (hF0 b (List.mem_append_right _ h))⟩
      · refine ⟨hnot b h, ?_⟩
        rcases h.1 with h | h
        · exact h.1
        · exact hlt b h
      · exact ⟨fun h0 => (hF1 b (List.mem_append_right _ h)).2 (List.mem_append_left _ h0), hlt b (hF1 b (List.mem_append_right _ h)).1⟩)
    (fun b hb => by
      rcases List.mem_append.1 hb with h | h
      · exact hlt b (hF0 b (List.mem_append_left _ h))
      · exact hlt b (hF1 b (List.mem_append_left _ h)).1)
    hS hfl (fun i hi => Ow_mono (fun _ _ => rfl) (fun b h => .inr h) (fun _ _ => rfl) (hel i hi)) hb
  have hfoF : ∀ b ∈ fo', b ∈ F1 ∨ (w.heap.size ≤ b ∧ b < w'.heap.size) := by
    intro b hb
    rcases hfo b hb with h | h | h
    · exact .inl (hF0 b (List.mem_append_left _ h))
    · exact .inl (hF1 b (List.mem_append_left _ h)).1
    · exact .inr h
  have T2' := memTurn (w' := w') (F' := fo') H1 hos hsz (fun b h1 h2 => hF0 b (List.mem_append_left _ (hchg b h1 h2).1)) hfoF hfnd
  have H2 := H1.mem T2'
  have hVC : VC (.sl e kk) v' [v'] := ⟨rfl, by
    unfold Ow at hO'
    rw [if_pos hown] at hO'
    obtain ⟨b, n, c, e1, _⟩ := hO'
    simp only [List.cons.injEq, and_true] at e1
    rw [e1]; simp⟩
  -- what is ok is not owned now
  have hok : ∀ b, ok b → okT cx σ1 α1 fo' w' tags b := by
    intro b hb
    have hnew : b < w.heap.size → ¬ (w.heap.size ≤ b ∧ b < w'.heap.size) := fun h => by omega
    rcases hb with (h | h) | h | h
    · refine okNew H1 hsz (.inl h) ht1 (fun hb => ?_)
      rcases hfo b hb with h2 | h2 | h2
      · exact h.2.1 (hF0 b (List.mem_append_left _ h2))
      · exact h.2.1 (hF1 b (List.mem_append_left _ h2)).1
      · exact hnew h.1 h2
    · have hF := hF0 b (List.mem_append_right _ h)
      refine okNew H1 hsz (Tg := []) (.inr hF) (by simp) (fun hb => ?_)
      rcases hfo b hb with h2 | h2 | h2
      · exact n0.2.2 b h2 b h rfl
      · exact (hF1 b (List.mem_append_left _ h2)).2 (List.mem_append_right _ h)
      · exact hnew (hlt b hF) h2
    · refine okNew H1 hsz h.1 ht2 (fun hb => ?_)
      have hlt' : b < w.heap.size := by
        rcases h.1 with h | h
        · exact h.1
        · exact hlt b h
      rcases hfo b hb with h2 | h2 | h2
      · exact hnot b h h2
      · obtain ⟨l, hl, hbl⟩ := List.mem_flatten.1 h2
        obtain ⟨i, hi, rfl⟩ := List.mem_iff_getElem.1 hl
        have := Ow_fo_ty (hel i (by omega)) b (by rw [getElem_getD hi]; exact hbl)
        obtain ⟨e', _, h3, h4⟩ := this
        obtain ⟨_, t, h5, h6⟩ := h
        have h6 := H1.tyOf (H1.fl b (hF1 b (List.mem_append_left _ h2)).1) h6
        rw [h6] at h4
        simp only [Option.some.injEq] at h4
        subst h4
        exact hob _ h3 h5
      · exact hnew hlt' h2
    · have hF := (hF1 b (List.mem_append_right _ h)).1
      refine okNew H1 hsz (Tg := []) (.inr hF) (by simp) (fun hb => ?_)
      rcases hfo b hb with h2 | h2 | h2
      · exact (hF1 b (List.mem_append_right _ h)).2 (List.mem_append_left _ h2)
      · exact n1.2.2 b h2 b h rfl
      · exact hnew (hlt b hF) h2
  obtain ⟨α2, k1, k2⟩ := anonHeld (k := .sl e kk) (x := xs0 ++ xs1) (own := own) (tags := tags) (v := v') (cs := [v']) (fo := fo') (r := locR d 0) (F' := []) H2 hn1 (isExt_locR d 0)
    (fun b hb => hb) hfnd hwt (fun b hb => by simp at hb) List.nodup_nil rfl (fun _ => Ow_mono (fun _ _ => rfl) (fun b hb => .inl (hok b hb)) (fun _ _ => rfl) hO') hVC kp
  exact did_put2 (x := .one (.ref (locR d 0) 0)) k1 hd hdn (run_append_builtin ho hcb ha ht0 hu0 (by rw [hv0]; exact hrun)) k2 ⟨_, setRoot_same .., .inr (Nat.zero_le _)⟩

theorem apartW_iff' {ws : List Wr} {tags : List Tag} (h : apartW ws tags = true) : ∀ t ∈ tags, t.1 ∉ ws.flatMap Wr.rid := fun t ht => by
  have := List.all_eq_true.1 h t ht
  simpa [memN_false] using this

theorem notIn_ws {ws : List Wr} {r : Nat} (h : (ws.all fun w => !w.loc.beq (.r r)) = true) : r ∉ ws.flatMap Wr.rid := by
  intro hm
  obtain ⟨wr, h1, h2⟩ := List.mem_flatMap.1 hm
  have := List.all_eq_true.1 h wr h1
  cases wr with
  | s n x => simp [Wr.rid] at h2
  | r n x =>
    simp only [Wr.rid, List.mem_singleton] at h2
    subst h2
    simp [Wr.loc, Loc.beq] at this

theorem did_append (hT : TabOk P T) (H : Rel cx σ α F a w) (hd : o.dst = some d) (hdn : d < cx.nt) {c : Call} (ho : o.op = .call c) (hcb : c.callee = .builtin .append)
    (h : (evalAll c.args.toList fun
      | [a, b] => match c.argTypes[0]?, (c.argTypes[1]?).bind T.ty with
        | some t, some (.sl _ _) => appendP T d t a b fun ws => (.ret ws : Prog (List Wr))
        | some t, some .str => appendP T d t a b fun ws => (.ret ws : Prog (List Wr))
        | _, _ => .fail
      | _ => .fail).ends σ ws) : Did P cx o a w (appAll ws σ) := by
  obtain ⟨vs, h1, h2, h⟩ := evalAll_inv H h
  -- two arguments
  obtain ⟨u, v, x, y, t, ut, hvs, ha, hx, hy, ht0, hu0, hund, h9⟩ : ∃ u v x y t ut, vs = [u, v] ∧ c.args.toList = [x, y] ∧ AVok cx σ α F w u (a.eval x) ∧ AVok cx σ α F w v (a.eval y) ∧ c.argTypes[0]? = some t ∧ c.argTypes[1]? = some ut ∧
      ((∃ e', P.underlying ut = some (.slice e')) ∨ P.underlying ut = some .string) ∧ (appendP T d t u v fun ws => (.ret ws : Prog (List Wr))).ends σ ws := by
    split at h
    · rename_i u v
      have hargs : ∃ x y, c.args.toList = [x, y] ∧ AVok cx σ α F w u (a.eval x) ∧ AVok cx σ α F w v (a.eval y) := by
        revert h1
        generalize c.args.toList = l
        intro h1
        cases l with
        | nil => exact h1.elim
        | cons x l =>
          cases l with
          | nil => exact h1.2.elim
          | cons y l =>
            cases l with
            | nil => exact ⟨x, y, rfl, h1.1, h1.2.1⟩
            | cons _ _ => exact h1.2.2.elim
      obtain ⟨x, y, e1, e2, e3⟩ := hargs
      split at h
      · rename_i t e k e4 e5
        obtain ⟨ut, e6, e7⟩ := ty_arg hT e5
        exact ⟨u, v, x, y, t, ut, rfl, e1, e2, e3, e4, e6, .inl ⟨_, e7.sl.1⟩, h⟩
      · rename_i t e4 e5
        obtain ⟨ut, e6, e7⟩ := ty_arg hT e5
        exact ⟨u, v, x, y, t, ut, rfl, e1, e2, e3, e4, e6, .inr e7.str, h⟩
      · exact h.elim
    · exact h.elim
  clear h
  have h := h9
  clear h9
  subst hvs
  have hwu := h2 u (by simp)
  have hwv := h2 v (by simp)
  unfold appendP at h
  cases hty : T.ty t with
  | none => rw [hty] at h; exact h.elim
  | some k0 =>
    rw [hty] at h
    cases k0 with
    | sl e kk =>
      have ht := hT.ty t _ hty
      simp only at h
      obtain ⟨s, h8, α1, F1, news, H1, hsame, hslots, hnone, hFF, hwt, hS, hels⟩ := srcP_inv (P := P) (u := ut) H hund ht.sl.2.1.noGap hy hwv h
      clear h
      rcases cond_ends h8 with ⟨_, h⟩ | ⟨hbad, h⟩
      · exact h.elim
      clear h8
      cases u with
      | nils =>
        obtain ⟨b0, hv0⟩ := hx
        obtain ⟨hb, h⟩ := h
        obtain ⟨hn, h⟩ := freshR_inv h
        rw [ends_ret h, appAll_append]
        have ho1 : memN e (e :: ownLess kk.tys s.bad) = true := memN_iff.2 (by simp)
        have ho2 : ∀ t, memN t (e :: ownLess kk.tys s.bad) = true → t ∉ s.bad := fun t ht => by
          rcases List.mem_cons.1 (memN_iff.1 ht) with h | h
          · rw [h]; exact memN_false.1 hbad
          · exact (memN_ownLess.1 (memN_iff.2 h)).2
        obtain ⟨fos, fdt, f1, f2, f3, f4⟩ := hels (e :: ownLess kk.tys s.bad) (fun t _ ht => ho2 t ht)
        exact append_new hT H1 hd hdn ho hcb ha ht0 hu0 hty (hnone _ hn) (xs0 := []) (v0 := .slice b0 0 0) (fo0 := []) (fd := []) (T1 := []) (T2 := s.tags) (bad := s.bad) hv0 hS ho1 ho2 hwt (by simp) (fun _ h => h) nil_held (by simp) (by simp)
          (fun b hb => ⟨(f3 b hb).1, by simp⟩) f2 f1 (fun i hi => Ow_mono (fun _ _ => rfl) (fun b hb => hb.imp (fun h => ⟨.inl h.1, h.2⟩) id) (fun _ _ => rfl) (f4 i hi)) (by simpa using hb) s.keep
      | bor r p n =>
        obtain ⟨R, hr, hv, h⟩ := useR_inv h
        rcases cond_ends h with ⟨hc, h⟩ | ⟨_, h⟩
        · simp only [Bool.and_eq_true] at hc
          obtain ⟨⟨⟨⟨⟨⟨⟨c1, c2⟩, c3⟩, c4⟩, c5⟩, c6⟩, c7⟩, c8⟩ := hc
          cases hg : getP p R.k R.x with
          | none => rw [hg] at h; exact h.elim
          | some dd =>
            rw [hg] at h
            simp only at h
            cases hck : castK dd.1 (.sl e kk) dd.2 with
            | none => rw [hck] at h; exact h.elim
            | some xs =>
              rw [hck] at h
              cases hga : gapAt R p dd with
              | none => rw [hga] at h; exact h.elim
              | some R' =>
                rw [hga] at h
                simp only at h
                obtain ⟨hb, h⟩ := h
                obtain ⟨hn, h⟩ := freshR_inv h
                rw [ends_ret h, appAll_append]
                obtain ⟨ek, ey⟩ := castK_some hck
                unfold gapAt at hga
                cases hz : setP p R.k R.x (holeD dd) with
                | none => rw [hz] at hga; simp at hga
                | some z =>
                  rw [hz] at hga
                  simp only [Option.some.injEq] at hga
                  have eR : R' = gapRoot R dd z := by rw [← hga]; rfl
                  have hSr := hsame r (notIn_ws c7)
                  have hr1 := (hSr.live R).2 hr
                  have hv1 : validR (appAll s.ws σ) R := ⟨hv.1, by rw [cleanT_same (fun t ht => (hsame t.1 (apartW_iff' c8 t ht)).root)]; exact hv.2⟩
                  obtain ⟨hpin, hown, cs0, wh0, hn0, hVC0⟩ := hx R hr.1 hv (Nat.eq_of_beq_eq_true c1) dd hg
                  have hpv : p ≠ [] ∨ ∃ t, R.kind = .var t := by
                    rw [Bool.or_eq_true] at c3
                    rcases c3 with h | h
                    · exact .inl (by simpa using h)
                    · refine .inr ?_
                      unfold Root.isVar at h
                      cases hk : R.kind with
                      | var t => exact ⟨t, rfl⟩
                      | _ => rw [hk] at h; simp at h
                  obtain ⟨cs1, wh', fo1, rest, g1, g2, g3, g4, g5, g6⟩ := gap H1 hr1 hv1 hg hz hpin hown hpv
                  rw [hSr.hdr, hSr.wh, hn0] at g1
                  simp only [Option.some.injEq, Prod.mk.injEq] at g1
                  obtain ⟨rfl, rfl⟩ := g1
                  have hcl : cleanT (setRoot (appAll s.ws σ) r (gapRoot R dd z)) (vtysK R.own dd.1) R.tags = true := by
                    rw [g5]
                    exact cleanT_sub hv1.2 (fun _ h => h) (vtysK_place p hg hown)
                  have hO0 := Ow_cast (y := xs) ek ey (g4.ow hcl)
                  -- own
                  have ho1 : memN e (ownLess ((e :: kk.tys).filter fun t => memN t R.own) s.bad) = true := memN_ownLess.2 ⟨memN_iff.2 (List.mem_filter.2 ⟨by simp, c5⟩), memN_false.1 hbad⟩
                  have ho2 : ∀ t, memN t (ownLess ((e :: kk.tys).filter fun t => memN t R.own) s.bad) = true → t ∉ s.bad := fun t ht => (memN_ownLess.1 ht).2
                  obtain ⟨fo0, fd, hp0, hO1⟩ := Ow_less (own' := ownLess ((e :: kk.tys).filter fun t => memN t R.own) s.bad) (fun t _ hm => (List.mem_filter.1 (memN_iff.1 (memN_ownLess.1 hm).1)).2) hO0
                  obtain ⟨fos, fdt, f1, f2, f3, f4⟩ := hels (ownLess ((e :: kk.tys).filter fun t => memN t R.own) s.bad) (fun t _ ht => ho2 t ht)
                  have hfo1F1 : ∀ b ∈ fo1, b ∉ F1 := fun b hb hF => (List.nodup_append.1 g2.fnd).2.2 b hb b hF rfl
                  have hcs : ∃ v0, cs0 = [v0] ∧ a.eval x = v0 := by
                    have hVk : VC (.sl e kk) (a.eval x) cs0 := ek ▸ hVC0
                    exact ⟨_, hVk.1, rfl⟩
                  obtain ⟨v0, ecs, ev0⟩ := hcs
                  subst ecs
                  subst eR
                  have hne : locR d 0 ≠ r := fun e => by have := hr.1; rw [← e, hn] at this; simp at this
                  refine append_new hT g2 hd hdn ho hcb ha ht0 hu0 hty (by rw [setRoot_ne _ _ hne]; exact hnone _ hn) (xs0 := xs) (v0 := v0) (fo0 := fo0) (fd := fd) (T1 := R.tags) (T2 := s.tags) (bad := s.bad) (fos := fos) (fdt := fdt) ev0 hS ho1 ho2
                    (fun t ht => ?_) (fun t ht => mem_mergeT.2 (.inr ht)) (fun t ht => mem_mergeT.2 (.inl ht)) hO1 (fun b hb => List.mem_append_left _ (hp0.mem_iff.2 hb)) (hp0.nodup g4.nd)
                    (fun b hb => ⟨List.mem_append_right _ (f3 b hb).1, fun hb' => hfo1F1 b (hp0.mem_iff.2 hb') (f3 b hb).1⟩) f2 f1 (fun i hi => Ow_mono (fun _ _ => rfl) (fun b hb => ?_) (fun _ _ => rfl) (f4 i hi)) hb _
                  · rcases mem_mergeT.1 ht with h | h
                    · exact g3.tag (hwt t h)
                    · exact g4.wt t h
                  · rcases hb with ⟨hb, hbt⟩ | hb
                    · refine .inl ⟨?_, hbt⟩
                      by_cases hbf : b ∈ fo1
                      · exact .inr (List.mem_append_left _ hbf)
                      · refine .inl ⟨hb.1, fun h => ?_, hb.2.2.1, fun q Q hq hbq => ?_, hb.2.2.2.2⟩
                        · rcases List.mem_append.1 h with h | h
                          · exact hbf h
                          · exact hb.2.1 h
                        · rcases liveR_set hq with ⟨rfl, rfl, _⟩ | ⟨eq, hq'⟩
                          · refine hb.2.2.2.1 q R hr1 ?_
                            rw [blk_setAsg, blkOf_kind (show (gapRoot R dd z).kind = R.kind from rfl)] at hbq
                            rw [blk_blkOf]
                            rw [mem_blkOf] at hbq ⊢
                            exact hbq.imp id (fun h => g6.mem_iff.2 (List.mem_append_right _ h))
                          · rw [(Same_ne (α := α1) (σ := appAll s.ws σ) (R := gapRoot R dd z) eq).blk] at hbq
                            exact hb.2.2.2.1 q Q hq' hbq
                    · exact .inr hb
        · exact h.elim
      | ref r g =>
        obtain ⟨R, hr, hv, h⟩ := useR_inv h
        rcases cond_ends h with ⟨hc, h⟩ | ⟨_, h⟩
        · simp only [Bool.and_eq_true] at hc
          obtain ⟨⟨⟨⟨⟨c1, c4⟩, c5⟩, c6⟩, c7⟩, c8⟩ := hc
          cases hck : castK R.k (.sl e kk) R.x with
          | none => rw [hck] at h; exact h.elim
          | some xs =>
            rw [hck] at h
            simp only at h
            obtain ⟨hb, h⟩ := h
            rw [ends_ret h, appAll_append]
            obtain ⟨ek, ey⟩ := castK_some hck
            have hSr := hsame r (notIn_ws c7)
            have hr1 := (hSr.live R).2 hr
            have hv1 : validR (appAll s.ws σ) R := ⟨hv.1, by rw [cleanT_same (fun t ht => (hsame t.1 (apartW_iff' c8 t ht)).root)]; exact hv.2⟩
            obtain ⟨hkind, hVC0⟩ := hx R hr (Nat.eq_of_beq_eq_true c1)
            have K1 := H1.roots r R hr1
            have hnt1 := H1.wroots r R hr1.1
            have hfr : blk α1 R r = α1.fo r := by simp [blk, whR, hkind]
            have hfoF : ∀ b ∈ α1.fo r, b ∉ F1 := fun b hb => H1.fdis r R hr1 b (by rw [hfr]; exact hb)
            have hVk : VC (.sl e kk) (a.eval x) (α1.hdr r) := by rw [hSr.hdr]; exact ek ▸ hVC0
            have hO0 : Ow (hp w) R.own (okT cx (appAll s.ws σ) α1 F1 w R.tags) (.sl e kk) xs [a.eval x] (α1.fo r) := by
              have := Ow_cast (y := xs) ek ey (K1.ow hv1)
              rw [hVk.1] at this
              exact this
            have ho1 : memN e (ownLess R.own s.bad) = true := memN_ownLess.2 ⟨c5, memN_false.1 hbad⟩
            have ho2 : ∀ t, memN t (ownLess R.own s.bad) = true → t ∉ s.bad := fun t ht => (memN_ownLess.1 ht).2
            have hnd : (α1.fo r).Nodup := by rw [← hfr]; exact K1.nd
            obtain ⟨fo0, fd, hp0, hO1⟩ := Ow_less (own' := ownLess R.own s.bad) (fun t _ hm => (memN_ownLess.1 hm).1) hO0
            obtain ⟨fos, fdt, f1, f2, f3, f4⟩ := hels (ownLess R.own s.bad) (fun t _ ht => ho2 t ht)
            have hfo0 : ∀ b ∈ fo0, b ∈ α1.fo r := fun b hb => hp0.mem_iff.2 (List.mem_append_left _ hb)
            have hfd0 : ∀ b ∈ fd, b ∈ α1.fo r := fun b hb => hp0.mem_iff.2 (List.mem_append_right _ hb)
            have n0 := List.nodup_append.1 (hp0.nodup hnd)
            have n1 := List.nodup_append.1 f2
            have hlt : ∀ b ∈ α1.fo r, b < w.heap.size := fun b hb => (K1.mine b (by rw [hfr]; exact hb)).1
            have hltF : ∀ b ∈ F1, b < w.heap.size := fun b hb => (H1.fl b hb).1
            have hty0 := Ow_fo_ty hO1
            have hnot : ∀ b, (∃ t ∈ s.bad, elIs (hp w) b t) → b ∉ fo0 := by
              rintro b ⟨t, h1, h2⟩ hb0
              obtain ⟨e', _, h3, h4⟩ := hty0 b hb0
              have h2 := H1.tyOf (K1.mine b (by rw [hfr]; exact hfo0 b hb0)) h2
              rw [h2] at h4
              simp only [Option.some.injEq] at h4
              subst h4
              exact ho2 _ h3 h1
            let ok : Nat → Prop := fun b => (okT cx (appAll s.ws σ) α1 F1 w R.tags b ∨ b ∈ fd) ∨ (okT cx (appAll s.ws σ) α1 F1 w s.tags b ∧ ∃ t ∈ s.bad, elIs (hp w) b t) ∨ b ∈ fdt
            have hRr : ∀ b, okT cx (appAll s.ws σ) α1 F1 w R.tags b → b ∉ α1.fo r := by
              intro b hb hbr
              obtain ⟨n, hn⟩ := hb.2.2.2.1 r R hr1 (by rw [hfr]; exact hbr)
              exact hnt1.2.2 n hn
            obtain ⟨v', w', fo', hrun, hos, hsz, hchg, hfo, hfnd, hO'⟩ := appendMem (w := w) (ok := ok) (u := ut) (ty := o.type) (x := a.eval y) (fos := fos) ht (Ow_mono (fun _ _ => rfl) (fun b h => .inl h) (fun _ _ => rfl) hO1) ho1
              (List.nodup_append.2 ⟨n0.1, n1.1, fun b1 h1 b2 h2 e => hfoF b1 (hfo0 b1 h1) (e ▸ (f3 b2 (List.mem_append_left _ h2)).1)⟩)
              (fun b hb => by
                rcases hb with (h | h) | h | h
                · exact ⟨fun h0 => hRr b h (hfo0 b h0), h.1⟩
                · exact ⟨fun h0 => n0.2.2 b h0 b h rfl, hlt b (hfd0 b h)⟩
                · exact ⟨hnot b h.2, h.1.1⟩
                · exact ⟨fun h0 => hfoF b (hfo0 b h0) (f3 b (List.mem_append_right _ h)).1, hltF b (f3 b (List.mem_append_right _ h)).1⟩)
              (fun b hb => by
                rcases List.mem_append.1 hb with h | h
                · exact hlt b (hfo0 b h)
                · exact hltF b (f3 b (List.mem_append_left _ h)).1)
              hS f1 (fun i hi => Ow_mono (fun _ _ => rfl) (fun b h => .inr h) (fun _ _ => rfl) (f4 i hi)) hb
            have hVC : VC (.sl e kk) v' [v'] := ⟨rfl, by
              have h5 := hO'
              unfold Ow at h5
              rw [if_pos ho1] at h5
              obtain ⟨b, n, c, e1, _⟩ := h5
              simp only [List.cons.injEq, and_true] at e1
              rw [e1]; simp⟩
            have hnofo : ∀ b, ok b → b ∉ fo' ∧ b < w.heap.size := by
              intro b hb
              have hlt' : b < w.heap.size := by
                rcases hb with (h | h) | h | h
                · exact h.1
                · exact hlt b (hfd0 b h)
                · exact h.1.1
                · exact hltF b (f3 b (List.mem_append_right _ h)).1
              refine ⟨fun hbf => ?_, hlt'⟩
              rcases hfo b hbf with h2 | h2 | h2
              · rcases hb with (h | h) | h | h
                · exact hRr b h (hfo0 b h2)
                · exact n0.2.2 b h2 b h rfl
                · exact hnot b h.2 h2
                · exact hfoF b (hfo0 b h2) (f3 b (List.mem_append_right _ h)).1
              · have hF := (f3 b (List.mem_append_left _ h2)).1
                rcases hb with (h | h) | h | h
                · exact h.2.1 hF
                · exact hfoF b (hfd0 b h) hF
                · exact h.1.2.1 hF
                · exact n1.2.2 b h2 b h rfl
              · omega
            have hnext : ∀ (j : Nat) (n : Nat), (extR j, n) ∈ s.tags → (extR j, n) ∈ mergeT (dropT r s.tags) R.tags := by
              intro j n hj
              refine mem_mergeT.2 (.inl (mem_dropT.2 ⟨hj, fun e => ?_⟩))
              have := hnt1.2.1
              rw [← e] at this
              simp only at this
              rw [isExt_extR] at this
              simp at this
            obtain ⟨k1, k2⟩ := regen (R' := { R with k := .sl e kk, x := xs ++ s.xs, own := ownLess R.own s.bad, tags := mergeT (dropT r s.tags) R.tags, w := e :: R.w, h := GAPT :: e :: R.h, g := R.g + 1, keep := R.keep || s.keep })
              (v' := v') (hdr' := [v']) (fo' := fo') (w' := w') H1 hr1 hv1 hkind hkind rfl rfl rfl ⟨rfl, rfl⟩ ⟨fun t ht => (mem_mergeT.1 ht).elim (fun h => hwt t (mem_dropT.1 h).1) (hnt1.1 t), fun n hn => (mem_mergeT.1 hn).elim (fun h => (mem_dropT.1 h).2 rfl) (hnt1.2.2 n)⟩
              hos hsz (fun b h1 h2 => .inr ⟨hfo0 b (hchg b h1 h2).1, (hchg b h1 h2).2⟩) (fun b hb => by
                rcases hfo b hb with h | h | h
                · exact .inl (hfo0 b h)
                · exact .inr (.inl (f3 b (List.mem_append_left _ h)).1)
                · exact .inr (.inr h)) hfnd rfl
              (Ow_mono (k := .sl e kk) (fun _ _ => rfl) (fun b hb => by
                obtain ⟨z1, z2⟩ := hnofo b hb
                refine ⟨Nat.lt_of_lt_of_le z2 hsz, by simp, ?_, fun q Q hq hbq => ?_, fun h0 => ?_⟩
                · rcases hb with (h | h) | h | h
                  · exact h.2.2.1
                  · exact fo_notBase H1 hr1 (hfd0 b h)
                  · exact h.1.2.2.1
                  · exact F_notBase H1 (f3 b (List.mem_append_right _ h)).1
                · rcases liveR_set hq with ⟨rfl, rfl, _⟩ | ⟨eq, hq'⟩
                  · rw [blk_setAsg] at hbq
                    have hbq : b ∈ fo' := by simpa [blkOf, hkind] using hbq
                    exact absurd hbq z1
                  · rw [(Same_ne (α := α1) (σ := appAll s.ws σ) (R := { R with k := .sl e kk, x := xs ++ s.xs, own := ownLess R.own s.bad, tags := mergeT (dropT r s.tags) R.tags, w := e :: R.w, h := GAPT :: e :: R.h, g := R.g + 1, keep := R.keep || s.keep }) eq).blk] at hbq
                    rcases hb with (h | h) | h | h
                    · exact (h.2.2.2.1 q Q hq' hbq).imp fun n hn => mem_mergeT.2 (.inr hn)
                    · exact absurd hbq (H1.dis r R q Q hr1 hq' (Ne.symm eq) b (by rw [hfr]; exact hfd0 b h))
                    · exact (h.1.2.2.2.1 q Q hq' hbq).imp fun n hn => mem_mergeT.2 (.inl (mem_dropT.2 ⟨hn, eq⟩))
                    · exact absurd (f3 b (List.mem_append_right _ h)).1 (H1.fdis q Q hq' b hbq)
                · have hmine : Ow.mine cx w b → (∃ j n, (extR j, n) ∈ mergeT (dropT r s.tags) R.tags ∧ cx.ext j b) ∨ ∃ j pi, cx.par j = some pi ∧ b ∈ pi.bl := fun hm => by
                    rcases hm.2 with h | ⟨j, pi, h1, h2⟩
                    · omega
                    · exact .inr ⟨j, pi, h1, h2⟩
                  rcases hb with (h | h) | h | h
                  · exact (h.2.2.2.2 h0).imp (fun ⟨j, n, h1, h2⟩ => ⟨j, n, mem_mergeT.2 (.inr h1), h2⟩) id
                  · exact hmine (K1.mine b (by rw [hfr]; exact hfd0 b h))
                  · exact (h.1.2.2.2.2 h0).imp (fun ⟨j, n, h1, h2⟩ => ⟨j, n, hnext j n h1, h2⟩) id
                  · exact hmine (H1.fl b (f3 b (List.mem_append_right _ h)).1)) (fun _ _ => rfl) hO') hVC
            exact did_put2 (x := .one (.ref r (R.g + 1))) k1 hd hdn (run_append_builtin ho hcb ha ht0 hu0 hrun) k2 ⟨_, setRoot_same .., .inr (Nat.le_refl _)⟩
        · exact h.elim
      | val _ _ _ => exact h.elim
      | undef => exact h.elim
      | ptr _ _ _ => exact h.elim
      | rptr _ _ _ _ => exact h.elim
      | cpy _ _ _ _ => exact h.elim
      | nilq _ => exact h.elim
      | nilp => exact h.elim
      | fn _ _ => exact h.elim
    | _ => exact h.elim

end
end Go.Proofs.YtcelknaomealbaaDoor.Ow

/- The framework, part 41: a slice is built. Own work of this seat. -/
namespace Go.Proofs.YtcelknaomealbaaDoor.Ow
open Go

variable [Fr]

section
variable {P : Program} {T : Tab} {cx : Cx} {σ : St} {α : Asg} {F : List Nat} {a : Act} {w : World} {o : Oper} {d : Nat} {ws : List Wr}

/-- What elemsP does, the parts being taken. -/
def elemsFold (kk : K) : List (Nat × Took) → Elems kk → Option (Elems kk)
  | [], b => some b
  | (n, tk) :: l, b => match castK tk.k kk tk.x with
    | some y => bif Nat.beq n (lenN b.xs) then elemsFold kk l { xs := b.xs ++ [y], bad := tk.bad ++ b.bad, tags := mergeT (tk.tags0) b.tags, ws := b.ws ++ tk.ws, keep := tk.keep || b.keep, all := tk.tags ++ b.all } else none
    | none => none

theorem elemsP_inv {A : Type} {z : A} (H : Rel cx σ α F a w) {kk : K} {k : Elems kk → Prog A} : ∀ {l : List (Nat × AV)} {vs : List Value} {b : Elems kk}, listOk cx σ α F w (l.map (·.2)) vs → (∀ v ∈ l, avW σ v.2) → (elemsP kk l b k).ends σ z →
    ∃ (tks : List Took) (b' : Elems kk), tks.length = l.length ∧ vs.length = l.length ∧ (∀ it ∈ vs.zip tks, TakeI cx σ α F w it.1 it.2) ∧ elemsFold kk ((l.map (·.1)).zip tks) b = some b' ∧ (k b').ends σ z := by
  intro l
  induction l with
  | nil =>
    intro vs b h1 _ h
    cases vs with
    | nil => exact ⟨[], b, rfl, rfl, by simp, rfl, h⟩
    | cons v vs => exact h1.elim
  | cons p l ih =>
    obtain ⟨n, x⟩ := p
    intro vs b h1 h2 h
    cases vs with
    | nil => exact h1.elim
    | cons v vs =>
      simp only [elemsP] at h
      obtain ⟨tk, htk, h5⟩ := takeV_inv H h1.1 (h2 (n, x) (by simp)) h
      cases hc : castK tk.k kk tk.x with
      | none => rw [hc] at h5; exact h5.elim
      | some y =>
        rw [hc] at h5
        simp only at h5
        rcases cond_ends h5 with ⟨hn, h6⟩ | ⟨_, h6⟩
        · obtain ⟨tks, b', g1, g2, g3, g4, g5⟩ := ih h1.2 (fun v hv => h2 v (by simp [hv])) h6
          refine ⟨tk :: tks, b', by simp [g1], by simp [g2], ?_, ?_, g5⟩
          · intro it hit
            rw [List.zip_cons_cons] at hit
            rcases List.mem_cons.1 hit with h | h
            · subst h; exact htk
            · exact g3 it h
          · rw [List.map_cons, List.zip_cons_cons]
            unfold elemsFold
            simp only [hc, hn, cond_true]
            exact g4
        · exact h6.elim

theorem elemsFold_facts {kk : K} : ∀ (l : List (Nat × Took)) {b b' : Elems kk}, elemsFold kk l b = some b' →
    b'.ws = b.ws ++ l.flatMap (fun p => p.2.ws) ∧ (∀ p ∈ l, ∀ t ∈ p.2.tags, t ∈ b'.all) ∧ (∀ p ∈ l, ∀ t ∈ p.2.bad, t ∈ b'.bad) ∧ (∀ t ∈ b.bad, t ∈ b'.bad) ∧
    (∀ p ∈ l, ∀ t ∈ p.2.tags0, t ∈ b'.tags) ∧ (∀ t ∈ b.tags, t ∈ b'.tags) ∧ (∀ t ∈ b'.tags, t ∈ b.tags ∨ ∃ p ∈ l, t ∈ p.2.tags0) ∧ (∀ t ∈ b.all, t ∈ b'.all) ∧ b'.xs.length = b.xs.length + l.length := by
  intro l
  induction l with
  | nil =>
    intro b b' h
    simp only [elemsFold, Option.some.injEq] at h
    subst h
    simp
  | cons p l ih =>
    obtain ⟨n, tk⟩ := p
    intro b b' h
    unfold elemsFold at h
    cases hc : castK tk.k kk tk.x with
    | none => rw [hc] at h; simp at h
    | some y =>
      rw [hc] at h
      simp only at h
      cases hn : Nat.beq n (lenN b.xs) with
      | false => rw [hn] at h; simp at h
      | true =>
        rw [hn] at h
        simp only [cond_true] at h
        obtain ⟨g1, g2, g3, g4, g5, g6, g7, g8, g9⟩ := ih h
        refine ⟨by rw [g1]; simp, ?_, ?_, fun t ht => g4 t (by simp [ht]), ?_, fun t ht => g6 t (mem_mergeT.2 (.inr ht)), ?_, fun t ht => g8 t (by simp [ht]), by rw [g9]; simp; omega⟩
        · intro p hp t ht
          rcases List.mem_cons.1 hp with h | h
          · subst h; exact g8 t (by simp [ht])
          · exact g2 p h t ht
        · intro p hp t ht
          rcases List.mem_cons.1 hp with h | h
          · subst h; exact g4 t (by simp [ht])
          · exact g3 p h t ht
        · intro p hp t ht
          rcases List.mem_cons.1 hp with h | h
          · subst h; exact g6 t (mem_mergeT.2 (.inl ht))
          · exact g5 p h t ht
        · intro t ht
          rcases g7 t ht with h | ⟨p, h1, h2⟩
          · rcases mem_mergeT.1 h with h | h
            · exact .inr ⟨(n, tk), by simp, h⟩
            · exact .inl h
          · exact .inr ⟨p, by simp [h1], h2⟩

/-- The cells of what is built: elements in a row. -/
theorem elemsCells {h : Heap} {own : List TypeId} {ok : Nat → Prop} {kk : K} {N : Nat} :
    ∀ (l : List (Nat × Took)) {vs : List Value} {fts : List (List Nat)} {b b' : Elems kk} {cells : Array Value} {fos : List (List Nat)}, b.xs.length + l.length ≤ N → cells.size = N * kk.size → fos.length = b.xs.length →
      (∀ i (hi : i < b.xs.length), Ow h own ok kk b.xs[i] (segL cells.toList kk.size i) (fos.getD i [])) → PartsOk h own ok l vs fts → elemsFold kk l b = some b' →
      ∃ cells', Instr.fill (fun i => some (i * kk.size, kk.size)) cells ((l.map (·.1)).zip vs) = some cells' ∧ cells'.size = N * kk.size ∧ (fos ++ fts).length = b'.xs.length ∧
        ∀ i (hi : i < b'.xs.length), Ow h own ok kk b'.xs[i] (segL cells'.toList kk.size i) ((fos ++ fts).getD i []) := by
  intro l
  induction l with
  | nil =>
    intro vs fts b b' cells fos hN hs hf hO hP hb
    cases vs with
    | nil =>
      cases fts with
      | nil =>
        simp only [elemsFold, Option.some.injEq] at hb
        subst hb
        exact ⟨cells, rfl, hs, by simpa using hf, by simpa using hO⟩
      | cons f fs => exact hP.elim
    | cons v vs => cases fts <;> exact hP.elim
  | cons p l ih =>
    obtain ⟨n, tk⟩ := p
    intro vs fts b b' cells fos hN hs hf hO hP hb
    cases vs with
    | nil => cases fts <;> exact hP.elim
    | cons v vs =>
      cases fts with
      | nil => exact hP.elim
      | cons ft fts =>
        obtain ⟨⟨cst, hv, hOt⟩, hP'⟩ := hP
        unfold elemsFold at hb
        cases hc : castK tk.k kk tk.x with
        | none => rw [hc] at hb; simp at hb
        | some y =>
          rw [hc] at hb
          simp only at hb
          cases hn : Nat.beq n (lenN b.xs) with
          | false => rw [hn] at hb; simp at hb
          | true =>
            rw [hn] at hb
            simp only [cond_true] at hb
            have en : n = b.xs.length := by rw [Nat.eq_of_beq_eq_true hn, lenN_eq]
            subst en
            obtain ⟨ek, ey⟩ := castK_some hc
            have hOy : Ow h own ok kk y cst ft := Ow_cast ek ey hOt
            have hcl : cst.length = kk.size := Ow_len hOy
            have hvc : v.cells = cst.toArray := by
              have := hv.cells
              apply Array.ext'
              simpa using this
            simp only [List.length_cons] at hN
            have hle : (b.xs.length + 1) * kk.size ≤ N * kk.size := Nat.mul_le_mul_right _ (by omega)
            rw [Nat.add_mul, Nat.one_mul] at hle
            have hoff : b.xs.length * kk.size + cst.length ≤ cells.size := by rw [hs, hcl]; exact hle
            rw [List.map_cons, List.zip_cons_cons, fill_step (place := fun i => some (i * kk.size, kk.size)) (off := b.xs.length * kk.size) (vs := cst) (by simp [hcl]) hvc hoff]
            have hsz : (cells.toList.take (b.xs.length * kk.size) ++ (cst ++ cells.toList.drop (b.xs.length * kk.size + cst.length))).toArray.size = N * kk.size := by
              simp
              omega
            obtain ⟨cells', g1, g2, g3, g4⟩ := ih (fos := fos ++ [ft]) (b := { xs := b.xs ++ [y], bad := tk.bad ++ b.bad, tags := mergeT (tk.tags0) b.tags, ws := b.ws ++ tk.ws, keep := tk.keep || b.keep, all := tk.tags ++ b.all }) (by simp; omega) hsz (by simp [hf]) (by
              intro i hi
              simp only [List.length_append, List.length_cons, List.length_nil, Nat.zero_add] at hi
              rw [fos_app]
              by_cases h0 : i < b.xs.length
              · rw [if_pos (by rw [hf]; exact h0)]
                have e1 : (b.xs ++ [y])[i]'(by simp; omega) = b.xs[i] := List.getElem_append_left h0
                show Ow h own ok kk ((b.xs ++ [y])[i]'(by simp; omega)) _ _
                rw [e1]
                have e2 : segL (cells.toList.take (b.xs.length * kk.size) ++ (cst ++ cells.toList.drop (b.xs.length * kk.size + cst.length))) kk.size i = segL cells.toList kk.size i := by
                  have hl2 : (i + 1) * kk.size ≤ b.xs.length * kk.size := Nat.mul_le_mul_right _ (by omega)
                  rw [Nat.add_mul, Nat.one_mul] at hl2
                  apply List.ext_getElem?
                  intro j
                  by_cases hj : j < kk.size
                  · rw [segL_get hj, segL_get hj, List.getElem?_append_left (by simp; omega), List.getElem?_take_of_lt (by omega)]
                  · unfold segL
                    rw [List.getElem?_eq_none (by simp; omega), List.getElem?_eq_none (by simp; omega)]
                simp only
                rw [e2]
                exact hO i h0
              · have : i = b.xs.length := by omega
                subst this
                rw [if_neg (by omega), hf, Nat.sub_self]
                have e1 : (b.xs ++ [y])[b.xs.length]'(by simp) = y := by simp
                show Ow h own ok kk ((b.xs ++ [y])[b.xs.length]'(by simp)) _ _
                rw [e1]
                have e2 : segL (cells.toList.take (b.xs.length * kk.size) ++ (cst ++ cells.toList.drop (b.xs.length * kk.size + cst.length))) kk.size b.xs.length = cst := by
                  have hl : (cells.toList.take (b.xs.length * kk.size)).length = b.xs.length * kk.size := by simp; omega
                  unfold segL
                  conv => lhs; arg 2; arg 1; rw [← hl]
                  rw [List.drop_left, ← hcl, List.take_left]
                simp only
                rw [e2]
                exact hOy) hP' hb
            refine ⟨cells', g1, g2, ?_, ?_⟩
            · rw [← g3]; simp
            · intro i hi
              have := g4 i hi
              simp only [List.append_assoc, List.cons_append, List.nil_append] at this
              exact this

end
end Go.Proofs.YtcelknaomealbaaDoor.Ow

/- The framework, part 42: a slice is built, the operation. Own work of this seat. -/
namespace Go.Proofs.YtcelknaomealbaaDoor.Ow
open Go

variable [Fr]

section
variable {P : Program} {T : Tab} {cx : Cx} {σ : St} {α : Asg} {F : List Nat} {a : Act} {w : World} {o : Oper} {d : Nat} {ws : List Wr}

def zrow (z : Array Value) (n : Nat) : Array Value := (Array.range n).map (z[· % z.size]!)

theorem run_buildSlice {t e : TypeId} {kk : K} (ht : TyOk P T t (.sl e kk)) {len : Nat} {parts : Array (Nat × Value)} {cells : Array Value} (hb : len * kk.size ≤ 16777216)
    (hf : Instr.fill (fun i => some (i * kk.size, kk.size)) (zrow (zcells kk).toArray (len * kk.size)) parts.toList = some cells) :
    (Instr.buildSlice t len parts).run P w = .ok (.slice (some ⟨w.heap.size, 0, none⟩) len len) (w.alloc (.cells cells e)) := by
  obtain ⟨hu, he, hk, _⟩ := ht.sl
  have hzc := zval_cells he.shape
  unfold Instr.buildSlice
  have h1 : ¬ (len * kk.size > 2 ^ 24) := by omega
  by_cases h0 : len * kk.size = 0
  · have hf' : Instr.fill (fun i => some (i * kk.size, kk.size)) #[] parts.toList = some cells := by
      have e : zrow (zcells kk).toArray (len * kk.size) = #[] := by
        apply Array.eq_empty_of_size_eq_zero
        simp [zrow, h0]
      rw [e] at hf
      exact hf
    have hr0 : ∀ f : Nat → Value, Array.map f (Array.range 0) = #[] := fun f => by apply Array.eq_empty_of_size_eq_zero; simp
    simp [run_underlying hu, he.info.sizeOf w, Result.andThen, h0, hr0, hf', newRow]
  · have hf' : Instr.fill (fun i => some (i * kk.size, kk.size)) ((Array.range (len * kk.size)).map fun x => (zcells kk).toArray[x % (zcells kk).toArray.size]!) parts.toList = some cells := hf
    simp only [Sem.run_bind, run_underlying hu, Result.andThen_ok, he.info.sizeOf w]
    rw [if_neg h1, if_neg h0]
    simp only [Sem.run_bind, Sem.run_pure, Result.andThen_ok, he.info.zero w, hzc, hf']
    simp [newRow, Result.andThen]

theorem zrow_seg {kk : K} {len i : Nat} (hk : 0 < kk.size) (hz : (zcells kk).length = kk.size) (hi : i < len) : segL (zrow (zcells kk).toArray (len * kk.size)).toList kk.size i = zcells kk := by
  have hle : (i + 1) * kk.size ≤ len * kk.size := Nat.mul_le_mul_right _ (by omega)
  rw [Nat.add_mul, Nat.one_mul] at hle
  apply List.ext_getElem?
  intro j
  by_cases hj : j < kk.size
  · rw [segL_get hj, Array.getElem?_toList]
    unfold zrow
    rw [Array.getElem?_map]
    have hlt : i * kk.size + j < len * kk.size := by omega
    rw [Array.getElem?_range, if_pos hlt]
    simp only [Option.map_some, List.size_toArray, hz]
    have hm : (i * kk.size + j) % kk.size = j := by
      rw [Nat.mul_comm, Nat.mul_add_mod]
      exact Nat.mod_eq_of_lt hj
    rw [hm, getElem!_pos _ _ (by simp; omega)]
    simp [show j < (zcells kk).length by omega]
  · rw [List.getElem?_eq_none (by rw [segL_len (m := len) (by simp [zrow]) hi]; omega), List.getElem?_eq_none (by omega)]

theorem did_buildSlice {L : K → List TypeId} (hT : TabOk P T) (H : Rel cx σ α F a w) (hd : o.dst = some d) (hdn : d < cx.nt) {t : TypeId} {len : Nat} {ps : Array (Nat × Operand)}
    (h : (match T.ty t with
      | some (.sl e kk) => evalL ps.toList fun l => elemsP kk l ⟨[], [], [], [], false, []⟩ fun b => bif !(wsOk b.ws b.all && Nat.ble (len * kk.size) 16777216) then .fail else bif Nat.beq (lenN b.xs) len && !memN e b.bad then
          freshR (locR d 0) (.ret (b.ws ++ [Wr.r (locR d 0) (some (newRoot (.sl e kk) b.xs (e :: ownLess (L kk) b.bad) b.tags .anon b.keep)), Wr.s d (.one (.ref (locR d 0) 0))]))
        else bif Nat.beq (lenN b.xs) 0 then
          freshR (locR d 0) (.ret [Wr.r (locR d 0) (some (newRoot (.sl e kk) (List.replicate len kk.zero) (e :: kk.tys) [] .anon)), Wr.s d (.one (.ref (locR d 0) 0))])
        else .fail
      | _ => (.fail : Prog (List Wr))).ends σ ws) (ho : o.op = .buildSlice t len ps) : Did P cx o a w (appAll ws σ) := by
  cases hty : T.ty t with
  | none => rw [hty] at h; exact h.elim
  | some k0 =>
    rw [hty] at h
    cases k0 with
    | sl e kk =>
      have ht := hT.ty t _ hty
      obtain ⟨hu, he, hk, _⟩ := ht.sl
      simp only at h
      obtain ⟨vs, e1, h1, h2, h3⟩ := evalL_inv H h
      obtain ⟨tks, b', l1, l2, hTk, hfold, h4⟩ := elemsP_inv H h1 h2 h3
      have hlen : vs.length = tks.length := l1.symm
      have hnames : (vs.map (·.1)).length = tks.length := by rw [List.length_map]; exact hlen
      have hvals : ((evs a ps.toList).map (·.2)).length = tks.length := by rw [l2]; exact hlen
      generalize hns : vs.map (·.1) = ns at *
      generalize hvv : (evs a ps.toList).map (·.2) = vals at *
      obtain ⟨z1, z2, z3, z4⟩ := zip_items ns vals tks hnames hvals
      obtain ⟨f1, f2, f4, _, f6, _, f8, _, f9⟩ := elemsFold_facts _ hfold
      simp only [List.nil_append] at f1
      have f9' : b'.xs.length = tks.length := by rw [f9]; simp; omega
      have hzO : ∀ h ok own, Ow h own ok kk kk.zero (zcells kk) [] := fun h ok own => zero_any he.noGap
      have hzl : (zcells kk).length = kk.size := Ow_len (hzO (hp w) (fun _ => True) [])
      have hzs : (zrow (zcells kk).toArray (len * kk.size)).size = len * kk.size := by simp [zrow]
      have hparts : ((ps.map fun (p : Nat × Operand) => (p.1, a.eval p.2)).toList) = ns.zip vals := by
        rw [Array.toList_map, ← hvv, e1]
        have : ∀ l : List (Nat × Operand), l.map (fun p => (p.1, a.eval p.2)) = (l.map (·.1)).zip ((evs a l).map (·.2)) := by
          intro l
          induction l with
          | nil => rfl
          | cons p l ih => simp [evs] at ih ⊢; exact ih
        exact this _
      have hexec : ∀ {cells : Array Value}, len * kk.size ≤ 16777216 → Instr.fill (fun i => some (i * kk.size, kk.size)) (zrow (zcells kk).toArray (len * kk.size)) (ns.zip vals) = some cells →
          (execOp a.eval o).run P w = .ok (.value (.slice (some ⟨w.heap.size, 0, none⟩) len len)) (w.alloc (.cells cells e)) := by
        intro cells hb hf
        have := run_buildSlice (w := w) ht (parts := ps.map fun (p : Nat × Operand) => (p.1, a.eval p.2)) hb (by rw [hparts]; exact hf)
        simp only [execOp, ho, Sem.run_bind, this, Result.andThen_ok, Sem.run_pure]
      rcases cond_ends h4 with ⟨_, h5⟩ | ⟨hws, h5⟩
      · exact h5.elim
      · have hws' : (wsOk b'.ws b'.all && Nat.ble (len * kk.size) 16777216) = true := by simpa using hws
        rw [Bool.and_eq_true] at hws'
        have hb24 : len * kk.size ≤ 16777216 := Nat.le_of_ble_eq_true hws'.2
        have hws2 := hws'.1
        unfold wsOk at hws2
        simp only [Bool.and_eq_true] at hws2
        have hw1 := apartN_iff.1 hws2.1
        have hw2 := apartW_iff.1 hws2.2
        rw [f1, ← z4] at hw1 hw2
        rcases cond_ends h5 with ⟨hc, h6⟩ | ⟨_, h6⟩
        · rw [Bool.and_eq_true] at hc
          have hxl : b'.xs.length = len := by rw [← lenN_eq]; exact Nat.eq_of_beq_eq_true hc.1
          have hbad : e ∉ b'.bad := by have := hc.2; simp only [Bool.not_eq_true', memN_false] at this; exact this
          obtain ⟨g1, g2⟩ := freshR_inv h6
          rw [ends_ret g2]
          obtain ⟨α', F', hs, H', hA, hnd, hnF, hFF, hS, _⟩ := takes (vals.zip tks) H hTk hw1 (fun tg htg => hw2 tg (by
            obtain ⟨it, hit, h6⟩ := List.mem_flatMap.1 htg
            have : it ∈ (ns.zip (vals.zip tks)).map (·.2) := by rw [z1]; exact hit
            obtain ⟨q, hq, rfl⟩ := List.mem_map.1 this
            exact f2 (q.1, q.2.2) (by rw [← z2]; exact List.mem_map.2 ⟨q, hq, rfl⟩) tg h6))
          have hA0 := hA
          rw [← z1] at hA
          have ho2 : ∀ t, memN t (e :: ownLess (L kk) b'.bad) = true → t ∉ b'.bad := fun t ht => by
            rcases List.mem_cons.1 (memN_iff.1 ht) with h | h
            · rw [h]; exact hbad
            · exact (memN_ownLess.1 (memN_iff.2 h)).2
          obtain ⟨fts, fdts, p1, p2⟩ := parts_of_held (own' := e :: ownLess (L kk) b'.bad) (T := b'.tags) (ns.zip (vals.zip tks)) hA
            (fun it hit tg htg => by
              cases hm : memN tg (e :: ownLess (L kk) b'.bad) with
              | false => rfl
              | true => exact absurd (f4 (it.1, it.2.2) (by rw [← z2]; exact List.mem_map.2 ⟨it, hit, rfl⟩) tg htg) (ho2 tg hm))
            (fun it hit tg htg => f6 (it.1, it.2.2) (by rw [← z2]; exact List.mem_map.2 ⟨it, hit, rfl⟩) tg htg)
          rw [z2, z3, z1] at p2
          have hzn : (ns.zip tks).map (·.1) = ns := by rw [List.map_fst_zip (by omega)]
          obtain ⟨cells', c1, c2, c3, c4⟩ := elemsCells (N := len) (ns.zip tks) (b := ⟨[], [], [], [], false, []⟩) (cells := zrow (zcells kk).toArray (len * kk.size)) (fos := []) (by simp; omega) hzs rfl (fun i hi => by simp at hi) p2 hfold
          rw [hzn] at c1
          simp only [List.nil_append] at c3 c4
          have hrun := hexec hb24 c1
          have hnd2 := p1.nodup hnd
          have n2 := List.nodup_append.1 hnd2
          have hin : ∀ b ∈ hs.flatMap (·.2), b ∈ F' := heldAll_sub hA0
          have hwt : tagsW (appAll (tws (vals.zip tks)) σ) b'.tags := by
            intro tg htg
            rcases f8 tg htg with h | ⟨q, hq, hq2⟩
            · simp at h
            · rw [← z2] at hq
              obtain ⟨it, hit, rfl⟩ := List.mem_map.1 hq
              have hit2 : it.2 ∈ vals.zip tks := by rw [← z1]; exact List.mem_map.2 ⟨it, hit, rfl⟩
              exact tags0_W (heldAll_wt hA0 it.2 hit2) tg hq2
          have hnr := takes_notr g1 hTk
          have hn1 : (appAll (tws (vals.zip tks)) σ).roots (locR d 0) = none := by rw [(hS _ hnr).root]; exact g1
          have hws3 : b'.ws = tws (vals.zip tks) := by rw [f1, z4]
          obtain ⟨α2, F2, k1, k2⟩ := rowRoot (r := locR d 0) (e := e) (k := kk) (xs := b'.xs) (own := e :: ownLess (L kk) b'.bad) (tags := b'.tags) (arr := cells') (lo := 0) (hi := 0) (n := len) (c := len) (fos := fts) (F1 := F'.filter fun b => !memN b (fts.flatten ++ fdts)) H' hn1 (isExt_locR d 0)
            hwt (memN_iff.2 (by simp)) (fun i hi => by omega) hxl.symm (Nat.le_refl _) (by rw [c2]; exact Nat.le_refl _) c3 (fun b hb => hin b (p1.mem_iff.2 (by simp [hb]))) n2.1
            (fun b hb => by
              rw [List.mem_filter] at hb
              have := hb.2
              simp only [Bool.not_eq_true', memN_false, List.mem_append, not_or] at this
              exact ⟨hb.1, this.1⟩) (H'.fnd.filter _)
            (fun i hi => by
              have hsl : (segL cells'.toList kk.size i).length = kk.size := segL_len (m := len) (by rw [Array.length_toList, c2]) (by omega)
              refine ⟨_, hsl, fun j hj => ?_, Ow_mono (fun _ _ => rfl) (fun b hb => ?_) (fun _ _ => rfl) (c4 i hi)⟩
              · rw [hsl] at hj
                rw [segL_get hj, Array.getElem?_toList]
              · rcases hb with hb | hb
                · exact .inl hb
                · refine .inr ⟨hin b (p1.mem_iff.2 (by simp [hb])), fun h => ?_, fun h => n2.2.2 b h b hb rfl⟩
                  rw [List.mem_filter] at h
                  have := h.2
                  simp only [Bool.not_eq_true', memN_false, List.mem_append, not_or] at this
                  exact this.2 hb) b'.keep w.drawn
          rw [hws3, appAll_append]
          exact did_put2 (x := .one (.ref (locR d 0) 0)) k1 hd hdn hrun k2 ⟨_, setRoot_same .., .inr (Nat.zero_le _)⟩
        · rcases cond_ends h6 with ⟨hc, h7⟩ | ⟨_, h7⟩
          · obtain ⟨g1, g2⟩ := freshR_inv h7
            rw [ends_ret g2]
            have hxl : b'.xs.length = 0 := by rw [← lenN_eq]; exact Nat.eq_of_beq_eq_true hc
            have ht0 : tks = [] := List.eq_nil_of_length_eq_zero (by omega)
            have hv0 : vals = [] := List.eq_nil_of_length_eq_zero (by rw [ht0] at hvals; simpa using hvals)
            have hrun := hexec (cells := zrow (zcells kk).toArray (len * kk.size)) hb24 (by rw [hv0]; simp [Instr.fill])
            obtain ⟨α2, F2, k1, k2⟩ := rowFlat (r := locR d 0) (e := e) (k := kk) (xs := List.replicate len kk.zero) (own := e :: kk.tys) (arr := zrow (zcells kk).toArray (len * kk.size)) (lo := 0) (hi := 0) (n := len) (c := len) H g1 (isExt_locR d 0)
              (memN_iff.2 (by simp)) (fun i hi => by omega) (by simp) (Nat.le_refl _) (by rw [hzs]; exact Nat.le_refl _)
              (fun i hi => by
                have hi' : i < len := by simpa using hi
                refine ⟨zcells kk, hzl, fun j hj => ?_, fun h ok => ?_⟩
                · have hs := congrArg (fun l => l[j]?) (zrow_seg hk hzl hi')
                  rw [segL_get (by omega), Array.getElem?_toList] at hs
                  exact hs
                · have : (List.replicate len kk.zero)[i]'hi = kk.zero := by simp
                  rw [this]
                  exact hzO h ok _) false w.drawn
            exact did_put2 (x := .one (.ref (locR d 0) 0)) k1 hd hdn hrun k2 ⟨_, setRoot_same .., .inr (Nat.zero_le _)⟩
          · exact h7.elim
    | _ => exact h.elim

end
end Go.Proofs.YtcelknaomealbaaDoor.Ow

/- The framework, part 43: arguments, gathered. Own work of this seat. -/
namespace Go.Proofs.YtcelknaomealbaaDoor.Ow
open Go

variable [Fr]

section
variable {P : Program} {T : Tab} {cx : Cx} {σ : St} {α : Asg} {F : List Nat} {a : Act} {w : World}

/-- A state behind which nothing that these tags name was handed away. -/
structure Tk (cx : Cx) (σ : St) (α : Asg) (F : List Nat) (a : Act) (w : World) (σ1 : St) (α1 : Asg) (F1 : List Nat) (ids : List Tag) : Prop where
  rel : Rel cx σ1 α1 F1 a w
  vws : Views cx σ α F w σ1 α1 F1 w
  same : ∀ t ∈ ids, Same σ α σ1 α1 t.1

theorem Tk.sub {σ1 : St} {α1 : Asg} {F1 : List Nat} {ids ids' : List Tag} (h : Tk cx σ α F a w σ1 α1 F1 ids') (hs : ∀ t ∈ ids, t ∈ ids') : Tk cx σ α F a w σ1 α1 F1 ids := ⟨h.rel, h.vws, fun t ht => h.same t (hs t ht)⟩

/-- A value that is read, as an argument. -/
def VaG (cx : Cx) (σ : St) (α : Asg) (F : List Nat) (a : Act) (w : World) (k : K) (x : El k) (ids : List Tag) (v : Value) : Prop :=
  ∃ cs, VC k v cs ∧ ∀ σ1 α1 F1, Tk cx σ α F a w σ1 α1 F1 ids → Vw (hp w) (okT cx σ1 α1 F1 w ids) k x cs

/-- A place that is read, as an argument. -/
def RoG (cx : Cx) (σ : St) (α : Asg) (F : List Nat) (a : Act) (w : World) (k : K) (x : El k) (ids : List Tag) (v : Value) : Prop :=
  ∃ b o cs, v = .pointer (some ⟨b, o, none⟩) ∧ Cells (hp w) b o cs ∧ ∀ σ1 α1 F1, Tk cx σ α F a w σ1 α1 F1 ids → Vw (hp w) (okT cx σ1 α1 F1 w ids) k x cs ∧ okQ σ1 α1 F1 w ids b

def CapsG (cx : Cx) (σ : St) (α : Asg) (F : List Nat) (a : Act) (w : World) (ids : List Tag) : (ks : List K) → Cont ks → List Value → Prop
  | [], _, [] => True
  | k :: ks, c, v :: vs => RoG cx σ α F a w k c.1 ids v ∧ CapsG cx σ α F a w ids ks c.2 vs
  | _, _, _ => False

/-- A place that is lent. -/
structure PlG (cx : Cx) (σ : St) (α : Asg) (w : World) (k : K) (x : El k) (ow : List TypeId) (i : ArgI) (wt ht : List TypeId) (r : Nat) (R : Root) (p : List Stp) : Prop where
  wb : i.wb = some (r, p, wt, ht)
  ws : i.ws = []
  ids : i.ids = R.tags
  lv : liveR σ r R
  vl : validR σ R
  get : getP p R.k R.x = some ⟨k, x⟩
  pin : PIn p R.k R.x
  own : ∀ t ∈ pathTys p R.k, memN t R.own = true
  just : ownsJust k R.own ow = true

/-- The arguments. -/
def GIs (cx : Cx) (σ : St) (α : Asg) (F : List Nat) (a : Act) (w : World) : (ps : List PSh) → Cont (kin ps) → List Value → List ArgI → List (Value × Took) → Prop
  | [], _, [], [], [] => True
  | .val k _ :: ps, c, v :: vs, i :: is, ts => (i.wb = none ∧ i.ws = [] ∧ i.bt = [] ∧ VaG cx σ α F a w k c.1 i.ids v) ∧ GIs cx σ α F a w ps c.2 vs is ts
  | .ro k :: ps, c, v :: vs, i :: is, ts => (i.wb = none ∧ i.ws = [] ∧ i.bt = [] ∧ RoG cx σ α F a w k c.1 i.ids v) ∧ GIs cx σ α F a w ps c.2 vs is ts
  | .rw k ow wt ht :: ps, c, v :: vs, i :: is, ts => (∃ r R p, PlG cx σ α w k c.1 ow i wt ht r R p ∧ i.bt = [lastTy R p] ∧ ∃ cs b o, navF (hp w) p R.k (α.hdr r) (whR α R r) = some (cs, some (b, o)) ∧ v = .pointer (some ⟨b, o, none⟩)) ∧ GIs cx σ α F a w ps c.2 vs is ts
  | .brw k ow wt :: ps, c, v :: vs, i :: is, ts => (∃ r R p, PlG cx σ α w k c.1 ow i wt [] r R p ∧ i.bt = [] ∧ ∃ cs wh, navF (hp w) p R.k (α.hdr r) (whR α R r) = some (cs, wh) ∧ VC k v cs) ∧ GIs cx σ α F a w ps c.2 vs is ts
  | .own k ow :: ps, c, v :: vs, i :: is, q :: ts => (q.1 = v ∧ TakeI cx σ α F w v q.2 ∧ i = ⟨q.2.tags, none, q.2.ws, []⟩ ∧ (∃ e : q.2.k = k, c.1 = e ▸ q.2.x) ∧ ownsJust k q.2.own ow = true) ∧ GIs cx σ α F a w ps c.2 vs is ts
  | .fn f ks :: ps, c, v :: vs, i :: is, ts => (i.wb = none ∧ i.ws = [] ∧ i.bt = [] ∧ ∃ us : List Value, v = .func (.func f) #[] us.toArray ∧ CapsG cx σ α F a w i.ids ks (Cont.fst ks (kin ps) c) us) ∧ GIs cx σ α F a w ps (Cont.snd ks (kin ps) c) vs is ts
  | _, _, _, _, _ => False

theorem fst_app : ∀ (ks ls : List K) (c : Cont ks) (d : Cont ls), Cont.fst ks ls (Cont.app ks ls c d) = c
  | [], _, _, _ => rfl
  | _ :: ks, ls, c, d => by show (c.1, Cont.fst ks ls (Cont.app ks ls c.2 d)) = c; rw [fst_app ks ls c.2 d]; rfl
theorem snd_app : ∀ (ks ls : List K) (c : Cont ks) (d : Cont ls), Cont.snd ks ls (Cont.app ks ls c d) = d
  | [], _, _, _ => rfl
  | _ :: ks, ls, c, d => snd_app ks ls c.2 d

theorem RoG.mono {ids ids' : List Tag} (h : ∀ t ∈ ids, t ∈ ids') {k : K} {x : El k} {v : Value} (H : RoG cx σ α F a w k x ids v) : RoG cx σ α F a w k x ids' v := by
  obtain ⟨b, o, cs, h1, h2, h3⟩ := H
  refine ⟨b, o, cs, h1, h2, fun σ1 α1 F1 hT => ?_⟩
  obtain ⟨g1, g2⟩ := h3 σ1 α1 F1 (hT.sub h)
  exact ⟨Vw_mono (fun _ _ => rfl) (fun b hb => okT_tags hb h) g1, okQ_tags g2 h⟩

theorem CapsG.mono {ids ids' : List Tag} (h : ∀ t ∈ ids, t ∈ ids') : ∀ {ks : List K} {c : Cont ks} {vs : List Value}, CapsG cx σ α F a w ids ks c vs → CapsG cx σ α F a w ids' ks c vs
  | [], _, [], _ => trivial
  | _ :: _, _, _ :: _, ⟨h1, hh⟩ => ⟨h1.mono h, CapsG.mono h hh⟩
  | [], _, _ :: _, hh => hh.elim
  | _ :: _, _, [], hh => hh.elim

theorem Tk.clean {σ1 : St} {α1 : Asg} {F1 : List Nat} {ids : List Tag} (h : Tk cx σ α F a w σ1 α1 F1 ids) (tys : List TypeId) : cleanT σ1 tys ids = cleanT σ tys ids := cleanT_same (fun t ht => (h.same t ht).root)

theorem RoG.of_ro {bt : TypeId} {k : K} {x : El k} {T : List Tag} {v : Value} (h : roOk cx σ α F w bt k x T v) (hw : tagsW σ T) (hc : cleanT σ (bt :: k.tys) T = true) : RoG cx σ α F a w k x T v := by
  obtain ⟨b, o, cs, e, h1, h2, h3, h4⟩ := h.2 hc
  refine ⟨b, o, cs, e, h1, fun σ1 α1 F1 hT => ?_⟩
  obtain ⟨b', o', cs', e', h1', h2', h3', _⟩ := (hT.vws.ro hw h).2 (by rw [hT.clean]; exact hc)
  have : b' = b ∧ o' = o := by rw [e] at e'; simpa using e'.symm
  obtain ⟨rfl, rfl⟩ := this
  have hcs : cs' = cs := cells_eq h1 h1' ((Vw_len h2').trans (Vw_len h2).symm)
  subst hcs
  exact ⟨h2', h3'⟩

theorem RoG.of_place (H : Rel cx σ α F a w) {r : Nat} {R : Root} {p : List Stp} {d : Dat} {cs : List Value} {b o : Nat} (hr : liveR σ r R) (hv : validR σ R) (hg : getP p R.k R.x = some d) (hpin : PIn p R.k R.x) (hown : ∀ t ∈ pathTys p R.k, memN t R.own = true)
    (hn : navF (hp w) p R.k (α.hdr r) (whR α R r) = some (cs, some (b, o))) (n : Nat) : RoG cx σ α F a w d.1 d.2 ((r, n) :: R.tags) (.pointer (some ⟨b, o, none⟩)) := by
  obtain ⟨hC, _⟩ := placeMem H hr hv hg hpin hown hn
  refine ⟨b, o, cs, rfl, hC, fun σ1 α1 F1 hT => ?_⟩
  have hS := hT.same (r, n) (by simp)
  have hr1 := (hS.live R).2 hr
  have hv1 : validR σ1 R := ⟨hv.1, by rw [cleanT_same (fun t ht => (hT.same t (by simp [ht])).root)]; exact hv.2⟩
  obtain ⟨_, ⟨fo1, hO, hf⟩, hbb, _, _⟩ := placeMem hT.rel hr1 hv1 hg hpin hown (by rw [hS.hdr, hS.wh]; exact hn)
  have hq : ∀ b ∈ blk α1 R r, okQ σ1 α1 F1 w ((r, n) :: R.tags) b := fun b hb => by
    refine ⟨((hT.rel.roots r R hr1).mine b hb).1, hT.rel.fdis r R hr1 b hb, fun q Q hq hbq => ?_⟩
    by_cases e : q = r
    · subst e; exact ⟨n, by simp⟩
    · exact absurd hb (hT.rel.dis q Q r R hq hr1 e b hbq)
  refine ⟨Ow_view _ (fun b hb => okT_tags hb (fun t ht => by simp [ht])) (fun b hb => ?_) hO, hq b hbb⟩
  have hbr : b ∈ blk α1 R r := List.mem_append_right _ (hf b hb)
  obtain ⟨q1, q2, q3⟩ := hq b hbr
  refine ⟨q1, q2, fo_notBase hT.rel hr1 (hf b hb), q3, fun h0 => ?_⟩
  rcases ((hT.rel.roots r R hr1).mine b hbr).2 with h | ⟨j, pi, h1, h2⟩
  · omega
  · exact .inr ⟨j, pi, h1, h2⟩

theorem asVal_inv2 {A : Type} {z : A} (H : Rel cx σ α F a w) {x : AV} {v : Value} {k : (kk : K) → El kk → List Tag → Prog A} (hx : AVok cx σ α F w x v) (hw : avW σ x) (h : (asVal x k).ends σ z) :
    ∃ kk y T, VaG cx σ α F a w kk y T v ∧ (k kk y T).ends σ z := by
  -- out of a root
  have key : ∀ {r : Nat} {R : Root} {p : List Stp} {d : Dat} {cs : List Value} {wh : Option (Nat × Nat)}, liveR σ r R → validR σ R → getP p R.k R.x = some d → PIn p R.k R.x → (∀ t ∈ pathTys p R.k, memN t R.own = true) → navF (hp w) p R.k (α.hdr r) (whR α R r) = some (cs, wh) → VC d.1 v cs →
      VaG cx σ α F a w d.1 d.2 (R.out r d.1) v := by
    intro r R p d cs wh hr hv hg h1 h2 h3 h4
    refine ⟨cs, h4, fun σ1 α1 F1 hT => ?_⟩
    cases hf : d.1.flat with
    | true =>
      obtain ⟨fo1, h5, _⟩ := placeOw H hr hv hg h1 h2 h3
      exact Vw_flat hf (Ow_view (fun _ => True) (fun _ _ => trivial) (fun _ _ => trivial) h5)
    | false =>
      have ho : R.out r d.1 = (r, lenN R.w) :: R.tags := by simp [Root.out, hf]
      rw [ho] at hT
      have hS := hT.same (r, lenN R.w) (by simp)
      have hr1 := (hS.live R).2 hr
      have hv1 : validR σ1 R := ⟨hv.1, by rw [cleanT_same (fun t ht => (hT.same t (by simp [ht])).root)]; exact hv.2⟩
      obtain ⟨fo1, h5, h6⟩ := placeOw hT.rel hr1 hv1 hg h1 h2 (by rw [hS.hdr, hS.wh]; exact h3)
      exact out_view hT.rel hr1 h5 h6
  cases x with
  | val kk y T =>
    obtain ⟨h1, h2⟩ := chkTags_inv h
    obtain ⟨cs, h3, h4⟩ := hx (.inr h1)
    exact ⟨kk, y, T, ⟨cs, h3, fun σ1 α1 F1 hT => hT.vws.vw hw (by rw [hT.clean]; exact h1) (fun _ h => h) h4⟩, h2⟩
  | ref r g =>
    obtain ⟨R, hr, hv, h⟩ := useR_inv h
    rcases cond_ends h with ⟨hg, h⟩ | ⟨_, h⟩
    · obtain ⟨_, h2⟩ := hx R hr (Nat.eq_of_beq_eq_true hg)
      exact ⟨R.k, R.x, R.out r R.k, key (p := []) (d := ⟨R.k, R.x⟩) hr hv rfl trivial (fun t ht => by simp [pathTys] at ht) rfl h2, h⟩
    · exact h.elim
  | bor r p n =>
    obtain ⟨R, hr, hv, h⟩ := useR_inv h
    rcases cond_ends h with ⟨hg, h⟩ | ⟨_, h⟩
    · cases hgp : getP p R.k R.x with
      | none => rw [hgp] at h; exact h.elim
      | some d =>
        rw [hgp] at h
        obtain ⟨h1, h2, cs, wh, h3, h4⟩ := hx R hr.1 hv (Nat.eq_of_beq_eq_true hg) d hgp
        exact ⟨d.1, d.2, R.out r d.1, key hr hv hgp h1 h2 h3 h4, h⟩
    · exact h.elim
  | undef => exact h.elim
  | nils => exact h.elim
  | ptr r p n => exact h.elim
  | rptr bt k x T => exact h.elim
  | cpy _ _ _ _ => exact h.elim
  | nilq _ => exact h.elim
  | nilp => exact h.elim
  | fn f cs => exact h.elim

theorem VaG.flat {k : K} {x : El k} {ids : List Tag} {v : Value} (hf : k.flat = true) (h : VaG cx σ α F a w k x ids v) (H : Rel cx σ α F a w) : VaG cx σ α F a w k x [] v := by
  obtain ⟨cs, h1, h2⟩ := h
  have h3 := h2 σ α F ⟨H, fun T tys _ h => ⟨h, fun b hb _ => ⟨hb, rfl⟩, fun b hb _ => ⟨hb, rfl⟩⟩, fun _ _ => Same_refl ..⟩
  exact ⟨cs, h1, fun _ _ _ _ => Vw_flat hf h3⟩

theorem capsP_inv {A : Type} {z : A} : ∀ {ks : List K} {l : List (TypeId × Dat × List Tag)} {vs : List Value} {k : Cont ks → List Tag → Prog A}, capsOk cx σ α F w l vs → (∀ c ∈ l, tagsW σ c.2.2) → (capsP ks l k).ends σ z →
    ∃ c T, CapsG cx σ α F a w T ks c vs ∧ (k c T).ends σ z := by
  intro ks
  induction ks with
  | nil =>
    intro l vs k h1 h2 h
    cases l with
    | nil =>
      cases vs with
      | nil => exact ⟨(), [], trivial, h⟩
      | cons v vs => exact h1.elim
    | cons q l => exact h.elim
  | cons kk ks ih =>
    intro l vs k h1 h2 h
    cases l with
    | nil => exact h.elim
    | cons q l =>
      obtain ⟨t, d, tags⟩ := q
      cases vs with
      | nil => exact h1.elim
      | cons v vs =>
        simp only [capsP] at h
        obtain ⟨hc, h⟩ := chkTags_inv h
        cases hk : castK d.1 kk d.2 with
        | none => rw [hk] at h; exact h.elim
        | some x =>
          rw [hk] at h
          simp only at h
          obtain ⟨ek, ey⟩ := castK_some hk
          obtain ⟨c, T, g1, g2⟩ := ih h1.2 (fun c hc => h2 c (by simp [hc])) h
          refine ⟨(x, c), mergeT tags T, ⟨?_, g1.mono (fun t ht => mem_mergeT.2 (.inr ht))⟩, g2⟩
          obtain ⟨dk, dx⟩ := d
          simp only at ek ey h1
          subst ek
          subst ey
          exact (RoG.of_ro h1.1 (h2 _ List.mem_cons_self) hc).mono (fun t ht => mem_mergeT.2 (.inl ht))

theorem gather_inv {A : Type} {z : A} (H : Rel cx σ α F a w) : ∀ {ps : List PSh} {avs : List AV} {vs : List Value} {k : Cont (kin ps) → List ArgI → Prog A}, listOk cx σ α F w avs vs → (∀ v ∈ avs, avW σ v) → (gatherP ps avs k).ends σ z →
    ∃ c is ts, GIs cx σ α F a w ps c vs is ts ∧ (k c is).ends σ z := by
  intro ps
  induction ps with
  | nil =>
    intro avs vs k h1 _ h
    cases avs with
    | nil =>
      cases vs with
      | nil => exact ⟨(), [], [], trivial, h⟩
      | cons v vs => exact h1.elim
    | cons x avs => exact h.elim
  | cons p ps ih =>
    intro avs vs k h1 h2 h
    cases avs with
    | nil => cases p <;> exact h.elim
    | cons x avs =>
      cases vs with
      | nil => exact h1.elim
      | cons v vs =>
        have h2' : ∀ v ∈ avs, avW σ v := fun v hv => h2 v (by simp [hv])
        cases p with
        | val kk prs =>
          have hgo : ∀ (y : El kk) (tags : List Tag), VaG cx σ α F a w kk y tags v →
              (gatherP ps avs fun c is => k (y, c) (⟨tags, none, [], []⟩ :: is)).ends σ z → ∃ c is ts, GIs cx σ α F a w (.val kk prs :: ps) c (v :: vs) is ts ∧ (k c is).ends σ z := by
            intro y tags hy h
            obtain ⟨c, is, ts, g1, g2⟩ := ih h1.2 h2' h
            exact ⟨(y, c), ⟨tags, none, [], []⟩ :: is, ts, ⟨⟨rfl, rfl, rfl, hy⟩, g1⟩, g2⟩
          have hval : (asVal x fun k' x tags => match castK k' kk x with
              | some y => gatherP ps avs fun c is => k (y, c) (⟨bif kk.flat then [] else tags, none, [], []⟩ :: is)
              | none => .fail).ends σ z → ∃ c is ts, GIs cx σ α F a w (.val kk prs :: ps) c (v :: vs) is ts ∧ (k c is).ends σ z := by
            intro h
            obtain ⟨k', y, Tg, f1, f5⟩ := asVal_inv2 H h1.1 (h2 x (by simp)) h
            cases hc : castK k' kk y with
            | none => rw [hc] at f5; exact f5.elim
            | some y' =>
              rw [hc] at f5
              obtain ⟨ek, ey⟩ := castK_some hc
              subst ek
              simp only at ey
              subst ey
              cases hf : k'.flat with
              | true =>
                rw [hf] at f5
                exact hgo _ _ (f1.flat hf H) f5
              | false =>
                rw [hf] at f5
                exact hgo _ _ f1 f5
          cases x with
          | nils =>
            cases kk with
            | sl e kk =>
              obtain ⟨b, rfl⟩ := h1.1
              exact hgo [] [] ⟨[.slice b 0 0], slice_VC, fun _ _ _ _ => ⟨b, 0, 0, rfl, rfl, Nat.le_refl _, fun h => by omega⟩⟩ h
            | _ => exact h.elim
          | undef => exact hval h
          | val _ _ _ => exact hval h
          | ref _ _ => exact hval h
          | bor _ _ _ => exact hval h
          | ptr _ _ _ => exact hval h
          | rptr _ _ _ _ => exact hval h
          | cpy _ _ _ _ => exact hval h
          | nilq _ => exact hval h
          | nilp => exact hval h
          | fn _ _ => exact hval h
        | ro kk =>
          simp only [gatherP] at h
          have hgo : ∀ (d : Dat) (tags : List Tag), RoG cx σ α F a w d.1 d.2 tags v → (match castK d.1 kk d.2 with
              | some y => gatherP ps avs fun c is => k (y, c) (⟨tags, none, [], []⟩ :: is)
              | none => .fail).ends σ z → ∃ c is ts, GIs cx σ α F a w (.ro kk :: ps) c (v :: vs) is ts ∧ (k c is).ends σ z := by
            intro d tags hd h
            cases hc : castK d.1 kk d.2 with
            | none => rw [hc] at h; exact h.elim
            | some y =>
              rw [hc] at h
              obtain ⟨ek, ey⟩ := castK_some hc
              obtain ⟨dk, dx⟩ := d
              simp only at ek ey hd
              subst ek
              subst ey
              obtain ⟨c, is, ts, g1, g2⟩ := ih h1.2 h2' h
              exact ⟨(y, c), ⟨tags, none, [], []⟩ :: is, ts, ⟨⟨rfl, rfl, rfl, hd⟩, g1⟩, g2⟩
          cases x with
          | ptr r p n =>
            rcases addrOf_inv H h1.1 (h2 (.ptr r p n) (by simp)) h with ⟨r', R, p', d, cs, b, o, hr, hv, hg, hpin, hown, hn, e, h5⟩ | ⟨bt, d, Tg, b, o, cs, hw, e, hcs, hV, hok, hb, h5⟩
            · subst e
              exact hgo d _ (RoG.of_place H hr hv hg hpin hown hn _) h5
            · simp only [addrOf] at h
              obtain ⟨R, hr, hv, h⟩ := useR_inv h
              rcases cond_ends h with ⟨hc, h⟩ | ⟨_, h⟩
              · simp only [Bool.and_eq_true] at hc
                cases hgp : getP p R.k R.x with
                | none => rw [hgp] at h; exact h.elim
                | some d =>
                  rw [hgp] at h
                  have hown := memN_all hc.2
                  obtain ⟨g1, cs, b, o, g2, g3⟩ := h1.1.2 R hr.1 hv hc.1 hown (by rw [hgp]; rfl)
                  subst g3
                  exact hgo d _ (RoG.of_place H hr hv hgp g1 hown g2 _) h
              · exact h.elim
          | rptr bt kx y Tg =>
            simp only [addrOf] at h
            obtain ⟨hc, h⟩ := chkTags_inv h
            exact hgo ⟨kx, y⟩ Tg (RoG.of_ro h1.1 (h2 (.rptr bt kx y Tg) (by simp)) hc) h
          | _ => exact h.elim
        | rw kk ow wt ht =>
          simp only [gatherP] at h
          cases x with
          | ptr r p n =>
            simp only at h
            obtain ⟨R, hr, hv, h⟩ := useR_inv h
            rcases cond_ends h with ⟨hc, h⟩ | ⟨_, h⟩
            · simp only [Bool.and_eq_true] at hc
              cases hgp : getP p R.k R.x with
              | none => rw [hgp] at h; exact h.elim
              | some d =>
                rw [hgp] at h
                simp only at h
                cases hck : castK d.1 kk d.2 with
                | none => rw [hck] at h; exact h.elim
                | some y =>
                  rw [hck] at h
                  obtain ⟨ek, ey⟩ := castK_some hck
                  obtain ⟨dk, dx⟩ := d
                  simp only at ek ey h
                  subst ek
                  subst ey
                  rcases cond_ends h with ⟨hj, h⟩ | ⟨_, h⟩
                  · have hown := memN_all hc.2
                    obtain ⟨g1, cs, b, o, g2, g3⟩ := h1.1.2 R hr.1 hv hc.1 hown (by rw [hgp]; rfl)
                    obtain ⟨c, is, ts, f1, f2⟩ := ih h1.2 h2' h
                    exact ⟨(y, c), ⟨R.tags, some (r, p, wt, ht), [], [lastTy R p]⟩ :: is, ts, ⟨⟨r, R, p, ⟨rfl, rfl, rfl, hr, hv, hgp, g1, hown, hj⟩, rfl, cs, b, o, g2, g3⟩, f1⟩, f2⟩
                  · exact h.elim
            · exact h.elim
          | _ => exact h.elim
        | brw kk ow wt =>
          simp only [gatherP] at h
          have hgo : ∀ (r : Nat) (R : Root) (p : List Stp) (d : Dat), liveR σ r R → validR σ R → getP p R.k R.x = some d → PIn p R.k R.x → (∀ t ∈ pathTys p R.k, memN t R.own = true) → (∃ cs wh, navF (hp w) p R.k (α.hdr r) (whR α R r) = some (cs, wh) ∧ VC d.1 v cs) →
              (match castK d.1 kk d.2 with
              | some y => bif ownsJust kk R.own ow then gatherP ps avs fun c is => k (y, c) (⟨R.tags, some (r, p, wt, []), [], []⟩ :: is) else .fail
              | none => .fail).ends σ z → ∃ c is ts, GIs cx σ α F a w (.brw kk ow wt :: ps) c (v :: vs) is ts ∧ (k c is).ends σ z := by
            intro r R p d hr hv hg hpin hown hn h
            cases hck : castK d.1 kk d.2 with
            | none => rw [hck] at h; exact h.elim
            | some y =>
              rw [hck] at h
              obtain ⟨ek, ey⟩ := castK_some hck
              obtain ⟨dk, dx⟩ := d
              simp only at ek ey h hn
              subst ek
              subst ey
              rcases cond_ends h with ⟨hj, h⟩ | ⟨_, h⟩
              · obtain ⟨c, is, ts, f1, f2⟩ := ih h1.2 h2' h
                exact ⟨(y, c), ⟨R.tags, some (r, p, wt, []), [], []⟩ :: is, ts, ⟨⟨r, R, p, ⟨rfl, rfl, rfl, hr, hv, hg, hpin, hown, hj⟩, rfl, hn⟩, f1⟩, f2⟩
              · exact h.elim
          cases x with
          | bor r p n =>
            simp only at h
            obtain ⟨R, hr, hv, h⟩ := useR_inv h
            rcases cond_ends h with ⟨hc, h⟩ | ⟨_, h⟩
            · cases hgp : getP p R.k R.x with
              | none => rw [hgp] at h; exact h.elim
              | some d =>
                rw [hgp] at h
                obtain ⟨g1, g2, cs, wh, g3, g4⟩ := h1.1 R hr.1 hv (Nat.eq_of_beq_eq_true hc) d hgp
                exact hgo r R p d hr hv hgp g1 g2 ⟨cs, wh, g3, g4⟩ h
            · exact h.elim
          | ref r g =>
            simp only at h
            obtain ⟨R, hr, hv, h⟩ := useR_inv h
            rcases cond_ends h with ⟨hc, h⟩ | ⟨_, h⟩
            · obtain ⟨_, g4⟩ := h1.1 R hr (Nat.eq_of_beq_eq_true hc)
              exact hgo r R [] ⟨R.k, R.x⟩ hr hv rfl trivial (fun t ht => by simp [pathTys] at ht) ⟨_, _, rfl, g4⟩ h
            · exact h.elim
          | _ => exact h.elim
        | own kk ow =>
          simp only [gatherP] at h
          obtain ⟨tk, htk, h⟩ := takeV_inv H h1.1 (h2 x (by simp)) h
          cases hck : castK tk.k kk tk.x with
          | none => rw [hck] at h; exact h.elim
          | some y =>
            rw [hck] at h
            obtain ⟨ek, ey⟩ := castK_some hck
            simp only at h
            rcases cond_ends h with ⟨hj, h⟩ | ⟨_, h⟩
            · obtain ⟨c, is, ts, f1, f2⟩ := ih h1.2 h2' h
              exact ⟨(y, c), ⟨tk.tags, none, tk.ws, []⟩ :: is, (v, tk) :: ts, ⟨⟨rfl, htk, rfl, ⟨ek, ey⟩, hj⟩, f1⟩, f2⟩
            · exact h.elim
        | fn f ks =>
          simp only [gatherP] at h
          cases x with
          | fn f' caps =>
            simp only at h
            rcases cond_ends h with ⟨hf, h⟩ | ⟨_, h⟩
            · obtain ⟨us, e1, e2⟩ := h1.1
              obtain ⟨c0, T0, g1, h⟩ := capsP_inv (a := a) e2 (fun c hc => h2 (.fn f' caps) (by simp) c hc) h
              obtain ⟨c, is, ts, f1, f2⟩ := ih h1.2 h2' h
              refine ⟨Cont.app ks (kin ps) c0 c, ⟨T0, none, [], []⟩ :: is, ts, ⟨⟨rfl, rfl, rfl, us, ?_, ?_⟩, ?_⟩, f2⟩
              · rw [e1, Nat.eq_of_beq_eq_true hf]
              · rw [fst_app]; exact g1
              · rw [snd_app]; exact f1
            · exact h.elim
          | _ => exact h.elim
        | into j q => exact h.elim

end
end Go.Proofs.YtcelknaomealbaaDoor.Ow

/- The framework, part 44: what a callee begins with. Own work of this seat. -/
namespace Go.Proofs.YtcelknaomealbaaDoor.Ow
open Go

variable [Fr]

/-- An argument in memory. -/
structure GA where
  v : Value
  cs : List Value
  fo : List Nat
  base : Option (Nat × Nat)
  ow : Bool
  wb : Bool

def initAV (p : PSh) (i : Nat) (c : Cont p.kin) : AV := match p, c with
  | .val k prs, c => .val k c.1 (bif k.flat then [] else (extR i, 0) :: prs.map fun j => (parR j, 0))
  | .ro k, c => .rptr SENT k c.1 [(extR i, 0)]
  | .rw _ _ _ _, _ => .ptr (parR i) [] 0
  | .brw _ _ _, _ => .ref (parR i) 0
  | .own _ _, _ => .ref (parR i) 0
  | .fn f ks, c => .fn f (initS.capsOf i ks c)
  | .into j p, c => .ptr (parR j) (pathOf p c) 0

def initRoot (p : PSh) (i : Nat) (c : Cont p.kin) : Option Root := match p, c with
  | .rw k ow _ _, c => some (newRoot k c.1 ow (bif k.tys.all (fun t => memN t ow) then [] else [(extR i, 0)]) .par true)
  | .brw k ow _, c => some { newRoot k c.1 ow (bif k.tys.all (fun t => memN t ow) then [] else [(extR i, 0)]) .anon true with fixed := true }
  | .own k ow, c => some (newRoot k c.1 ow (bif k.tys.all (fun t => memN t ow) then [] else [(extR i, 0)]) .anon)
  | _, _ => none

/-- The first argument's content, and the others'. -/
def hdC : (p : PSh) → (ps : List PSh) → Cont (kin (p :: ps)) → Cont p.kin
  | .val _ _, _, c => (c.1, ())
  | .ro _, _, c => (c.1, ())
  | .rw _ _ _ _, _, c => (c.1, ())
  | .brw _ _ _, _, c => (c.1, ())
  | .own _ _, _, c => (c.1, ())
  | .fn _ ks, ps, c => Cont.fst ks (kin ps) c
  | .into _ p, ps, c => Cont.fst (PSh.into 0 p).kin (kin ps) c
def tlC : (p : PSh) → (ps : List PSh) → Cont (kin (p :: ps)) → Cont (kin ps)
  | .val _ _, _, c => c.2
  | .ro _, _, c => c.2
  | .rw _ _ _ _, _, c => c.2
  | .brw _ _ _, _, c => c.2
  | .own _ _, _, c => c.2
  | .fn _ ks, ps, c => Cont.snd ks (kin ps) c
  | .into _ p, ps, c => Cont.snd (PSh.into 0 p).kin (kin ps) c

theorem initS_cons (p : PSh) (ps : List PSh) (i : Nat) (c : Cont (kin (p :: ps))) : initS (p :: ps) i c = (i, initAV p i (hdC p ps c)) :: initS ps (i + 1) (tlC p ps c) := by cases p <;> rfl
theorem initR_cons (p : PSh) (ps : List PSh) (i : Nat) (c : Cont (kin (p :: ps))) : initR (p :: ps) i c = (match initRoot p i (hdC p ps c) with
  | some R => [(parR i, R)]
  | none => []) ++ initR ps (i + 1) (tlC p ps c) := by cases p <;> rfl

theorem parR_inj {i j : Nat} (h : parR i = parR j) : i = j := by unfold parR at h; omega

theorem lookS_initS : ∀ (ps : List PSh) (i : Nat) (c : Cont (kin ps)) (s : Nat), lookS (initS ps i c) s = .one .undef ∨ ∃ j p cj, s = i + j ∧ ps[j]? = some p ∧ lookS (initS ps i c) s = .one (initAV p s cj)
  | [], i, c, s => .inl rfl
  | p :: ps, i, c, s => by
    rw [initS_cons]
    simp only [lookS]
    by_cases h : s = i
    · subst h
      refine .inr ⟨0, p, hdC p ps c, rfl, rfl, ?_⟩
      simp
    · have : Nat.beq s i = false := by
        cases hb : Nat.beq s i with
        | true => exact absurd (Nat.eq_of_beq_eq_true hb) h
        | false => rfl
      rw [this]
      simp only [cond_false]
      rcases lookS_initS ps (i + 1) (tlC p ps c) s with h1 | ⟨j, q, cj, h1, h2, h3⟩
      · exact .inl h1
      · exact .inr ⟨j + 1, q, cj, by omega, by simpa using h2, h3⟩

theorem lookR_app (l m : List (Nat × Root)) (n : Nat) : lookR (l ++ m) n = match lookR l n with
  | some R => some R
  | none => lookR m n := by
  induction l with
  | nil => rfl
  | cons q l ih =>
    obtain ⟨s, a⟩ := q
    simp only [List.cons_append, lookR]
    cases Nat.beq n s with
    | true => rfl
    | false => exact ih

theorem lookR_low : ∀ (ps : List PSh) (i : Nat) (c : Cont (kin ps)) (r : Nat), r < parR i → lookR (initR ps i c) r = none
  | [], _, _, _, _ => rfl
  | p :: ps, i, c, r, h => by
    rw [initR_cons, lookR_app]
    have h2 := lookR_low ps (i + 1) (tlC p ps c) r (by unfold parR at h ⊢; omega)
    cases initRoot p i (hdC p ps c) with
    | none => exact h2
    | some R =>
      have : Nat.beq r (parR i) = false := by
        cases hb : Nat.beq r (parR i) with
        | true => have := Nat.eq_of_beq_eq_true hb; omega
        | false => rfl
      simp only [lookR, this, cond_false]
      exact h2

/-- What a turn of a place takes. -/
def PlaceGo (cx : Cx) (σ : St) (α : Asg) (F : List Nat) (a : Act) (w : World) (r : Nat) (R : Root) (p : List Stp) (d : Dat) (cs1 : List Value) (wh' : Option (Nat × Nat)) (fo1 : List Nat) : Prop :=
  ∃ rest, (α.fo r).Perm (fo1 ++ rest) ∧ (∀ b o, wh' = some (b, o) → b ∈ rest ∨ ∃ o0, whR α R r = some (b, o0) ∧ o0 ≤ o ∧ o + d.1.size ≤ o0 + R.k.size) ∧ (∀ b o, wh' = some (b, o) → b ∉ fo1) ∧
    ∀ {t z : Dat} {tags' : List Tag} {lw lh : List TypeId} {kp : Bool} {ft F' : List Nat} {cs' : List Value} {w' : World}, PlaceTurn cx σ α F w r R p d R.own cs1 wh' fo1 rest t z tags' lw lh kp ft F' cs' w' →
        ∃ α', Rel cx (setRoot σ r (storeRoot R z R.own tags' lw lh kp)) α' F' a w' ∧ Turn cx σ α F w (setRoot σ r (storeRoot R z R.own tags' lw lh kp)) α' F' w' (one1 r lw) (one1 r lh) ∧ (∀ b ∈ blk α' (storeRoot R z R.own tags' lw lh kp) r, (∃ o, whR α R r = some (b, o)) ∨ b ∈ ft ∨ b ∈ rest)

/-- What an argument is, in memory. -/
def GJ1 (cx : Cx) (σ : St) (α : Asg) (F : List Nat) (a : Act) (w : World) (p : PSh) (c : Cont p.kin) (v : Value) (i : ArgI) (g : GA) : Prop := g.v = v ∧ match p, c with
  | .val k _, c => g.ow = false ∧ g.wb = false ∧ i.wb = none ∧ g.fo = [] ∧ g.base = none ∧ VC k v g.cs ∧ Vw (hp w) (okT cx σ α F w i.ids) k c.1 g.cs
  | .ro k, c => g.ow = false ∧ g.wb = false ∧ i.wb = none ∧ g.fo = [] ∧ g.base = none ∧ ∃ b o, v = .pointer (some ⟨b, o, none⟩) ∧ Cells (hp w) b o g.cs ∧ Vw (hp w) (okT cx σ α F w i.ids) k c.1 g.cs ∧ okQ σ α F w i.ids b
  | .rw k ow wt ht, c => g.ow = false ∧ g.wb = true ∧ ∃ r R p b o, PlG cx σ α w k c.1 ow i wt ht r R p ∧ i.bt = [lastTy R p] ∧ navF (hp w) p R.k (α.hdr r) (whR α R r) = some (g.cs, some (b, o)) ∧ v = .pointer (some ⟨b, o, none⟩) ∧ g.base = some (b, o) ∧
      Ow (hp w) R.own (okT cx σ α F w R.tags) k c.1 g.cs g.fo ∧ (∀ b ∈ g.fo, b ∈ α.fo r) ∧ g.fo.Nodup ∧ b ∉ g.fo ∧ PlaceGo cx σ α F a w r R p ⟨k, c.1⟩ g.cs (some (b, o)) g.fo
  | .brw k ow wt, c => g.ow = false ∧ g.wb = true ∧ ∃ r R p wh, PlG cx σ α w k c.1 ow i wt [] r R p ∧ i.bt = [] ∧ navF (hp w) p R.k (α.hdr r) (whR α R r) = some (g.cs, wh) ∧ VC k v g.cs ∧ g.base = none ∧
      Ow (hp w) R.own (okT cx σ α F w R.tags) k c.1 g.cs g.fo ∧ (∀ b ∈ g.fo, b ∈ α.fo r) ∧ g.fo.Nodup ∧ PlaceGo cx σ α F a w r R p ⟨k, c.1⟩ g.cs wh g.fo
  | .own k ow, c => g.ow = true ∧ g.wb = false ∧ i.wb = none ∧ g.base = none ∧ VC k v g.cs ∧ Ow (hp w) ow (okT cx σ α F w i.ids) k c.1 g.cs g.fo ∧ (∀ b ∈ g.fo, b ∈ F) ∧ g.fo.Nodup
  | .fn f ks, c => g.ow = false ∧ g.wb = false ∧ i.wb = none ∧ g.fo = [] ∧ g.base = none ∧ ∃ us : List Value, v = .func (.func f) #[] us.toArray ∧ CapsJ ks c us i.ids
  | .into _ _, _ => False
where CapsJ : (ks : List K) → Cont ks → List Value → List Tag → Prop
  | [], _, [], _ => True
  | k :: ks, c, v :: vs, ids => (∃ b o cs, v = .pointer (some ⟨b, o, none⟩) ∧ Cells (hp w) b o cs ∧ Vw (hp w) (okT cx σ α F w ids) k c.1 cs ∧ okQ σ α F w ids b) ∧ CapsJ ks c.2 vs ids
  | _, _, _, _ => False

def GJs (cx : Cx) (σ : St) (α : Asg) (F : List Nat) (a : Act) (w : World) : (ps : List PSh) → Cont (kin ps) → List Value → List ArgI → List GA → Prop
  | [], _, [], [], [] => True
  | p :: ps, c, v :: vs, i :: is, g :: gs => GJ1 cx σ α F a w p (hdC p ps c) v i g ∧ GJs cx σ α F a w ps (tlC p ps c) vs is gs
  | _, _, _, _, _ => False

section
variable {P : Program} {T : Tab} {cx : Cx} {σ : St} {α : Asg} {F : List Nat} {a : Act} {w : World}

theorem CapsG.caps {σ1 : St} {α1 : Asg} {F1 : List Nat} {ids : List Tag} (hT : Tk cx σ α F a w σ1 α1 F1 ids) : ∀ {ks : List K} {c : Cont ks} {us : List Value}, CapsG cx σ α F a w ids ks c us → GJ1.CapsJ cx σ1 α1 F1 w ks c us ids
  | [], _, [], _ => trivial
  | _ :: _, _, _ :: _, ⟨⟨b, o, cs, h1, h2, h3⟩, hh⟩ => ⟨⟨b, o, cs, h1, h2, h3 σ1 α1 F1 hT⟩, CapsG.caps hT hh⟩
  | [], _, _ :: _, hh => hh.elim
  | _ :: _, _, [], hh => hh.elim

/-- The arguments, what is handed away having been taken. -/
theorem args_after {σ1 : St} {α1 : Asg} {F1 : List Nat} (H1 : Rel cx σ1 α1 F1 a w) (hV : Views cx σ α F w σ1 α1 F1 w) : ∀ {ps : List PSh} {c : Cont (kin ps)} {vs : List Value} {is : List ArgI} {ts : List (Value × Took)} {hs : List (List Value × List Nat)},
    GIs cx σ α F a w ps c vs is ts → HeldAll cx σ1 α1 F1 w ts hs → (∀ i ∈ is, ∀ t ∈ i.ids, Same σ α σ1 α1 t.1) → (∀ i ∈ is, ∀ r q, i.wb = some (r, q) → Same σ α σ1 α1 r) →
    ∃ gs, GJs cx σ1 α1 F1 a w ps c vs is gs ∧ (gs.flatMap fun g => bif g.ow then g.fo else []) = hs.flatMap (·.2) := by
  intro ps
  induction ps with
  | nil =>
    intro c vs is ts hs h hh _ _
    cases vs with
    | cons _ _ => exact h.elim
    | nil => cases is with
      | cons _ _ => exact h.elim
      | nil => cases ts with
        | cons _ _ => exact h.elim
        | nil => cases hs with
          | cons _ _ => exact hh.elim
          | nil => exact ⟨[], trivial, rfl⟩
  | cons p ps ih =>
    intro c vs is ts hs h hh hS hR
    -- a place that is lent
    have hpl : ∀ {k : K} {x : El k} {ow : List TypeId} {i : ArgI} {wt ht : List TypeId} {r : Nat} {R : Root} {p : List Stp} {cs : List Value} {wh : Option (Nat × Nat)}, PlG cx σ α w k x ow i wt ht r R p → (∀ t ∈ i.ids, Same σ α σ1 α1 t.1) → Same σ α σ1 α1 r →
        navF (hp w) p R.k (α.hdr r) (whR α R r) = some (cs, wh) → PlG cx σ1 α1 w k x ow i wt ht r R p ∧ navF (hp w) p R.k (α1.hdr r) (whR α1 R r) = some (cs, wh) ∧
          ∃ fo, Ow (hp w) R.own (okT cx σ1 α1 F1 w R.tags) k x cs fo ∧ (∀ b ∈ fo, b ∈ α1.fo r) ∧ fo.Nodup ∧ (∀ b o, wh = some (b, o) → b ∉ fo) ∧ PlaceGo cx σ1 α1 F1 a w r R p ⟨k, x⟩ cs wh fo := by
      intro k x ow i wt ht r R p cs wh hP hid hr hn
      have hr1 := (hr.live R).2 hP.lv
      have hv1 : validR σ1 R := ⟨hP.vl.1, by rw [cleanT_same (fun t ht => (hid t (by rw [hP.ids]; exact ht)).root)]; exact hP.vl.2⟩
      have hn1 : navF (hp w) p R.k (α1.hdr r) (whR α1 R r) = some (cs, wh) := by rw [hr.hdr, hr.wh]; exact hn
      have K := H1.roots r R hr1
      have hnd := K.nd
      rw [blk_blkOf, nd_blkOf] at hnd
      obtain ⟨fd, ok', fo1, rest, cs1', wh2, hn', hpf, hd1, hty, hall, hwh, hwf, hgo⟩ := H1.place hr1 hv1 (own' := R.own) hP.get hP.pin (fun _ h => h) hP.own
      rw [hn1] at hn'
      simp only [Option.some.injEq, Prod.mk.injEq] at hn'
      obtain ⟨rfl, rfl⟩ := hn'
      obtain ⟨hfd, hO⟩ := hall (fun _ _ => rfl)
      subst hfd
      rw [List.append_nil] at hpf
      have hnd2 := hpf.nodup hnd.2
      exact ⟨⟨hP.wb, hP.ws, hP.ids, hr1, hv1, hP.get, hP.pin, hP.own, hP.just⟩, hn1, fo1, hO, fun b hb => hpf.mem_iff.2 (List.mem_append_left _ hb), (List.nodup_append.1 hnd2).1, hwf, rest, hpf, hwh, hwf, hgo⟩
    cases vs with
    | nil => cases p <;> exact h.elim
    | cons v vs =>
      cases is with
      | nil => cases p <;> exact h.elim
      | cons i is =>
        have hS1 := hS i (by simp)
        have hR1 := hR i (by simp)
        have hTk : Tk cx σ α F a w σ1 α1 F1 i.ids := ⟨H1, hV, hS1⟩
        have hS2 : ∀ i ∈ is, ∀ t ∈ i.ids, Same σ α σ1 α1 t.1 := fun i hi => hS i (by simp [hi])
        have hR2 : ∀ i ∈ is, ∀ r q, i.wb = some (r, q) → Same σ α σ1 α1 r := fun i hi => hR i (by simp [hi])
        cases p with
        | val k prs =>
          obtain ⟨⟨h1, h2, h3, cs, h4, h5⟩, h6⟩ := h
          obtain ⟨gs, g1, g2⟩ := ih h6 hh hS2 hR2
          exact ⟨⟨v, cs, [], none, false, false⟩ :: gs, ⟨⟨rfl, rfl, rfl, h1, rfl, rfl, h4, h5 σ1 α1 F1 hTk⟩, g1⟩, by simpa using g2⟩
        | ro k =>
          obtain ⟨⟨h1, h2, h3, b, o, cs, h4, h5, h7⟩, h6⟩ := h
          obtain ⟨gs, g1, g2⟩ := ih h6 hh hS2 hR2
          exact ⟨⟨v, cs, [], none, false, false⟩ :: gs, ⟨⟨rfl, rfl, rfl, h1, rfl, rfl, b, o, h4, h5, h7 σ1 α1 F1 hTk⟩, g1⟩, by simpa using g2⟩
        | rw k ow wt ht =>
          obtain ⟨⟨r, R, p, hP, hbt, cs, b, o, hn, hv⟩, h6⟩ := h
          obtain ⟨gs, g1, g2⟩ := ih h6 hh hS2 hR2
          obtain ⟨q1, q2, fo, q3, q4, q5, q6, q7⟩ := hpl hP hS1 (hR1 r _ hP.wb) hn
          exact ⟨⟨v, cs, fo, some (b, o), false, true⟩ :: gs, ⟨⟨rfl, rfl, rfl, r, R, p, b, o, q1, hbt, q2, hv, rfl, q3, q4, q5, q6 b o rfl, q7⟩, g1⟩, by simpa using g2⟩
        | brw k ow wt =>
          obtain ⟨⟨r, R, p, hP, hbt, cs, wh, hn, hv⟩, h6⟩ := h
          obtain ⟨gs, g1, g2⟩ := ih h6 hh hS2 hR2
          obtain ⟨q1, q2, fo, q3, q4, q5, q6, q7⟩ := hpl hP hS1 (hR1 r _ hP.wb) hn
          exact ⟨⟨v, cs, fo, none, false, true⟩ :: gs, ⟨⟨rfl, rfl, rfl, r, R, p, wh, q1, hbt, q2, hv, rfl, q3, q4, q5, q7⟩, g1⟩, by simpa using g2⟩
        | own k ow =>
          cases ts with
          | nil => exact h.elim
          | cons q ts =>
            cases hs with
            | nil => exact hh.elim
            | cons hd hs =>
              obtain ⟨⟨h1, h2, h3, ⟨ek, ey⟩, h5⟩, h6⟩ := h
              obtain ⟨⟨k1, k2, k3⟩, k4⟩ := hh
              obtain ⟨gs, g1, g2⟩ := ih h6 k4 hS2 hR2
              obtain ⟨v', tk⟩ := q
              simp only at h1 h2 h3 ek ey h5 k1 k2 k3
              subst h1
              have hO : Ow (hp w) ow (okT cx σ1 α1 F1 w tk.tags) k c.1 hd.1 hd.2 := by
                refine Ow_same (fun t ht => ?_) (Ow_cast ek ey (k2.ow k3))
                have := List.all_eq_true.1 h5 t ht
                exact (by simpa using this : memN t tk.own = memN t ow).symm
              refine ⟨⟨v', hd.1, hd.2, none, true, false⟩ :: gs, ⟨⟨rfl, rfl, rfl, by rw [h3], rfl, ek ▸ k1, by rw [h3]; exact hO, k2.sub, k2.nd⟩, g1⟩, by simp [g2]⟩
        | fn f ks =>
          obtain ⟨⟨h1, h2, h3, us, h4, h5⟩, h6⟩ := h
          obtain ⟨gs, g1, g2⟩ := ih h6 hh hS2 hR2
          exact ⟨⟨v, [], [], none, false, false⟩ :: gs, ⟨⟨rfl, rfl, rfl, h1, rfl, rfl, us, h4, h5.caps hTk⟩, g1⟩, by simpa using g2⟩
        | into j q => exact h.elim

/-- By places. -/
theorem GJs.at : ∀ {ps : List PSh} {c : Cont (kin ps)} {vs : List Value} {is : List ArgI} {gs : List GA} {i0 : Nat}, GJs cx σ α F a w ps c vs is gs →
    vs.length = ps.length ∧ is.length = ps.length ∧ gs.length = ps.length ∧ ∀ j p, ps[j]? = some p → ∃ cj v i g, vs[j]? = some v ∧ is[j]? = some i ∧ gs[j]? = some g ∧ GJ1 cx σ α F a w p cj v i g ∧
      lookS (initS ps i0 c) (i0 + j) = .one (initAV p (i0 + j) cj) ∧ lookR (initR ps i0 c) (parR (i0 + j)) = initRoot p (i0 + j) cj := by
  intro ps
  induction ps with
  | nil =>
    intro c vs is gs i0 h
    cases vs with
    | cons _ _ => exact h.elim
    | nil => cases is with
      | cons _ _ => exact h.elim
      | nil => cases gs with
        | cons _ _ => exact h.elim
        | nil => exact ⟨rfl, rfl, rfl, fun j p hp => by simp at hp⟩
  | cons p ps ih =>
    intro c vs is gs i0 h
    cases vs with
    | nil => exact h.elim
    | cons v vs => cases is with
      | nil => exact h.elim
      | cons i is => cases gs with
        | nil => exact h.elim
        | cons g gs =>
          obtain ⟨h1, h2⟩ := h
          obtain ⟨l1, l2, l3, h3⟩ := ih (i0 := i0 + 1) h2
          refine ⟨by simp [l1], by simp [l2], by simp [l3], fun j q hq => ?_⟩
          cases j with
          | zero =>
            simp only [List.getElem?_cons_zero, Option.some.injEq] at hq
            subst hq
            refine ⟨hdC p ps c, v, i, g, rfl, rfl, rfl, h1, ?_, ?_⟩
            · rw [initS_cons]; simp [lookS]
            · rw [initR_cons, lookR_app]
              cases hr : initRoot p i0 (hdC p ps c) with
              | none =>
                simp only [lookR, Nat.add_zero]
                rw [lookR_low ps (i0 + 1) (tlC p ps c) (parR i0) (by unfold parR; omega)]
              | some R => simp [lookR]
          | succ j =>
            obtain ⟨cj, v', i', g', e1, e2, e3, e4, e5, e6⟩ := h3 j q (by simpa using hq)
            have ej : i0 + (j + 1) = i0 + 1 + j := by omega
            refine ⟨cj, v', i', g', e1, e2, e3, e4, ?_, ?_⟩
            · rw [initS_cons, ej]
              simp only [lookS]
              have : Nat.beq (i0 + 1 + j) i0 = false := by
                cases hb : Nat.beq (i0 + 1 + j) i0 with
                | true => have := Nat.eq_of_beq_eq_true hb; omega
                | false => rfl
              rw [this]
              exact e5
            · rw [initR_cons, lookR_app, ej]
              cases hr : initRoot p i0 (hdC p ps c) with
              | none => exact e6
              | some R =>
                have : Nat.beq (parR (i0 + 1 + j)) (parR i0) = false := by
                  cases hb : Nat.beq (parR (i0 + 1 + j)) (parR i0) with
                  | true => have := parR_inj (Nat.eq_of_beq_eq_true hb); omega
                  | false => rfl
                simp only [lookR, this, cond_false]
                exact e6

theorem lookR_par : ∀ {ps : List PSh} {c : Cont (kin ps)} {i0 r : Nat} {R : Root}, lookR (initR ps i0 c) r = some R → ∃ j p, r = parR (i0 + j) ∧ ps[j]? = some p := by
  intro ps
  induction ps with
  | nil => intro c i0 r R h; simp [initR, lookR] at h
  | cons p ps ih =>
    intro c i0 r R h
    rw [initR_cons, lookR_app] at h
    have hrec : lookR (initR ps (i0 + 1) (tlC p ps c)) r = some R → ∃ j q, r = parR (i0 + j) ∧ (p :: ps)[j]? = some q := by
      intro h
      obtain ⟨j, q, h1, h2⟩ := ih h
      exact ⟨j + 1, q, by rw [h1]; congr 1; omega, by simpa using h2⟩
    cases hr : initRoot p i0 (hdC p ps c) with
    | none => rw [hr] at h; exact hrec h
    | some Q =>
      rw [hr] at h
      simp only [lookR] at h
      cases hb : Nat.beq r (parR i0) with
      | true => exact ⟨0, p, Nat.eq_of_beq_eq_true hb, rfl⟩
      | false => rw [hb] at h; exact hrec h

end
end Go.Proofs.YtcelknaomealbaaDoor.Ow

/- The framework, part 45: the state in which a callee begins. Own work of this seat. -/
namespace Go.Proofs.YtcelknaomealbaaDoor.Ow
open Go

variable [Fr]

def footG (g : GA) : List Nat := (match g.base with
  | some q => [q.1]
  | none => []) ++ g.fo

def prsOf : PSh → List Nat
  | .val _ prs => prs
  | _ => []
def sizeP : PSh → Nat
  | .rw k _ _ _ => k.size
  | _ => 0

/-- The callee's own terms. -/
def calleeCx (cx : Cx) (σ : St) (α : Asg) (F : List Nat) (w : World) (ps : List PSh) (c : Cont (kin ps)) (is : List ArgI) (gs : List GA) : Cx where
  nt := 0
  w0 := w
  ext := fun j b => (∃ i, is[j]? = some i ∧ okT cx σ α F w i.ids b) ∧ ∀ (m : Nat) (g : GA) (q : Nat × Nat), gs[m]? = some g → g.base = some q → b ≠ q.1
  par := fun j => match gs[j]?, ps[j]? with
    | some g, some p => bif g.ow || g.wb then some ⟨g.base.map fun q => (q.1, q.2, sizeP p), footG g, g.wb⟩ else none
    | _, _ => none
  ptrs := fun j q ts v => ∃ g R0 c0 b o, gs[j]? = some g ∧ g.wb = true ∧ lookR (initR ps 0 c) (parR j) = some R0 ∧ ts = ptrTys q R0.k ∧ (∀ t ∈ pathTys q R0.k, memN t R0.own = true) ∧ PIn q R0.k R0.x ∧ navF (hp w) q R0.k g.cs g.base = some (c0, some (b, o)) ∧ v = .pointer (some ⟨b, o, none⟩)
  refs := fun j v => ∃ g, gs[j]? = some g ∧ g.v = v ∧ g.base = none ∧ g.wb = true

def calleeAsg (gs : List GA) : Asg where
  loc := fun r => ((gs[r / 4]?).bind (·.base)).getD (0, 0)
  hdr := fun r => ((gs[r / 4]?).map (·.cs)).getD []
  fo := fun r => ((gs[r / 4]?).map (·.fo)).getD []

theorem parR_div (j : Nat) : parR j / 4 = j := by unfold parR; omega
theorem isExt_parR (j : Nat) : isExt (parR j) = false := by
  unfold isExt parR
  have : 4 * j % 4 = 0 := by omega
  rw [this]; rfl

section
variable {P : Program} {T : Tab} {cx : Cx} {σ : St} {α : Asg} {F : List Nat} {a : Act} {w : World} {ps : List PSh} {c : Cont (kin ps)} {vs : List Value} {is : List ArgI} {gs : List GA}

/-- What the caller has looked after. -/
structure Apart (cx : Cx) (σ : St) (α : Asg) (F : List Nat) (w : World) (ps : List PSh) (is : List ArgI) (gs : List GA) : Prop where
  one : ∀ (j j' : Nat) (g g' : GA), gs[j]? = some g → gs[j']? = some g' → g.wb = true → g'.wb = true → j = j'
  own : (gs.flatMap fun g => bif g.ow then g.fo else []).Nodup
  prs : ∀ (j : Nat) (p : PSh) (i : ArgI) (r n : Nat), ps[j]? = some p → is[j]? = some i → (r, n) ∈ i.ids → ∀ (m : Nat) (i' : ArgI) q, is[m]? = some i' → i'.wb = some (r, q) → m ∈ prsOf p ∧ ∃ k prs, p = .val k prs ∧ ∀ b ∈ i'.bt, b ∉ k.tys
  prw : ∀ (j : Nat) (p : PSh), ps[j]? = some p → ∀ m ∈ prsOf p, ∃ (i' : ArgI) (q : Nat × List Stp × List TypeId × List TypeId), is[m]? = some i' ∧ i'.wb = some q

theorem flatMap_apart {A : Type} {f : A → List Nat} : ∀ {l : List A} {i j : Nat} {x y : A}, (l.flatMap f).Nodup → l[i]? = some x → l[j]? = some y → i ≠ j → ∀ b ∈ f x, b ∉ f y := by
  intro l
  induction l with
  | nil => intro i j x y _ h; simp at h
  | cons z l ih =>
    intro i j x y hnd hi hj hne b hb hb'
    simp only [List.flatMap_cons] at hnd
    have n := List.nodup_append.1 hnd
    cases i with
    | zero =>
      simp only [List.getElem?_cons_zero, Option.some.injEq] at hi
      subst hi
      cases j with
      | zero => exact hne rfl
      | succ j => exact n.2.2 b hb b (List.mem_flatMap.2 ⟨y, List.mem_of_getElem? (by simpa using hj), hb'⟩) rfl
    | succ i =>
      cases j with
      | zero =>
        simp only [List.getElem?_cons_zero, Option.some.injEq] at hj
        subst hj
        exact n.2.2 b hb' b (List.mem_flatMap.2 ⟨x, List.mem_of_getElem? (by simpa using hi), hb⟩) rfl
      | succ j => exact ih n.2.1 (by simpa using hi) (by simpa using hj) (by omega) b hb hb'

/-- Of an argument that is lent: the place. -/
theorem wb_place {p : PSh} {cj : Cont p.kin} {v : Value} {i : ArgI} {g : GA} (h : GJ1 cx σ α F a w p cj v i g) (hw : g.wb = true) :
    ∃ (k : K) (x : El k) (ow wt ht : List TypeId) (r : Nat) (R : Root) (q : List Stp) (wh : Option (Nat × Nat)), ((p = .rw k ow wt ht ∧ i.bt = [lastTy R q] ∧ ∃ b o, wh = some (b, o) ∧ v = .pointer (some ⟨b, o, none⟩) ∧ g.base = some (b, o) ∧ b ∉ g.fo) ∨ (p = .brw k ow wt ∧ ht = [] ∧ i.bt = [] ∧ VC k v g.cs ∧ g.base = none)) ∧
      PlG cx σ α w k x ow i wt ht r R q ∧ navF (hp w) q R.k (α.hdr r) (whR α R r) = some (g.cs, wh) ∧ Ow (hp w) R.own (okT cx σ α F w R.tags) k x g.cs g.fo ∧ (∀ b ∈ g.fo, b ∈ α.fo r) ∧ g.fo.Nodup ∧ g.ow = false ∧ g.v = v := by
  obtain ⟨hv, h⟩ := h
  cases p with
  | val k prs => rw [h.2.1] at hw; simp at hw
  | ro k => rw [h.2.1] at hw; simp at hw
  | rw k ow wt ht =>
    obtain ⟨h1, h2, r, R, q, b, o, h3, h4, h5, h6, h7, h8, h9, h10, h11, _⟩ := h
    exact ⟨k, cj.1, ow, wt, ht, r, R, q, some (b, o), .inl ⟨rfl, h4, b, o, rfl, h6, h7, h11⟩, h3, h5, h8, h9, h10, h1, hv⟩
  | brw k ow wt =>
    obtain ⟨h1, h2, r, R, q, wh, h3, h4, h5, h6, h7, h8, h9, h10, _⟩ := h
    exact ⟨k, cj.1, ow, wt, [], r, R, q, wh, .inr ⟨rfl, rfl, h4, h6, h7⟩, h3, h5, h8, h9, h10, h1, hv⟩
  | own k ow => rw [h.2.1] at hw; simp at hw
  | fn f ks => rw [h.2.1] at hw; simp at hw
  | into j q => exact h.elim

/-- What a root of the callee is. -/
structure RD (cx : Cx) (σ : St) (α : Asg) (F : List Nat) (w : World) (ps : List PSh) (vs : List Value) (is : List ArgI) (gs : List GA) (j : Nat) (R : Root) (g : GA) (i : ArgI) (p : PSh) : Prop where
  hg : gs[j]? = some g
  hi : is[j]? = some i
  hq : ps[j]? = some p
  hv : vs[j]? = some g.v
  held : g.ow = true ∨ g.wb = true
  prs : prsOf p = []
  nval : ∀ k prs, p ≠ .val k prs
  lw : R.w = []
  lh : R.h = []
  g0 : R.g = 0
  ew : R.ew = []
  eh : R.eh = []
  tags : R.tags = bif R.k.tys.all (fun t => memN t R.own) then [] else [(extR j, 0)]
  ow : Ow (hp w) R.own (okT cx σ α F w i.ids) R.k R.x g.cs g.fo
  nd : g.fo.Nodup
  kind : (R.kind = .par ∧ sizeP p = R.k.size ∧ g.wb = true ∧ ∃ b o, g.base = some (b, o) ∧ b ∉ g.fo) ∨ (R.kind = .anon ∧ g.base = none ∧ VC R.k g.v g.cs)

theorem init_root {p : PSh} {cj : Cont p.kin} {v : Value} {i : ArgI} {g : GA} {j : Nat} {R : Root} (h : GJ1 cx σ α F a w p cj v i g) (hg : gs[j]? = some g) (hi : is[j]? = some i) (hp : ps[j]? = some p) (hv : vs[j]? = some v) (hR : initRoot p j cj = some R) : RD cx σ α F w ps vs is gs j R g i p := by
  obtain ⟨h0, h⟩ := h
  subst h0
  have hall : ∀ {k : K} {ow own : List TypeId}, ownsJust k own ow = true → ∀ t ∈ k.tys, memN t ow = memN t own := fun hj t ht => by
    have := List.all_eq_true.1 hj t ht
    exact (by simpa using this : memN t _ = memN t _).symm
  cases p with
  | rw k ow wt ht =>
    obtain ⟨h1, h2, r, R0, q, b, o, h3, h4, h5, h6, h7, h8, h9, h10, h11, _⟩ := h
    simp only [initRoot, Option.some.injEq] at hR
    subst hR
    refine ⟨hg, hi, hp, hv, .inr h2, rfl, by simp, rfl, rfl, rfl, rfl, rfl, rfl, ?_, h10, .inl ⟨rfl, rfl, h2, b, o, h7, h11⟩⟩
    rw [h3.ids]
    exact Ow_same (hall h3.just) h8
  | brw k ow wt =>
    obtain ⟨h1, h2, r, R0, q, wh, h3, h4, h5, h6, h7, h8, h9, h10, _⟩ := h
    simp only [initRoot, Option.some.injEq] at hR
    subst hR
    refine ⟨hg, hi, hp, hv, .inr h2, rfl, by simp, rfl, rfl, rfl, rfl, rfl, rfl, ?_, h10, .inr ⟨rfl, h7, h6⟩⟩
    rw [h3.ids]
    exact Ow_same (hall h3.just) h8
  | own k ow =>
    obtain ⟨h1, h2, h3, h4, h5, h6, h7, h8⟩ := h
    simp only [initRoot, Option.some.injEq] at hR
    subst hR
    exact ⟨hg, hi, hp, hv, .inl h1, rfl, by simp, rfl, rfl, rfl, rfl, rfl, rfl, h6, h8, .inr ⟨rfl, h4, h5⟩⟩
  | val k prs => simp [initRoot] at hR
  | ro k => simp [initRoot] at hR
  | fn f ks => simp [initRoot] at hR
  | into j q => exact h.elim

theorem held_root {p : PSh} {cj : Cont p.kin} {v : Value} {i : ArgI} {g : GA} (j : Nat) (h : GJ1 cx σ α F a w p cj v i g) (hh : g.ow = true ∨ g.wb = true) : ∃ R, initRoot p j cj = some R := by
  obtain ⟨h0, h⟩ := h
  cases p with
  | rw k ow wt ht => exact ⟨_, rfl⟩
  | brw k ow wt => exact ⟨_, rfl⟩
  | own k ow => exact ⟨_, rfl⟩
  | val k prs => rcases hh with hh | hh <;> simp [h.1, h.2.1] at hh
  | ro k => rcases hh with hh | hh <;> simp [h.1, h.2.1] at hh
  | fn f ks => rcases hh with hh | hh <;> simp [h.1, h.2.1] at hh
  | into j q => exact h.elim

/-- Blocks of what is handed in. -/
theorem foot_at (H : Rel cx σ α F a w) {p : PSh} {cj : Cont p.kin} {v : Value} {i : ArgI} {g : GA} (h : GJ1 cx σ α F a w p cj v i g) : (∀ b ∈ footG g, (g.ow = true ∧ b ∈ F) ∨ (g.wb = true ∧ ∃ r R q, i.wb = some (r, q) ∧ liveR σ r R ∧ b ∈ blk α R r)) ∧
    (∀ b o, g.base = some (b, o) → ∃ r R q arr e lo hi, i.wb = some (r, q) ∧ liveR σ r R ∧ b ∈ blk α R r ∧ hp w b = some (.cells arr e (lo, hi)) ∧ (∀ i, i < arr.size → ¬ (lo ≤ i ∧ i < hi)) ∧ o + sizeP p ≤ arr.size ∧ Cells (hp w) b o g.cs ∧ ((∀ t ∈ i.bt, t = e) ∧ i.bt ≠ [] ∧ ¬ isBase cx b ∨ isBase cx b)) ∧
    (∀ b ∈ g.fo, g.wb = true → ∃ r R q, i.wb = some (r, q) ∧ liveR σ r R ∧ b ∈ α.fo r) ∧ (g.wb = true ↔ i.wb ≠ none) := by
  obtain ⟨hv, h⟩ := h
  cases p with
  | val k prs =>
    obtain ⟨h1, h2, h3, h4, h5, _⟩ := h
    exact ⟨fun b hb => by simp [footG, h4, h5] at hb, fun b o hb => by rw [h5] at hb; simp at hb, fun b hb => by rw [h4] at hb; simp at hb, by simp [h2, h3]⟩
  | ro k =>
    obtain ⟨h1, h2, h3, h4, h5, _⟩ := h
    exact ⟨fun b hb => by simp [footG, h4, h5] at hb, fun b o hb => by rw [h5] at hb; simp at hb, fun b hb => by rw [h4] at hb; simp at hb, by simp [h2, h3]⟩
  | fn f ks =>
    obtain ⟨h1, h2, h3, h4, h5, _⟩ := h
    exact ⟨fun b hb => by simp [footG, h4, h5] at hb, fun b o hb => by rw [h5] at hb; simp at hb, fun b hb => by rw [h4] at hb; simp at hb, by simp [h2, h3]⟩
  | own k ow =>
    obtain ⟨h1, h2, h3, h4, h5, h6, h7, h8⟩ := h
    exact ⟨fun b hb => .inl ⟨h1, h7 b (by simpa [footG, h4] using hb)⟩, fun b o hb => by rw [h4] at hb; simp at hb, fun b hb hw => by rw [h2] at hw; simp at hw, by simp [h2, h3]⟩
  | brw k ow wt =>
    obtain ⟨h1, h2, r, R, q, wh, h3, h4, h5, h6, h7, h8, h9, h10, _⟩ := h
    have hf : ∀ b ∈ g.fo, b ∈ blk α R r := fun b hb => List.mem_append_right _ (h9 b hb)
    exact ⟨fun b hb => .inr ⟨h2, r, R, _, h3.wb, h3.lv, hf b (by simpa [footG, h7] using hb)⟩, fun b o hb => by rw [h7] at hb; simp at hb, fun b hb _ => ⟨r, R, _, h3.wb, h3.lv, h9 b hb⟩, by simp [h2, h3.wb]⟩
  | rw k ow wt ht =>
    obtain ⟨h1, h2, r, R, q, b, o, h3, h4, h5, h6, h7, h8, h9, h10, h11, _⟩ := h
    have hf : ∀ b ∈ g.fo, b ∈ blk α R r := fun b hb => List.mem_append_right _ (h9 b hb)
    obtain ⟨m1, _, m2, ⟨arr, e, lo, hi, m3, m4, m5, m6⟩, _⟩ := placeMem H h3.lv h3.vl h3.get h3.pin h3.own h5
    refine ⟨fun b' hb => ?_, fun b' o' hb => ?_, fun b hb _ => ⟨r, R, _, h3.wb, h3.lv, h9 b hb⟩, by simp [h2, h3.wb]⟩
    · refine .inr ⟨h2, r, R, _, h3.wb, h3.lv, ?_⟩
      simp only [footG, h7, List.cons_append, List.nil_append, List.mem_cons] at hb
      rcases hb with hb | hb
      · subst hb; exact m2
      · exact hf b' hb
    · rw [h7] at hb
      simp only [Option.some.injEq, Prod.mk.injEq] at hb
      obtain ⟨rfl, rfl⟩ := hb
      refine ⟨r, R, _, arr, e, lo, hi, h3.wb, h3.lv, m2, m3, m4, m5, m1, ?_⟩
      rcases m6 with ⟨m6, m7⟩ | ⟨m6, _⟩
      · exact .inl ⟨fun t ht => by rw [h4] at ht; simp only [List.mem_singleton] at ht; rw [ht, m6], by rw [h4]; simp, m7⟩
      · exact .inr m6
  | into j q => exact h.elim

end
end Go.Proofs.YtcelknaomealbaaDoor.Ow

/- The framework, part 46: the callee's first relation. Own work of this seat. -/
namespace Go.Proofs.YtcelknaomealbaaDoor.Ow
open Go

variable [Fr]

section
variable {P : Program} {T : Tab} {cx : Cx} {σ : St} {α : Asg} {F : List Nat} {a : Act} {w : World} {ps : List PSh} {c : Cont (kin ps)} {vs : List Value} {is : List ArgI} {gs : List GA}

theorem calleeAsg_at {j : Nat} {g : GA} (h : gs[j]? = some g) : (calleeAsg gs).loc (parR j) = g.base.getD (0, 0) ∧ (calleeAsg gs).hdr (parR j) = g.cs ∧ (calleeAsg gs).fo (parR j) = g.fo := by
  simp [calleeAsg, parR_div, h]

theorem RD.blk {j : Nat} {R : Root} {g : GA} {i : ArgI} {p : PSh} (D : RD cx σ α F w ps vs is gs j R g i p) : blk (calleeAsg gs) R (parR j) = footG g := by
  obtain ⟨h1, h2, h3⟩ := calleeAsg_at D.hg
  unfold Ow.blk footG whR
  rw [h1, h3]
  rcases D.kind with ⟨hk, _, _, b, o, hb, _⟩ | ⟨hk, hb, _⟩
  · rw [hk, hb]; rfl
  · rw [hk, hb]

theorem RD.wh {j : Nat} {R : Root} {g : GA} {i : ArgI} {p : PSh} (D : RD cx σ α F w ps vs is gs j R g i p) : whR (calleeAsg gs) R (parR j) = g.base := by
  obtain ⟨h1, h2, h3⟩ := calleeAsg_at D.hg
  unfold whR
  rw [h1]
  rcases D.kind with ⟨hk, _, _, b, o, hb, _⟩ | ⟨hk, hb, _⟩
  · rw [hk, hb]; rfl
  · rw [hk, hb]

theorem RD.live {j : Nat} {R : Root} {g : GA} {i : ArgI} {p : PSh} (D : RD cx σ α F w ps vs is gs j R g i p) : R.isDead = false := by
  unfold Root.isDead
  rcases D.kind with ⟨hk, _⟩ | ⟨hk, _⟩ <;> rw [hk]

theorem initRel (H : Rel cx σ α F a w) (hJ : GJs cx σ α F a w ps c vs is gs) (hA : Apart cx σ α F w ps is gs) : Rel (calleeCx cx σ α F w ps c is gs) (initSt ps c) (calleeAsg gs) [] ⟨vs.toArray, []⟩ w := by
  obtain ⟨lv, li, lg, hat⟩ := hJ.at (i0 := 0)
  simp only [Nat.zero_add] at hat
  -- what a root is
  have hroot : ∀ {r : Nat} {R : Root}, (initSt ps c).roots r = some R → ∃ j g i p, r = parR j ∧ RD cx σ α F w ps vs is gs j R g i p := by
    intro r R h
    obtain ⟨j, p, h1, h2⟩ := lookR_par (show lookR (initR ps 0 c) r = some R from h)
    simp only [Nat.zero_add] at h1
    subst h1
    obtain ⟨cj, v, i, g, e1, e2, e3, e4, e5, e6⟩ := hat j p h2
    have hR : initRoot p j cj = some R := by rw [← e6]; exact h
    exact ⟨j, g, i, p, rfl, init_root e4 e3 e2 h2 e1 hR⟩
  have hrootj : ∀ {j : Nat} {R : Root}, (initSt ps c).roots (parR j) = some R → ∃ g i p, RD cx σ α F w ps vs is gs j R g i p := by
    intro j R h
    obtain ⟨j', g, i, p, h1, h2⟩ := hroot h
    have := parR_inj h1
    subst this
    exact ⟨g, i, p, h2⟩
  have hmk : ∀ {j : Nat} {g : GA}, gs[j]? = some g → (g.ow = true ∨ g.wb = true) → ∃ R i p, (initSt ps c).roots (parR j) = some R ∧ RD cx σ α F w ps vs is gs j R g i p := by
    intro j g hg hh
    have hj : j < ps.length := by have := (List.getElem?_eq_some_iff.1 hg).1; omega
    obtain ⟨cj, v, i, g', e1, e2, e3, e4, e5, e6⟩ := hat j ps[j] (List.getElem?_eq_getElem hj)
    rw [hg] at e3
    simp only [Option.some.injEq] at e3
    subst e3
    obtain ⟨R, hR⟩ := held_root j e4 hh
    have hr : (initSt ps c).roots (parR j) = some R := by show lookR (initR ps 0 c) (parR j) = some R; rw [e6, hR]
    exact ⟨R, i, ps[j], hr, init_root e4 hg e2 (List.getElem?_eq_getElem hj) e1 hR⟩
  -- by index
  have hgj : ∀ {j : Nat} {g : GA}, gs[j]? = some g → ∃ p cj v i, ps[j]? = some p ∧ vs[j]? = some v ∧ is[j]? = some i ∧ GJ1 cx σ α F a w p cj v i g := by
    intro j g hg
    have hj : j < ps.length := by have := (List.getElem?_eq_some_iff.1 hg).1; omega
    obtain ⟨cj, v, i, g', e1, e2, e3, e4, _⟩ := hat j ps[j] (List.getElem?_eq_getElem hj)
    rw [hg] at e3
    simp only [Option.some.injEq] at e3
    subst e3
    exact ⟨ps[j], cj, v, i, List.getElem?_eq_getElem hj, e1, e2, e4⟩
  have hfoot : ∀ {j : Nat} {g : GA} {b : Nat}, gs[j]? = some g → b ∈ footG g → (g.ow = true ∧ b ∈ F) ∨ (g.wb = true ∧ ∃ i r R q, is[j]? = some i ∧ i.wb = some (r, q) ∧ liveR σ r R ∧ b ∈ blk α R r) := by
    intro j g b hg hb
    obtain ⟨p, cj, v, i, e1, e2, e3, e4⟩ := hgj hg
    rcases (foot_at H e4).1 b hb with h | ⟨h, r, R, q, h1⟩
    · exact .inl h
    · exact .inr ⟨h, i, r, R, q, e3, h1⟩
  have hmn : ∀ {j : Nat} {g : GA} {b : Nat}, gs[j]? = some g → b ∈ footG g → mine cx w b := by
    intro j g b hg hb
    rcases hfoot hg hb with ⟨_, h⟩ | ⟨_, i, r, R, q, _, _, h1, h2⟩
    · exact H.fl b h
    · exact (H.roots r R h1).mine b h2
  have hlt : ∀ {j : Nat} {g : GA} {b : Nat}, gs[j]? = some g → b ∈ footG g → b < w.heap.size := fun hg hb => (hmn hg hb).1
  have hownfo : ∀ {j : Nat} {g : GA} {b : Nat}, gs[j]? = some g → g.ow = true → b ∈ footG g → b ∈ g.fo := by
    intro j g b hg ho hb
    obtain ⟨p, cj, v, i, e1, e2, e3, e4⟩ := hgj hg
    unfold footG at hb
    cases hbase : g.base with
    | none => rw [hbase] at hb; simpa using hb
    | some q =>
      exfalso
      obtain ⟨q1, q2⟩ := q
      obtain ⟨r, R, q, _, _, _, _, h1, _⟩ := (foot_at H e4).2.1 q1 q2 hbase
      have hw : g.wb = true := (foot_at H e4).2.2.2.2 (by rw [h1]; simp)
      obtain ⟨_, h⟩ := e4
      cases p <;> first | (obtain ⟨g1, g2, _⟩ := h; rw [ho] at g1; simp at g1; done) | (obtain ⟨g1, g2, _⟩ := h; rw [hw] at g2; simp at g2; done) | exact h.elim
  have hdis : ∀ {j j' : Nat} {g g' : GA} {b : Nat}, gs[j]? = some g → gs[j']? = some g' → j ≠ j' → b ∈ footG g → b ∉ footG g' := by
    intro j j' g g' b hg hg' hne hb hb'
    rcases hfoot hg hb with ⟨ho, h⟩ | ⟨hw, i, r, R, q, _, _, h1, h2⟩
    · rcases hfoot hg' hb' with ⟨ho', h'⟩ | ⟨_, i', r', R', q', _, _, h1', h2'⟩
      · refine flatMap_apart hA.own hg hg' hne b ?_ ?_
        · rw [ho]; exact hownfo hg ho hb
        · rw [ho']; exact hownfo hg' ho' hb'
      · exact H.fdis r' R' h1' b h2' h
    · rcases hfoot hg' hb' with ⟨_, h'⟩ | ⟨hw', _⟩
      · exact H.fdis r R h1 b h2 h'
      · exact hne (hA.one j j' g g' hg hg' hw hw')
  have hnd : ∀ {j : Nat} {R : Root} {g : GA} {i : ArgI} {p : PSh}, RD cx σ α F w ps vs is gs j R g i p → (footG g).Nodup := by
    intro j R g i p D
    unfold footG
    rcases D.kind with ⟨_, _, _, b, o, hb, hno⟩ | ⟨_, hb, _⟩
    · rw [hb]; exact List.nodup_cons.2 ⟨hno, D.nd⟩
    · rw [hb]; exact D.nd
  -- a block of a caller's view
  have hviewfo : ∀ {j m : Nat} {i : ArgI} {p : PSh} {g : GA} {b : Nat}, is[j]? = some i → ps[j]? = some p → okQ σ α F w i.ids b → gs[m]? = some g → b ∈ footG g → m ∈ prsOf p ∧ (∃ k prs, p = .val k prs ∧ ∀ i', is[m]? = some i' → ∀ t ∈ i'.bt, t ∉ k.tys) := by
    intro j m i p g b hi hp hb hg hbf
    rcases hfoot hg hbf with ⟨_, h⟩ | ⟨_, i', r, R, q, h0, h1, h2, h3⟩
    · exact absurd h hb.2.1
    · obtain ⟨n, hn⟩ := hb.2.2 r R h2 h3
      obtain ⟨g1, k, prs, g2, g3⟩ := hA.prs j p i r n hp hi hn m i' q h0 h1
      refine ⟨g1, k, prs, g2, fun i'' h => ?_⟩
      rw [h0] at h
      simp only [Option.some.injEq] at h
      subst h
      exact g3
  have hext : ∀ {j : Nat} {i : ArgI} {p : PSh} {b : Nat}, is[j]? = some i → ps[j]? = some p → okT cx σ α F w i.ids b → (∀ k prs, p = .val k prs → ∃ t ∈ k.tys, elIs (hp w) b t) → (calleeCx cx σ α F w ps c is gs).ext j b := by
    intro j i p b hi hp hb ht
    refine ⟨⟨i, hi, hb⟩, fun m g q hg hbase e => ?_⟩
    have hbf : b ∈ footG g := by unfold footG; rw [hbase, e]; simp
    obtain ⟨_, k, prs, h1, h2⟩ := hviewfo hi hp hb.q hg hbf
    obtain ⟨p', cj, v, i', e1, e2, e3, e4⟩ := hgj hg
    obtain ⟨r, R, q', arr, e', lo, hi', f1, f2, f3, f4, f5, f6, f7, f8⟩ := (foot_at H e4).2.1 q.1 q.2 (by rw [hbase])
    rcases f8 with ⟨f8, f9, f10⟩ | f8
    · obtain ⟨t, ht1, ht2⟩ := ht k prs h1
      have ht2 := H.tyOf (hmn hg hbf) ht2
      rw [e] at ht2
      unfold elTy at ht2
      rw [f4] at ht2
      simp only [Option.some.injEq] at ht2
      cases hbt : i'.bt with
      | nil => exact f9 hbt
      | cons t0 l =>
        have hm : t0 ∈ i'.bt := by rw [hbt]; simp
        exact h2 i' e3 t0 hm (by rw [f8 t0 hm, ht2]; exact ht1)
    · exact hb.2.2.1 (e ▸ f8)
  have hokT : ∀ {j : Nat} {i : ArgI} {p : PSh} {b : Nat} {T : List Tag}, is[j]? = some i → ps[j]? = some p → (calleeCx cx σ α F w ps c is gs).ext j b → (extR j, 0) ∈ T → (∀ n ∈ prsOf p, (parR n, 0) ∈ T) → okT (calleeCx cx σ α F w ps c is gs) (initSt ps c) (calleeAsg gs) [] w T b := by
    intro j i p b T hi hp hb ht hpr
    obtain ⟨⟨i', hi', hok⟩, hno⟩ := hb
    rw [hi] at hi'
    simp only [Option.some.injEq] at hi'
    subst hi'
    refine ⟨hok.1, by simp, ?_, fun r R hr hbr => ?_, fun _ => .inl ⟨j, 0, ht, ⟨i, hi, hok⟩, hno⟩⟩
    · rintro ⟨m, pi, o, n, h1, h2⟩
      simp only [calleeCx] at h1
      cases hgm : gs[m]? with
      | none => rw [hgm] at h1; simp at h1
      | some g =>
        cases hpm : ps[m]? with
        | none => rw [hgm, hpm] at h1; simp at h1
        | some pm =>
          rw [hgm, hpm] at h1
          simp only at h1
          cases hh : (g.ow || g.wb) with
          | false => rw [hh] at h1; simp at h1
          | true =>
            rw [hh] at h1
            simp only [cond_true, Option.some.injEq] at h1
            subst h1
            simp only at h2
            cases hbase : g.base with
            | none => rw [hbase] at h2; simp at h2
            | some q =>
              rw [hbase] at h2
              simp only [Option.map_some, Option.some.injEq, Prod.mk.injEq] at h2
              exact hno m g q hgm hbase h2.1.symm
    · obtain ⟨m, g, im, pm, h1, D⟩ := hroot hr.1
      subst h1
      rw [D.blk] at hbr
      exact ⟨0, hpr m (hviewfo hi hp hok.q D.hg hbr).1⟩
  have hokQ : ∀ {j : Nat} {i : ArgI} {p : PSh} {b : Nat}, is[j]? = some i → ps[j]? = some p → (∀ k prs, p ≠ .val k prs) → okQ σ α F w i.ids b → okQ (initSt ps c) (calleeAsg gs) [] w [(extR j, 0)] b := by
    intro j i p b hi hp hnv hb
    refine ⟨hb.1, by simp, fun r R hr hbr => ?_⟩
    obtain ⟨m, g, im, pm, h1, D⟩ := hroot hr.1
    subst h1
    rw [D.blk] at hbr
    obtain ⟨_, k, prs, h2, _⟩ := hviewfo hi hp hb D.hg hbr
    exact absurd h2 (hnv k prs)
  have hpar : ∀ {j : Nat} {pi : ParI}, (calleeCx cx σ α F w ps c is gs).par j = some pi → ∃ g p, gs[j]? = some g ∧ ps[j]? = some p ∧ (g.ow = true ∨ g.wb = true) ∧ pi = ⟨g.base.map fun q => (q.1, q.2, sizeP p), footG g, g.wb⟩ := by
    intro j pi h1
    simp only [calleeCx] at h1
    cases hgm : gs[j]? with
    | none => rw [hgm] at h1; simp at h1
    | some g =>
      cases hpm : ps[j]? with
      | none => rw [hgm, hpm] at h1; simp at h1
      | some pm =>
        rw [hgm, hpm] at h1
        simp only at h1
        cases hh : (g.ow || g.wb) with
        | false => rw [hh] at h1; simp at h1
        | true =>
          rw [hh] at h1
          simp only [cond_true, Option.some.injEq] at h1
          exact ⟨g, pm, rfl, rfl, by simpa using hh, h1.symm⟩
  have hpar' : ∀ {j : Nat} {R : Root} {g : GA} {i : ArgI} {p : PSh}, RD cx σ α F w ps vs is gs j R g i p → (calleeCx cx σ α F w ps c is gs).par j = some ⟨g.base.map fun q => (q.1, q.2, sizeP p), footG g, g.wb⟩ := by
    intro j R g i p D
    simp only [calleeCx]
    rw [D.hg, D.hq]
    have : (g.ow || g.wb) = true := by simpa using D.held
    simp only [this, cond_true]
  have hsame : ∀ {j : Nat} {R R' : Root}, (initSt ps c).roots (parR j) = some R → (initSt ps c).roots (parR j) = some R' → R' = R := fun h1 h2 => by rw [h1] at h2; simpa using h2.symm
  -- a base's memory
  have hbm : ∀ {j : Nat} {g : GA} {p : PSh} {b o : Nat}, gs[j]? = some g → ps[j]? = some p → g.base = some (b, o) → ∃ arr e lo hi, hp w b = some (.cells arr e (lo, hi)) ∧ (∀ i, i < arr.size → ¬ (lo ≤ i ∧ i < hi)) ∧ o + sizeP p ≤ arr.size ∧ Cells (hp w) b o g.cs := by
    intro j g p b o hg hp hb
    obtain ⟨p', cj, v, i, e1, e2, e3, e4⟩ := hgj hg
    rw [hp] at e1
    simp only [Option.some.injEq] at e1
    subst e1
    obtain ⟨r, R, q', arr, e', lo, hi', f1, f2, f3, f4, f5, f6, f7, f8⟩ := (foot_at H e4).2.1 b o hb
    exact ⟨arr, e', lo, hi', f4, f5, f6, f7⟩
  -- values of the slots
  have hslot : ∀ s, AV1ok (calleeCx cx σ α F w ps c is gs) (initSt ps c) (calleeAsg gs) [] w ((initSt ps c).slots s) (vs.toArray.getD s undef) ∧ av1W (initSt ps c) ((initSt ps c).slots s) := by
    intro s
    rcases lookS_initS ps 0 c s with h | ⟨j, p, cj0, hj, hps, hs0⟩
    · have : (initSt ps c).slots s = .one .undef := h
      rw [this]
      exact ⟨trivial, trivial⟩
    · simp only [Nat.zero_add] at hj
      subst hj
      obtain ⟨cj, v, i, g, e1, e2, e3, e4, e5, e6⟩ := hat s p hps
      have hsl : (initSt ps c).slots s = .one (initAV p s cj) := e5
      have hvs : vs.toArray.getD s undef = v := by
        rw [Array.getD_eq_getD_getElem?]
        simp [e1]
      rw [hsl, hvs]
      have hro : ∀ {k : K} {x : El k} {v : Value} {b o : Nat} {cs : List Value}, (∀ k prs, p ≠ .val k prs) → v = .pointer (some ⟨b, o, none⟩) → Cells (hp w) b o cs → Vw (hp w) (okT cx σ α F w i.ids) k x cs → okQ σ α F w i.ids b → prsOf p = [] →
          roOk (calleeCx cx σ α F w ps c is gs) (initSt ps c) (calleeAsg gs) [] w SENT k x [(extR s, 0)] v := by
        intro k x v b o cs hnv hv hC hV hq hpr
        refine ⟨⟨b, o, hv⟩, fun _ => ⟨b, o, cs, hv, hC, Vw_mono (fun _ _ => rfl) (fun b hb => ?_) hV, hokQ e2 hps hnv hq, .inl ⟨rfl, fun t ht => by simp only [List.mem_singleton] at ht; subst ht; exact isExt_extR s⟩⟩⟩
        exact hokT e2 hps (hext e2 hps hb (fun k prs h => absurd h (hnv k prs))) (by simp) (by rw [hpr]; simp)
      have hrefw : ∀ {R : Root}, initRoot p s cj = some R → avW (initSt ps c) (.ref (parR s) 0) ∧ avW (initSt ps c) (.ptr (parR s) [] 0) := by
        intro R hR
        have hr : (initSt ps c).roots (parR s) = some R := by show lookR (initR ps 0 c) (parR s) = some R; rw [e6, hR]
        exact ⟨⟨R, hr, .inr (Nat.zero_le _)⟩, ⟨R, hr, .inr (Nat.zero_le _)⟩⟩
      have hext1 : tagsW (initSt ps c) [(extR s, 0)] := fun t ht => by simp only [List.mem_singleton] at ht; subst ht; exact .inl (isExt_extR s)
      have href : ∀ {R : Root}, initRoot p s cj = some R → R.kind = .anon → AVok (calleeCx cx σ α F w ps c is gs) (initSt ps c) (calleeAsg gs) [] w (.ref (parR s) 0) v := by
        intro R hR hk Q hQ _
        have hr : (initSt ps c).roots (parR s) = some R := by show lookR (initR ps 0 c) (parR s) = some R; rw [e6, hR]
        have D := init_root e4 e3 e2 hps e1 hR
        have hQR := hsame hr hQ.1
        subst hQR
        rcases D.kind with ⟨hk', _⟩ | ⟨_, _, hV⟩
        · rw [hk] at hk'; simp at hk'
        · refine ⟨hk, ?_⟩
          rw [(calleeAsg_at D.hg).2.1, ← e4.1]
          exact hV
      cases p with
      | val k prs =>
        obtain ⟨h0, h1, h2, h3, h4, h5, h6, h7⟩ := e4
        refine ⟨fun hc => ⟨g.cs, h6, ?_⟩, ?_⟩
        · cases hf : k.flat with
          | true => exact Vw_flat hf h7
          | false =>
            rw [show (initAV (.val k prs) s cj) = .val k cj.1 ((extR s, 0) :: prs.map fun j => (parR j, 0)) by simp [initAV, hf]] at *
            refine Vw_mono (fun _ _ => rfl) (fun b hb => ?_) (Vw_tys k.tys (fun _ h => h) h7)
            refine hokT e2 hps (hext e2 hps hb.1 (fun k' prs' h => by simp only [PSh.val.injEq] at h; obtain ⟨rfl, _⟩ := h; exact hb.2)) (by simp) (fun n hn => by exact List.mem_cons_of_mem _ (List.mem_map.2 ⟨n, hn, rfl⟩))
        · intro t ht
          cases hf : k.flat with
          | true => simp [initAV, hf] at ht
          | false =>
            simp only [initAV, hf, cond_false, List.mem_cons, List.mem_map] at ht
            rcases ht with ht | ⟨m, hm, ht⟩
            · subst ht; exact .inl (isExt_extR s)
            · subst ht
              obtain ⟨i', q, f1, f2⟩ := hA.prw s _ hps m hm
              have hm' : m < gs.length := by have := (List.getElem?_eq_some_iff.1 f1).1; omega
              obtain ⟨p', cj', v', i'', k1, k2, k3, k4⟩ := hgj (List.getElem?_eq_getElem hm')
              rw [f1] at k3
              simp only [Option.some.injEq] at k3
              subst k3
              obtain ⟨R, _, _, hR, _⟩ := hmk (List.getElem?_eq_getElem hm') (.inr ((foot_at H k4).2.2.2.2 (by rw [f2]; simp)))
              exact .inr ⟨R, hR, .inr (Nat.zero_le _)⟩
      | ro k =>
        obtain ⟨h0, h1, h2, h3, h4, h5, b, o, h6, h7, h8, h9⟩ := e4
        exact ⟨hro (by simp) h6 h7 h8 h9 rfl, hext1⟩
      | rw k ow wt ht =>
        obtain ⟨R, hR⟩ := held_root s e4 (.inr e4.2.2.1)
        have hr : (initSt ps c).roots (parR s) = some R := by show lookR (initR ps 0 c) (parR s) = some R; rw [e6, hR]
        have D := init_root e4 e3 e2 hps e1 hR
        obtain ⟨h0, h1, h2, r, R0, q, b, o, h3, h4, h5, h6, h7, _⟩ := e4
        refine ⟨⟨⟨b, o, h6⟩, fun Q hQ _ _ _ _ => ⟨trivial, g.cs, b, o, ?_, h6⟩⟩, (hrefw hR).2⟩
        have hQR := hsame hr hQ
        subst hQR
        simp only [navF]
        rw [D.wh, h7, (calleeAsg_at D.hg).2.1]
      | brw k ow wt =>
        obtain ⟨R, hR⟩ := held_root s e4 (.inr e4.2.2.1)
        exact ⟨href hR (by simp only [initRoot, Option.some.injEq] at hR; subst hR; rfl), (hrefw hR).1⟩
      | own k ow =>
        obtain ⟨R, hR⟩ := held_root s e4 (.inl e4.2.1)
        exact ⟨href hR (by simp only [initRoot, Option.some.injEq] at hR; subst hR; rfl), (hrefw hR).1⟩
      | fn f ks =>
        obtain ⟨h0, h1, h2, h3, h4, h5, us, h6, h7⟩ := e4
        have hcaps : ∀ (ks : List K) (c0 : Cont ks) (us : List Value), GJ1.CapsJ cx σ α F w ks c0 us i.ids → capsOk (calleeCx cx σ α F w ps c is gs) (initSt ps c) (calleeAsg gs) [] w (initS.capsOf s ks c0) us := by
          intro ks
          induction ks with
          | nil => intro c0 us h; cases us with
            | nil => exact trivial
            | cons _ _ => exact h.elim
          | cons k ks ih => intro c0 us h; cases us with
            | nil => exact h.elim
            | cons u us =>
              obtain ⟨⟨b, o, cs, g1, g2, g3, g4⟩, g5⟩ := h
              exact ⟨hro (by simp) g1 g2 g3 g4 rfl, ih c0.2 us g5⟩
        have hcapsW : ∀ (ks : List K) (c0 : Cont ks), ∀ q ∈ initS.capsOf s ks c0, tagsW (initSt ps c) q.2.2 := by
          intro ks
          induction ks with
          | nil => intro c0 q hq; simp [initS.capsOf] at hq
          | cons k ks ih => intro c0 q hq; rcases List.mem_cons.1 hq with h | h
                            · subst h; exact hext1
                            · exact ih c0.2 q h
        exact ⟨⟨us, h6, hcaps ks cj us h7⟩, hcapsW ks cj⟩
      | into j q => exact e4.2.elim
  constructor
  · rfl
  · exact Nat.zero_le _
  · intro j pi b o n hj hb
    obtain ⟨g, p, hg, hp, hh, rfl⟩ := hpar hj
    obtain ⟨R, i, p', hr, D⟩ := hmk hg hh
    have : p' = p := by have := D.hq; rw [hp] at this; simpa using this.symm
    subst this
    simp only at hb
    cases hbase : g.base with
    | none => rw [hbase] at hb; simp at hb
    | some q =>
      rw [hbase] at hb
      simp only [Option.map_some, Option.some.injEq, Prod.mk.injEq] at hb
      obtain ⟨rfl, rfl, rfl⟩ := hb
      rcases D.kind with ⟨hk, hs, _⟩ | ⟨_, hn, _⟩
      · refine ⟨R, ⟨hr, D.live⟩, hk, ?_, hs.symm⟩
        rw [(calleeAsg_at hg).1, hbase]
        rfl
      · rw [hbase] at hn; simp at hn
  · intro r R hr hk
    obtain ⟨j, g, i, p, rfl, D⟩ := hroot hr.1
    rcases D.kind with ⟨_, hs, _, b, o, hb, _⟩ | ⟨hk', _⟩
    · refine ⟨j, _, sizeP p, rfl, hpar' D, ?_⟩
      rw [(calleeAsg_at D.hg).1, hb]
      rfl
    · rw [hk] at hk'; simp at hk'
  · exact fun s => (hslot s).1
  · exact fun s => (hslot s).2
  · intro r R hr
    obtain ⟨j, g, i, p, rfl, D⟩ := hroot hr.1
    obtain ⟨a1, a2, a3⟩ := calleeAsg_at D.hg
    refine ⟨fun _ => ?_, by rw [a2]; exact Ow_len D.ow, fun b o hb => ?_, by rw [D.blk]; exact hnd D, fun b hb => ?_⟩
    · rw [a2, a3]
      have htg := D.tags
      cases hall : (R.k.tys.all fun t => memN t R.own) with
      | true => exact Ow_own (vtysK_all (memN_all hall)) D.ow
      | false =>
        rw [hall] at htg
        refine Ow_mono (fun _ _ => rfl) (fun b hb => ?_) (fun _ _ => rfl) D.ow
        exact hokT D.hi D.hq (hext D.hi D.hq hb (fun k prs h => absurd h (D.nval k prs))) (by rw [htg]; simp) (by rw [D.prs]; simp)
    · rw [D.wh] at hb
      obtain ⟨arr, e, lo, hi, m1, m2, m3, m4⟩ := hbm D.hg D.hq hb
      rw [a2]
      rcases D.kind with ⟨hk, hs, _⟩ | ⟨_, hn, _⟩
      · exact ⟨m4, arr, e, lo, hi, m1, m2, by rw [← hs]; exact m3, fun t ht => by rw [hk] at ht; simp at ht⟩
      · rw [hb] at hn; simp at hn
    · rw [D.blk] at hb
      exact ⟨hlt D.hg hb, .inr ⟨j, _, hpar' D, hb⟩⟩
  · intro r R hr
    obtain ⟨j, g, i, p, rfl, D⟩ := hroot hr
    have htg := D.tags
    refine ⟨fun t ht => ?_, isExt_parR j, fun n hn => ?_⟩
    · rw [htg] at ht
      cases hall : (R.k.tys.all fun t => memN t R.own) with
      | true => rw [hall] at ht; simp at ht
      | false => rw [hall] at ht; simp only [cond_false, List.mem_singleton] at ht; subst ht; exact .inl (isExt_extR j)
    · rw [htg] at hn
      cases hall : (R.k.tys.all fun t => memN t R.own) with
      | true => rw [hall] at hn; simp at hn
      | false => rw [hall] at hn; simp only [cond_false, List.mem_singleton, Prod.mk.injEq] at hn; unfold parR extR at hn; omega
  · intro r R r' R' hr hr' hne b hb
    obtain ⟨j, g, i, p, rfl, D⟩ := hroot hr.1
    obtain ⟨j', g', i', p', rfl, D'⟩ := hroot hr'.1
    rw [D.blk] at hb
    rw [D'.blk]
    exact hdis D.hg D'.hg (fun e => hne (by rw [e])) hb
  · intro b hb; simp at hb
  · exact List.nodup_nil
  · intro r R _ b _ h; simp at h
  · refine ⟨rfl, rfl, rfl, Nat.le_refl _, fun _ _ _ => rfl, fun j pi b o n hj hb => ?_⟩
    obtain ⟨g, p, hg, hp, hh, rfl⟩ := hpar hj
    simp only at hb
    cases hbase : g.base with
    | none => rw [hbase] at hb; simp at hb
    | some q =>
      rw [hbase] at hb
      simp only [Option.map_some, Option.some.injEq, Prod.mk.injEq] at hb
      obtain ⟨rfl, rfl, rfl⟩ := hb
      obtain ⟨arr, e, lo, hi, m1, _⟩ := hbm hg hp (b := q.1) (o := q.2) (by rw [hbase])
      exact SameBut.of_same _ _ m1 rfl
  · intro j pi hj hk
    obtain ⟨g, p, hg, hp, hh, rfl⟩ := hpar hj
    obtain ⟨R, i, p', hr, D⟩ := hmk hg hh
    refine ⟨R, hr, fun _ b hb _ => .inr ⟨rfl, by simp, fun q Q hq hbq => ?_⟩⟩
    obtain ⟨j', g', i', p'', rfl, D'⟩ := hroot hq.1
    rw [D'.blk] at hbq
    by_cases e : j' = j
    · rw [e]
    · exact absurd hb (hdis D'.hg hg e hbq)
  · refine ⟨fun j pi hj b hb => ?_, fun b hb => ⟨?_, fun j pi hj hbl => ?_⟩, fun b hb => H.fixed hb⟩
    · obtain ⟨g, p, hg, hp, hh, rfl⟩ := hpar hj
      exact hlt hg hb
    · exact Nat.lt_of_lt_of_le (H.parlt.2.1 b hb).1 H.frame.2.2.2.1
    · obtain ⟨g, p, hg, hp, hh, rfl⟩ := hpar hj
      exact H.notMine (hmn hg hbl) hb
  · intro j q ts v hv
    obtain ⟨g, R0, c0, b, o, h1, h2, h3, h4, h5, h6, h7, h8⟩ := hv
    refine ⟨⟨b, o, h8⟩, R0, h3, fun _ => ⟨⟨b, o, h8⟩, fun Q hQ _ _ _ _ => ?_⟩⟩
    have hQR := hsame (show (initSt ps c).roots (parR j) = some R0 from h3) hQ
    subst hQR
    obtain ⟨g', i', p', D⟩ := hrootj hQ
    have : g' = g := by have := D.hg; rw [h1] at this; simpa using this.symm
    subst this
    refine ⟨h6, c0, b, o, ?_, h8⟩
    rw [D.wh, (calleeAsg_at D.hg).2.1]
    exact h7
  · intro j v hv
    obtain ⟨g, h1, h2, h3, h4⟩ := hv
    obtain ⟨R, i, p, hr, D⟩ := hmk h1 (.inr h4)
    refine ⟨⟨R, hr⟩, fun Q hQ _ => ?_⟩
    have hQR := hsame hr hQ.1
    subst hQR
    rcases D.kind with ⟨_, _, _, b, o, hb, _⟩ | ⟨hk, _, hV⟩
    · rw [h3] at hb; simp at hb
    · refine ⟨hk, ?_⟩
      rw [(calleeAsg_at D.hg).2.1, ← h2]
      exact hV

end
end Go.Proofs.YtcelknaomealbaaDoor.Ow

/- The framework, part 47: what a function is known to do. Own work of this seat. -/
namespace Go.Proofs.YtcelknaomealbaaDoor.Ow
open Go

variable [Fr]

/-- The results, as values. -/
def ResL (cx : Cx) (σ : St) (α : Asg) (F : List Nat) (w : World) : (rs : List RSh) → Cont (kres rs) → List Value → List (List Nat) → Prop
  | [], _, [], [] => True
  | .val k exts prs :: rs, c, v :: vs, fo :: fos => (fo = [] ∧ ∃ T cs, (k.flat = true ∨ tagsOk exts prs T = true) ∧ VC k v cs ∧ Vw (hp w) (okT cx σ α F w T) k c.1 cs) ∧ ResL cx σ α F w rs c.2 vs fos
  | .own k ow exts prs :: rs, c, v :: vs, fo :: fos => (∃ T cs own, ((k.tys.all fun t => memN t ow) = true ∨ tagsOk exts prs T = true) ∧ (∀ t ∈ k.tys, memN t ow = true → memN t own = true) ∧ VC k v cs ∧ Ow (hp w) own (okT cx σ α F w T) k c.1 cs fo) ∧ ResL cx σ α F w rs c.2 vs fos
  | _, _, _, _ => False

/-- A lent root, at the end. -/
def OutOk (σ : St) (k : K) (x : El k) (ow wt ht : List TypeId) (j : Nat) : Prop :=
  ∃ R, σ.roots (parR j) = some R ∧ validR σ R ∧ (∃ e : R.k = k, x = e ▸ R.x) ∧ ownsJust k R.own ow = true ∧ logOk R (some (wt, ht)) = true ∧ ((k.tys.all fun t => memN t ow) = true ∨ tagsOk [j] [] R.tags = true)

def OutL (σ : St) : (ps : List PSh) → Nat → Cont (kout ps) → Prop
  | [], _, _ => True
  | .rw k ow wt ht :: ps, j, c => OutOk σ k c.1 ow wt ht j ∧ OutL σ ps (j + 1) c.2
  | .brw k ow wt :: ps, j, c => OutOk σ k c.1 ow wt [] j ∧ OutL σ ps (j + 1) c.2
  | .val _ _ :: ps, j, c => OutL σ ps (j + 1) c
  | .ro _ :: ps, j, c => OutL σ ps (j + 1) c
  | .own _ _ :: ps, j, c => OutL σ ps (j + 1) c
  | .fn _ _ :: ps, j, c => OutL σ ps (j + 1) c
  | .into _ _ :: ps, j, c => OutL σ ps (j + 1) c

def tupV : List Value → Value
  | [v] => v
  | vs => .tuple vs.toArray

/-- What holds behind a call. -/
def Post (cx : Cx) (ps : List PSh) (rs : List RSh) (out : Cont (kres rs ++ kout ps)) (v : Value) (w' : World) : Prop :=
  ∃ σ α F a vs fos, Rel cx σ α F a w' ∧ v = tupV vs ∧ ResL cx σ α F w' rs (Cont.fst _ _ out) vs fos ∧ fos.flatten.Nodup ∧ (∀ b ∈ fos.flatten, b ∈ F) ∧ OutL σ ps 0 (Cont.snd _ _ out)

/-- A call that returns. -/
def CallOk (P : Program) (f : FuncId) (args : Array Value) (w : World) (R : Value → World → Prop) : Prop :=
  ((callFunc f args).run P w = .ok (.enter f args) w ∧ Calls P f args w fun e w' => ∃ v, e = .returned v ∧ R v w') ∨ ∃ v w', (callFunc f args).run P w = .ok (.value v) w' ∧ R v w'

/-- Of a parameter that is lent the types that may be written are known. -/
def LentAt (ps : List PSh) (j : Nat) (k : K) : Prop := ∃ ow wt ht, ps[j]? = some (.rw k ow wt ht) ∨ ps[j]? = some (.brw k ow wt)
structure ParsOk (cx : Cx) (ps : List PSh) : Prop where
  par : ∀ j pi, cx.par j = some pi → pi.kp = true → ∃ k, LentAt ps j k
  ptr : ∀ j p ts v, cx.ptrs j p ts v → ∃ k, LentAt ps j k ∧ ts = ptrTys p k
  ref : ∀ j v, cx.refs j v → ∃ k, LentAt ps j k

def EntryOk (P : Program) (n : Nat) (E : Entry) : Prop :=
  ∀ (c : Cont (kin E.ps)) (out : Cont (kres E.rs ++ kout E.ps)), E.F n c = some out → ∀ (cx : Cx) (α : Asg) (args : Array Value) (w : World), cx.nt = 0 → cx.w0 = w → args.size = E.ps.length → ParsOk cx E.ps →
    Rel cx (initSt E.ps c) α [] ⟨args, []⟩ w → CallOk P E.f args w (Post cx E.ps E.rs out)

section
variable {P : Program} {T : Tab} {cx : Cx} {σ : St} {α : Asg} {F : List Nat} {a : Act} {w w' : World} {ps : List PSh} {c : Cont (kin ps)} {vs : List Value} {is : List ArgI} {gs : List GA}

/-- The caller's state behind the call: whose a block is. -/
structure BackSt (σ : St) (α : Asg) (is : List ArgI) (gs : List GA) (σf : St) (αf : Asg) (Ff : List Nat) (σ' : St) (α' : Asg) (F' : List Nat) : Prop where
  blk : ∀ q Q b, liveR σ' q Q → b ∈ blk α' Q q → b ∈ Ff ∨ (∃ Q0, liveR σ q Q0 ∧ b ∈ Ow.blk α Q0 q ∧ ∀ (m : Nat) (g : GA), gs[m]? = some g → b ∉ g.fo) ∨
    ∃ (m : Nat) (i : ArgI) (R : Root) (u : List Stp × List TypeId × List TypeId), is[m]? = some i ∧ i.wb = some (q, u) ∧ liveR σf (parR m) R ∧ b ∈ Ow.blk αf R (parR m)
  F : ∀ b ∈ F', b ∈ Ff

theorem callee_par (H : Rel cx σ α F a w) (hJ : GJs cx σ α F a w ps c vs is gs) {j : Nat} {pi : ParI} (h : (calleeCx cx σ α F w ps c is gs).par j = some pi) : ∃ g p cj v i, gs[j]? = some g ∧ ps[j]? = some p ∧ is[j]? = some i ∧ GJ1 cx σ α F a w p cj v i g ∧ (g.ow = true ∨ g.wb = true) ∧ pi = ⟨g.base.map fun q => (q.1, q.2, sizeP p), footG g, g.wb⟩ := by
  obtain ⟨lv, li, lg, hat⟩ := hJ.at (i0 := 0)
  simp only [calleeCx] at h
  cases hgm : gs[j]? with
  | none => rw [hgm] at h; simp at h
  | some g =>
    cases hpm : ps[j]? with
    | none => rw [hgm, hpm] at h; simp at h
    | some pm =>
      rw [hgm, hpm] at h
      simp only at h
      cases hh : (g.ow || g.wb) with
      | false => rw [hh] at h; simp at h
      | true =>
        rw [hh] at h
        simp only [cond_true, Option.some.injEq] at h
        obtain ⟨cj, v, i, g', e1, e2, e3, e4, _⟩ := hat j pm hpm
        rw [hgm] at e3
        simp only [Option.some.injEq] at e3
        subst e3
        exact ⟨g, pm, cj, v, i, rfl, rfl, e2, e4, by simpa using hh, h.symm⟩

theorem parsOk_callee (H : Rel cx σ α F a w) (hJ : GJs cx σ α F a w ps c vs is gs) : ParsOk (calleeCx cx σ α F w ps c is gs) ps := by
  obtain ⟨lv, li, lg, hat⟩ := hJ.at (i0 := 0)
  simp only [Nat.zero_add] at hat
  have hlent : ∀ {j : Nat} {g : GA}, gs[j]? = some g → g.wb = true → ∃ p cj, ps[j]? = some p ∧ lookR (initR ps 0 c) (parR j) = initRoot p j cj ∧ ((∃ k ow wt ht, p = .rw k ow wt ht) ∨ ∃ k ow wt, p = .brw k ow wt) := by
    intro j g hg hw
    have hj : j < ps.length := by have := (List.getElem?_eq_some_iff.1 hg).1; omega
    obtain ⟨cj, v, i, g', e1, e2, e3, e4, e5, e6⟩ := hat j ps[j] (List.getElem?_eq_getElem hj)
    rw [hg] at e3
    simp only [Option.some.injEq] at e3
    subst e3
    refine ⟨ps[j], cj, List.getElem?_eq_getElem hj, e6, ?_⟩
    obtain ⟨k, x, ow, wt, ht, r, R, q, wh, h, _⟩ := wb_place e4 hw
    rcases h with ⟨h, _⟩ | ⟨h, _⟩
    · exact .inl ⟨k, ow, wt, ht, h⟩
    · exact .inr ⟨k, ow, wt, h⟩
  have hk : ∀ {j : Nat} {g : GA}, gs[j]? = some g → g.wb = true → ∃ k, LentAt ps j k ∧ ∃ R0, lookR (initR ps 0 c) (parR j) = some R0 ∧ R0.k = k := by
    intro j g hg hw
    obtain ⟨p, cj, h1, h2, h3⟩ := hlent hg hw
    rcases h3 with ⟨k, ow, wt, ht, rfl⟩ | ⟨k, ow, wt, rfl⟩
    · exact ⟨k, ⟨ow, wt, ht, .inl h1⟩, _, h2, rfl⟩
    · exact ⟨k, ⟨ow, wt, [], .inr h1⟩, _, h2, rfl⟩
  refine ⟨fun j pi hj hkp => ?_, fun j q ts v hv => ?_, fun j v hv => ?_⟩
  · obtain ⟨g, p, cj, v, i, e1, e2, e3, e4, e5, rfl⟩ := callee_par H hJ hj
    obtain ⟨k, h, _⟩ := hk e1 hkp
    exact ⟨k, h⟩
  · obtain ⟨g, R0, c0, b, o, h1, h2, h3, h4, _⟩ := hv
    obtain ⟨k, h, R1, h5, h6⟩ := hk h1 h2
    rw [h3] at h5
    simp only [Option.some.injEq] at h5
    subst h5
    exact ⟨k, h, by rw [h4, h6]⟩
  · obtain ⟨g, h1, _, _, h2⟩ := hv
    obtain ⟨k, h, _⟩ := hk h1 h2
    exact ⟨k, h⟩

/-- Blocks of the callee's views, as the caller sees them. -/
theorem okBack (H : Rel cx σ α F a w) (hJ : GJs cx σ α F a w ps c vs is gs) {σf : St} {αf : Asg} {Ff : List Nat} {af : Act} (Hf : Rel (calleeCx cx σ α F w ps c is gs) σf αf Ff af w') {σ' : St} {α' : Asg} {F' : List Nat}
    (B : BackSt σ α is gs σf αf Ff σ' α' F') {Tg U : List Tag} (hU1 : ∀ j n, (extR j, n) ∈ Tg → ∀ i, is[j]? = some i → ∀ t ∈ i.ids, ∃ n', (t.1, n') ∈ U) (hU2 : ∀ m n, (parR m, n) ∈ Tg → ∀ i q, is[m]? = some i → i.wb = some q → ∃ n', (q.1, n') ∈ U)
    {b : Nat} (hb : okT (calleeCx cx σ α F w ps c is gs) σf αf Ff w' Tg b) : okT cx σ' α' F' w' U b := by
  obtain ⟨hb1, hb2, hb3, hb4, hb5⟩ := hb
  have hcl : w.heap.size ≤ b ∨ (b < w.heap.size ∧ ∃ j n i, (extR j, n) ∈ Tg ∧ is[j]? = some i ∧ okT cx σ α F w i.ids b) ∨ (b < w.heap.size ∧ ∃ (j : Nat) (g : GA), gs[j]? = some g ∧ b ∈ g.fo ∧ ((g.ow = true ∧ b ∈ F) ∨ (g.wb = true ∧ ∃ r R, liveR σ r R ∧ b ∈ α.fo r))) := by
    by_cases hlt : b < w.heap.size
    · refine .inr ?_
      rcases hb5 hlt with ⟨j, n, h1, ⟨i, h2, h3⟩, _⟩ | ⟨j, pi, h1, h2⟩
      · exact .inl ⟨hlt, j, n, i, h1, h2, h3⟩
      · refine .inr ⟨hlt, ?_⟩
        obtain ⟨g, p, cj, v, i, e1, e2, e3, e4, e5, rfl⟩ := callee_par H hJ h1
        simp only at h2
        have hfo : b ∈ g.fo := by
          unfold footG at h2
          cases hbase : g.base with
          | none => rw [hbase] at h2; simpa using h2
          | some q =>
            rw [hbase] at h2
            simp only [List.cons_append, List.nil_append, List.mem_cons] at h2
            rcases h2 with h2 | h2
            · exact absurd ⟨j, _, q.2, sizeP p, h1, by rw [hbase, h2]; rfl⟩ hb3
            · exact h2
        refine ⟨j, g, e1, hfo, ?_⟩
        rcases (foot_at H e4).1 b (by unfold footG; exact List.mem_append_right _ hfo) with h | ⟨h, _⟩
        · exact .inl h
        · obtain ⟨r, R, q, _, f2, f3⟩ := (foot_at H e4).2.2.1 b hfo h
          exact .inr ⟨h, r, R, f2, f3⟩
    · exact .inl (Nat.le_of_not_lt hlt)
  refine ⟨hb1, fun h => hb2 (B.F b h), ?_, ?_, ?_⟩
  · intro hbase
    have hlt : b < w.heap.size := by
      obtain ⟨j, pi, o, n, h1, h2⟩ := hbase
      obtain ⟨Q, hQ, hk, hl, _⟩ := H.pbase j pi b o n h1 h2
      exact ((H.roots _ _ hQ).mine b (by simp [Ow.blk, whR, hk, hl])).1
    rcases hcl with h | ⟨_, j, n, i, _, _, h⟩ | ⟨_, j, g, h1, h2, h⟩
    · omega
    · exact h.2.2.1 hbase
    · rcases h with ⟨_, h⟩ | ⟨_, r, R, h3, h4⟩
      · exact F_notBase H h hbase
      · exact fo_notBase H h3 h4 hbase
  · intro q Q hq hbq
    rcases B.blk q Q b hq hbq with h | ⟨Q0, h1, h2, h3⟩ | ⟨m, i, R, u, h1, h2, h3, h4⟩
    · exact absurd h hb2
    · have hlt := ((H.roots q Q0 h1).mine b h2).1
      rcases hcl with h | ⟨_, j, n, i, g1, g2, g3⟩ | ⟨_, j, g, g1, g2, _⟩
      · omega
      · obtain ⟨n', hn'⟩ := g3.2.2.2.1 q Q0 h1 h2
        exact hU1 j n g1 i g2 _ hn'
      · exact absurd g2 (h3 j g g1)
    · obtain ⟨n, hn⟩ := hb4 (parR m) R h3 h4
      exact hU2 m n hn i _ h1 h2
  · intro h0
    have hlt : b < w.heap.size := Nat.lt_of_lt_of_le h0 H.frame.2.2.2.1
    have hmine : Ow.mine cx w b → (∃ j n, (extR j, n) ∈ U ∧ cx.ext j b) ∨ ∃ j pi, cx.par j = some pi ∧ b ∈ pi.bl := fun hm => by
      rcases hm.2 with h | ⟨j, pi, h1, h2⟩
      · omega
      · exact .inr ⟨j, pi, h1, h2⟩
    rcases hcl with h | ⟨_, j, n, i, g1, g2, g3⟩ | ⟨_, j, g, g1, g2, g3⟩
    · omega
    · rcases g3.2.2.2.2 h0 with ⟨j', n', f1, f2⟩ | h
      · obtain ⟨n2, hn2⟩ := hU1 j n g1 i g2 _ f1
        exact .inl ⟨j', n2, hn2, f2⟩
      · exact .inr h
    · rcases g3 with ⟨_, h⟩ | ⟨_, r, R, h3, h4⟩
      · exact hmine (H.fl b h)
      · exact hmine ((H.roots r R h3).mine b (List.mem_append_right _ h4))

end
end Go.Proofs.YtcelknaomealbaaDoor.Ow

/- The framework, part 48: what a callee turned, put back. Own work of this seat. -/
namespace Go.Proofs.YtcelknaomealbaaDoor.Ow
open Go

variable [Fr]

def BackW (σ : St) : (ps : List PSh) → List ArgI → Cont (kout ps) → List Wr → Prop
  | [], [], _, ws => ws = []
  | .rw k _ _ _ :: ps, i :: is, c, ws => ∃ r p wt ht R z ws', i.wb = some (r, p, wt, ht) ∧ σ.roots r = some R ∧ setP p R.k R.x ⟨k, c.1⟩ = some z ∧ ws = .r r (some { R with k := z.1, x := z.2, w := (lastTy R p :: wt) ++ R.w, h := ht ++ R.h }) :: ws' ∧ BackW σ ps is c.2 ws'
  | .brw k _ _ :: ps, i :: is, c, ws => ∃ r p wt ht R z ws', i.wb = some (r, p, wt, ht) ∧ σ.roots r = some R ∧ setP p R.k R.x ⟨k, c.1⟩ = some z ∧ ws = .r r (some { R with k := z.1, x := z.2, w := (SENT :: (k.tys ++ wt)) ++ R.w }) :: ws' ∧ BackW σ ps is c.2 ws'
  | .val _ _ :: ps, _ :: is, c, ws => BackW σ ps is c ws
  | .ro _ :: ps, _ :: is, c, ws => BackW σ ps is c ws
  | .own _ _ :: ps, _ :: is, c, ws => BackW σ ps is c ws
  | .fn _ _ :: ps, _ :: is, c, ws => BackW σ ps is c ws
  | .into _ _ :: ps, _ :: is, c, ws => BackW σ ps is c ws
  | _, _, _, _ => False

theorem backP_inv {A : Type} {z : A} {σ : St} : ∀ {ps : List PSh} {is : List ArgI} {c : Cont (kout ps)} {k : List Wr → Prog A}, (backP ps is c k).ends σ z → ∃ ws, BackW σ ps is c ws ∧ (k ws).ends σ z := by
  intro ps
  induction ps with
  | nil =>
    intro is c k h
    cases is with
    | nil => exact ⟨[], rfl, h⟩
    | cons _ _ => exact h.elim
  | cons p ps ih =>
    intro is c k h
    cases is with
    | nil => cases p <;> exact h.elim
    | cons i is =>
      cases p with
      | rw kk ow wt0 ht0 =>
        obtain ⟨ids, wb, ws0, bt⟩ := i
        cases wb with
        | none => exact h.elim
        | some q =>
          obtain ⟨r, p, wt, ht⟩ := q
          simp only [backP, Prog.ends] at h
          cases hr : σ.roots r with
          | none => rw [hr] at h; exact h.elim
          | some R =>
            rw [hr] at h
            simp only at h
            cases hz : setP p R.k R.x ⟨kk, c.1⟩ with
            | none => rw [hz] at h; exact h.elim
            | some z =>
              rw [hz] at h
              obtain ⟨ws, g1, g2⟩ := ih h
              exact ⟨_, ⟨r, p, wt, ht, R, z, ws, rfl, hr, hz, rfl, g1⟩, g2⟩
      | brw kk ow wt0 =>
        obtain ⟨ids, wb, ws0, bt⟩ := i
        cases wb with
        | none => exact h.elim
        | some q =>
          obtain ⟨r, p, wt, ht⟩ := q
          simp only [backP, Prog.ends] at h
          cases hr : σ.roots r with
          | none => rw [hr] at h; exact h.elim
          | some R =>
            rw [hr] at h
            simp only at h
            cases hz : setP p R.k R.x ⟨kk, c.1⟩ with
            | none => rw [hz] at h; exact h.elim
            | some z =>
              rw [hz] at h
              obtain ⟨ws, g1, g2⟩ := ih h
              exact ⟨_, ⟨r, p, wt, ht, R, z, ws, rfl, hr, hz, rfl, g1⟩, g2⟩
      | val _ _ => exact ih h
      | ro _ => exact ih h
      | own _ _ => exact ih h
      | fn _ _ => exact ih h
      | into _ _ => exact ih h

theorem back_none {σ : St} : ∀ {ps : List PSh} {is : List ArgI} {c : Cont (kout ps)} {ws : List Wr}, (∀ i ∈ is, i.wb = none) → BackW σ ps is c ws → ws = [] := by
  intro ps
  induction ps with
  | nil =>
    intro is c ws _ h
    cases is with
    | nil => exact h
    | cons _ _ => exact h.elim
  | cons p ps ih =>
    intro is c ws hn h
    cases is with
    | nil => cases p <;> exact h.elim
    | cons i is =>
      have hn' : ∀ i ∈ is, i.wb = none := fun i hi => hn i (by simp [hi])
      have h0 := hn i (by simp)
      cases p with
      | rw kk ow wt0 ht0 => obtain ⟨r, p, wt, ht, R, z, ws', h1, _⟩ := h; rw [h0] at h1; simp at h1
      | brw kk ow wt0 => obtain ⟨r, p, wt, ht, R, z, ws', h1, _⟩ := h; rw [h0] at h1; simp at h1
      | val _ _ => exact ih hn' h
      | ro _ => exact ih hn' h
      | own _ _ => exact ih hn' h
      | fn _ _ => exact ih hn' h
      | into _ _ => exact ih hn' h

theorem oneWb_tail {i : ArgI} {is : List ArgI} (h : oneWb (i :: is) = true) : (i.wb = none ∧ oneWb is = true) ∨ (i.wb ≠ none ∧ ∀ i' ∈ is, i'.wb = none) := by
  unfold oneWb at h
  cases hw : i.wb with
  | none => rw [hw] at h; exact .inl ⟨rfl, h⟩
  | some q =>
    rw [hw] at h
    refine .inr ⟨by simp, fun i' hi => ?_⟩
    have := List.all_eq_true.1 h i' hi
    cases hw' : i'.wb with
    | none => rfl
    | some _ => rw [hw'] at this; simp at this

/-- The place that was lent, if there is one. -/
theorem back_cases {σ σf : St} : ∀ {ps : List PSh} {is : List ArgI} {c : Cont (kout ps)} {ws : List Wr} {j0 : Nat}, oneWb is = true → (∀ (m : Nat) (p : PSh) (i : ArgI), ps[m]? = some p → is[m]? = some i → (∀ k ow wt ht, p ≠ .rw k ow wt ht) → (∀ k ow wt, p ≠ .brw k ow wt) → i.wb = none) →
    BackW σ ps is c ws → OutL σf ps j0 c → (ws = [] ∧ ∀ i ∈ is, i.wb = none) ∨
    ∃ (j : Nat) (i : ArgI) (k : K) (x : El k) (ow wt ht : List TypeId) (r : Nat) (p : List Stp) (R : Root) (z : Dat) (wt' ht' : List TypeId), is[j]? = some i ∧ i.wb = some (r, p, wt', ht') ∧ σ.roots r = some R ∧ setP p R.k R.x ⟨k, x⟩ = some z ∧ OutOk σf k x ow wt ht (j0 + j) ∧ (∀ (m : Nat) (i' : ArgI), m ≠ j → is[m]? = some i' → i'.wb = none) ∧
      ((ps[j]? = some (.rw k ow wt ht) ∧ ws = [.r r (some { R with k := z.1, x := z.2, w := (lastTy R p :: wt') ++ R.w, h := ht' ++ R.h })]) ∨ (ps[j]? = some (.brw k ow wt) ∧ ht = [] ∧ ws = [.r r (some { R with k := z.1, x := z.2, w := (SENT :: (k.tys ++ wt')) ++ R.w })])) := by
  intro ps
  induction ps with
  | nil =>
    intro is c ws j0 _ _ hB _
    cases is with
    | nil => exact .inl ⟨hB, by simp⟩
    | cons _ _ => exact hB.elim
  | cons p ps ih =>
    intro is c ws j0 h1 hal hB hO
    cases is with
    | nil => cases p <;> exact hB.elim
    | cons i is =>
      have hal' : ∀ (m : Nat) (p : PSh) (i : ArgI), ps[m]? = some p → is[m]? = some i → (∀ k ow wt ht, p ≠ .rw k ow wt ht) → (∀ k ow wt, p ≠ .brw k ow wt) → i.wb = none := fun m p i hp hi => hal (m + 1) p i (by simpa using hp) (by simpa using hi)
      have hrest : ∀ {c' : Cont (kout ps)} {ws' : List Wr}, i.wb = none → BackW σ ps is c' ws' → OutL σf ps (j0 + 1) c' → (ws' = [] ∧ ∀ i' ∈ i :: is, i'.wb = none) ∨
          ∃ (j : Nat) (i' : ArgI) (k : K) (x : El k) (ow wt ht : List TypeId) (r : Nat) (q : List Stp) (R : Root) (z : Dat) (wt' ht' : List TypeId), (i :: is)[j]? = some i' ∧ i'.wb = some (r, q, wt', ht') ∧ σ.roots r = some R ∧ setP q R.k R.x ⟨k, x⟩ = some z ∧ OutOk σf k x ow wt ht (j0 + j) ∧ (∀ (m : Nat) (i'' : ArgI), m ≠ j → (i :: is)[m]? = some i'' → i''.wb = none) ∧
            (((p :: ps)[j]? = some (.rw k ow wt ht) ∧ ws' = [.r r (some { R with k := z.1, x := z.2, w := (lastTy R q :: wt') ++ R.w, h := ht' ++ R.h })]) ∨ ((p :: ps)[j]? = some (.brw k ow wt) ∧ ht = [] ∧ ws' = [.r r (some { R with k := z.1, x := z.2, w := (SENT :: (k.tys ++ wt')) ++ R.w })])) := by
        intro c' ws' hw hB hO
        have ho : oneWb is = true := by
          rcases oneWb_tail h1 with ⟨_, h⟩ | ⟨h, _⟩
          · exact h
          · exact absurd hw h
        rcases ih ho hal' hB hO with ⟨e, h⟩ | ⟨j, i', k, x, ow, wt, ht, r, q, R, z, wt', ht', e1, e2, e3, e4, e5, e6, e7⟩
        · refine .inl ⟨e, fun i' hi => ?_⟩
          rcases List.mem_cons.1 hi with h' | h'
          · subst h'; exact hw
          · exact h i' h'
        · refine .inr ⟨j + 1, i', k, x, ow, wt, ht, r, q, R, z, wt', ht', by simpa using e1, e2, e3, e4, by rw [show j0 + (j + 1) = j0 + 1 + j by omega]; exact e5, fun m i'' hm hi => ?_, by simpa using e7⟩
          cases m with
          | zero => simp only [List.getElem?_cons_zero, Option.some.injEq] at hi; subst hi; exact hw
          | succ m => exact e6 m i'' (by omega) (by simpa using hi)
      have hnw : ∀ {wt' : Option (Nat × List Stp × List TypeId × List TypeId)}, i.wb = wt' → wt' ≠ none → ∀ i' ∈ is, i'.wb = none := by
        intro wt' he hne
        rcases oneWb_tail h1 with ⟨h, _⟩ | ⟨_, h⟩
        · rw [he] at h; exact absurd h hne
        · exact h
      cases p with
      | rw kk ow wt0 ht0 =>
        obtain ⟨r, q, wt, ht, R, z, ws', g1, g2, g3, g4, g5⟩ := hB
        have hn := hnw g1 (by simp)
        have := back_none hn g5
        subst this
        refine .inr ⟨0, i, kk, c.1, ow, wt0, ht0, r, q, R, z, wt, ht, rfl, g1, g2, g3, hO.1, fun m i' hm hi => ?_, .inl ⟨rfl, g4⟩⟩
        cases m with
        | zero => exact absurd rfl hm
        | succ m => exact hn i' (List.mem_of_getElem? (by simpa using hi))
      | brw kk ow wt0 =>
        obtain ⟨r, q, wt, ht, R, z, ws', g1, g2, g3, g4, g5⟩ := hB
        have hn := hnw g1 (by simp)
        have := back_none hn g5
        subst this
        refine .inr ⟨0, i, kk, c.1, ow, wt0, [], r, q, R, z, wt, ht, rfl, g1, g2, g3, hO.1, fun m i' hm hi => ?_, .inr ⟨rfl, rfl, g4⟩⟩
        cases m with
        | zero => exact absurd rfl hm
        | succ m => exact hn i' (List.mem_of_getElem? (by simpa using hi))
      | val k prs => exact hrest (hal 0 _ i rfl rfl (by simp) (by simp)) hB hO
      | ro k => exact hrest (hal 0 _ i rfl rfl (by simp) (by simp)) hB hO
      | own k ow => exact hrest (hal 0 _ i rfl rfl (by simp) (by simp)) hB hO
      | fn f ks => exact hrest (hal 0 _ i rfl rfl (by simp) (by simp)) hB hO
      | into j q => exact hrest (hal 0 _ i rfl rfl (by simp) (by simp)) hB hO

end Go.Proofs.YtcelknaomealbaaDoor.Ow
