/- Journals: both sides read the same ops. -/
import Derived.Test.YtailcbngagacaaaGreatOwF
import Derived.Test.YtailcbngagacaaaGreatLoopLib
import Derived.Test.YtailcbngagacaaaGreatPackLib
import Derived.Test.YtailcbngagacaaaGreatStoreMath
import Derived.Test.YtailcbngagacaaaGreatOpsMath
import Derived.Test.YtailcbngagacaaaGreatGoodMath
import Derived.Test.YtailcbngagacaaaGreatCodecMath
import Derived.Test.YtailcbngagacaaaGreatReadMath
import Derived.Test.YtailcbngagacaaaGreatReadSMath
import Derived.Test.YtailcbngagacaaaGreatVfF
set_option linter.unusedSectionVars false
set_option linter.unusedVariables false
set_option linter.unusedSimpArgs false
namespace Go.Proofs.YtailcbngagacaaaGreat.K3
open Go Go.Proofs.YtailcbngagacaaaGreat.Ow Go.Proofs.YtailcbngagacaaaGreat.SV Go.Proofs.YtailcbngagacaaaGreat.sw Go.Proofs.YtailcbngagacaaaGreat.zL Go.Proofs.YtailcbngagacaaaGreat.nT Go.Proofs.YtailcbngagacaaaGreat.qA Go.Proofs.YtailcbngagacaaaGreat.wM Go.Proofs.YtailcbngagacaaaGreat.uh Go.Proofs.YtailcbngagacaaaGreat.Bz Go.Proofs.YtailcbngagacaaaGreat.Cz

noncomputable def Xg (d : List Int) : Int × Int × OpC × Unit := match u7 R8 d with
  | none => (5, 0, zO, ())
  | some o => (0, ((fH o).length : Int), o, ())

theorem MO {n : Nat} {d : List Int} (h : pV d) (hb : d.length ≤ big) (hn : big < n) : rU n d = some (Xg d, ()) := by
  have hb' : d.length ≤ 1048576 := hb
  have g0 := uS h 0
  have g1 := uS h 1
  unfold rU
  rw [show (0 : Int).toNat = 0 from rfl, show (1 : Int).toNat = 1 from rfl]
  rw [wrap_i64 (x := d.getD 0 0) (by omega) (by omega), wrap_i64 (x := d.getD 1 0) (by omega) (by omega), wrap_i64 (x := d.getD 0 0 * 256) (by omega) (by omega), wrap_i64 (x := d.getD 0 0 * 256 + d.getD 1 0) (by omega) (by omega)]
  by_cases hx : ∃ o, Is R8 d o
  · obtain ⟨o, ho⟩ := hx
    obtain ⟨q1, q2, q3⟩ := Gc ho.2
    have hl := sS o
    have hlb := zm o
    have hle := ho.2.length_le
    have hok : okO o ∧ pV o.2.2.2.2.2.2.2.1 := by
      have := Gy (D := d.take (fH o).length) (d := (d.take (fH o).length).drop 2) (wW h _) (List.drop_suffix 2 _)
      rw [q3, xg, Ba] at this
      exact this
    unfold Xg
    rw [Jj ho, q2, Int.toNat_natCast, q3]
    rw [if_neg (by rw [decide_eq_true_eq]; omega), if_pos (show aO 0 d.length from ⟨by omega, by omega⟩), if_pos (show aO 1 d.length from ⟨by omega, by omega⟩), if_neg (by rw [decide_eq_true_eq]; omega), if_neg (by rw [decide_eq_true_eq]; omega), if_pos ⟨by omega, by omega⟩]
    have hB : pV (fH o) := by rw [← q3]; exact wW h _
    rw [Jk hB (by unfold big; omega) (by omega) hn, xg, Ba]
    simp only [Option.bind_some]
    rw [AJ hok.1 hn]
    simp only [Option.bind_some]
    rw [if_neg (by rw [show iK o = 0 from ho.1]; decide), Je (Xb ho.1 hok.2) hn]
    simp only [Option.bind_some]
    rw [if_pos ⟨by omega, by omega⟩, if_neg (by simp)]
  · unfold Xg
    rw [C9 hx]
    by_cases c1 : (d.length : Int) < 2
    · rw [if_pos (by rw [decide_eq_true_eq]; exact c1)]
    rw [if_neg (by rw [decide_eq_true_eq]; exact c1), if_pos (show aO 0 d.length from ⟨by omega, by omega⟩), if_pos (show aO 1 d.length from ⟨by omega, by omega⟩)]
    generalize hM : d.getD 0 0 * 256 + d.getD 1 0 = M at *
    by_cases c2 : M < 2
    · rw [if_pos (by rw [decide_eq_true_eq]; exact c2)]
    rw [if_neg (by rw [decide_eq_true_eq]; exact c2)]
    by_cases c3 : M > (d.length : Int)
    · rw [if_pos (by rw [decide_eq_true_eq]; exact c3)]
    rw [if_neg (by rw [decide_eq_true_eq]; exact c3), if_pos ⟨by omega, by omega⟩]
    have hB : pV (d.take M.toNat) := wW h _
    have hok := Gy (D := d.take M.toNat) (d := (d.take M.toNat).drop 2) hB (List.drop_suffix 2 _)
    rw [Jk hB (by unfold big; rw [List.length_take]; omega) (by rw [List.length_take]; omega) hn]
    simp only [Option.bind_some]
    generalize (Cb ((d.take M.toNat).drop 2)).1 = o at *
    rw [AJ hok.1 hn]
    simp only [Option.bind_some]
    by_cases c4 : iK o = 0
    · rw [if_neg (by simp [c4]), Je (Xb c4 hok.2) hn]
      simp only [Option.bind_some]
      rw [if_pos ⟨by omega, by omega⟩]
      by_cases c5 : fH o = d.take M.toNat
      · refine absurd ⟨o, c4, ?_⟩ hx
        rw [c5]; exact List.take_prefix _ _
      · rw [if_pos (by simp [c5])]
    · rw [if_pos (by simp [c4])]

/-- All ops of a journal, and how many bytes they have. -/
noncomputable def jP (d : List Int) : List OpC × Nat := vG R8 (d.length + 1) d
theorem GD : u7 R8 [] = none := by
  apply C9
  rintro ⟨o, _, h⟩
  have := h.length_le
  rw [sS, zm] at this
  simp at this
theorem BP (d : List Int) : (∀ o ∈ (jP d).1, iK o = 0) ∧ (jP d).2 ≤ d.length ∧ 13 * (jP d).1.length ≤ d.length :=
  ⟨fun o ho => Gd (R := R8) o ho, PK⟩

theorem Rl {k : Nat} : ∀ {d : List Int}, pV d → ∀ o ∈ (vG R8 k d).1, okO o ∧ M8 o := by
  induction k with
  | zero => intro d _ o h; simp [vG] at h
  | succ k ih =>
    intro d hd o h
    rw [vG] at h
    cases hr : u7 R8 d with
    | none => rw [hr] at h; simp at h
    | some q =>
      rw [hr] at h
      have hq := Cc hr
      have h3 := (Gc hq.2).2.2
      have hok := Gy (D := d.take (fH q).length) (d := (d.take (fH q).length).drop 2) (wW hd _) (List.drop_suffix 2 _)
      rw [h3, xg, Ba] at hok
      rcases List.mem_cons.1 h with rfl | h
      · exact ⟨hok.1, Xb hq.1 hok.2⟩
      · exact ih (wV hd _) o h
theorem XW {d : List Int} (h : pV d) : ∀ o ∈ (jP d).1, okO o ∧ M8 o := Rl h

theorem I5 {n : Nat} {d : List Int} (h : pV d) (hb : d.length ≤ big) (hn : big < n) : ko n d = some ((jP d).1, ((jP d).2 : Int), ()) := by
  have hb' : d.length ≤ 1048576 := hb
  have hn' := hn
  unfold big at hn'
  unfold ko
  generalize hB : (fun (L1 : List Int × Int × List OpC × Unit → Option (List OpC × Int × Unit)) v1 => _) = B
  have key : ∀ (m a : Nat) (out : List OpC) (f : Nat), d.length - a ≤ m → a ≤ d.length → m < f → out.length ≤ a → rounds B f (d, (a : Int), out, ()) = some (out ++ (vG R8 (m + 1) (d.drop a)).1, ((a + (vG R8 (m + 1) (d.drop a)).2 : Nat) : Int), ()) := by
    intro m
    induction m with
    | zero =>
      intro a out f h1 h2 hf _
      obtain ⟨f, rfl⟩ : ∃ g, f = g + 1 := ⟨f - 1, by omega⟩
      have ea : a = d.length := by omega
      subst ea
      show B (rounds B f) _ = _
      rw [← hB, List.drop_length, vG, GD]
      simp
    | succ m ih =>
      intro a out f h1 h2 hf ho
      obtain ⟨f, rfl⟩ : ∃ g, f = g + 1 := ⟨f - 1, by omega⟩
      show B (rounds B f) _ = _
      rw [← hB]
      simp only
      by_cases ha : a = d.length
      · subst ha
        rw [List.drop_length, vG, GD]
        simp
      · rw [if_pos (by rw [decide_eq_true_eq]; omega), if_pos ⟨by omega, by omega⟩, Int.toNat_natCast, MO (wV h a) (by unfold big; rw [List.length_drop]; omega) hn, vG]
        simp only [Option.bind_some]
        unfold Xg
        cases hr : u7 R8 (d.drop a) with
        | none => simp
        | some o =>
          have hle := (Cc hr).2.length_le
          rw [List.length_drop] at hle
          have hl := sS o
          simp only
          rw [if_neg (by decide), if_pos (by rw [List.length_singleton]; omega), wrap_i64 (by omega) (by omega), hB, show (a : Int) + ((fH o).length : Int) = ((a + (fH o).length : Nat) : Int) by omega]
          rw [ih (a + (fH o).length) _ f (by omega) (by omega) (by omega) (by simp only [List.length_append, List.length_singleton]; omega)]
          rw [List.drop_drop, List.append_assoc, List.singleton_append, Nat.add_assoc]
  have := key d.length 0 [] n (by omega) (by omega) (by omega) (Nat.zero_le _)
  unfold jP
  simpa using this

theorem I4 {n : Nat} {d : List Int} (h : pV d) (hb : d.length ≤ big) (hn : big < n) : ny n d = some ((jP d).1, ((jP d).2 : Int), ()) := by
  have hb' : d.length ≤ 1048576 := hb
  have hn' := hn
  unfold big at hn'
  unfold ny
  generalize hB : (fun (L1 : List Int × Int × List OpC × Unit → Option (List OpC × Int × Unit)) v1 => _) = B
  have key : ∀ (m a : Nat) (out : List OpC) (f : Nat), d.length - a ≤ m → a ≤ d.length → m < f → out.length ≤ a → rounds B f (d, (a : Int), out, ()) = some (out ++ (vG R8 (m + 1) (d.drop a)).1, ((a + (vG R8 (m + 1) (d.drop a)).2 : Nat) : Int), ()) := by
    intro m
    induction m with
    | zero =>
      intro a out f h1 h2 hf _
      obtain ⟨f, rfl⟩ : ∃ g, f = g + 1 := ⟨f - 1, by omega⟩
      show B (rounds B f) _ = _
      rw [← hB]
      simp only
      rw [if_pos ⟨by omega, by omega⟩, Int.toNat_natCast, DI (wV h a) (by unfold big; rw [List.length_drop]; omega) hn, vG]
      have ea : d.drop a = [] := List.drop_eq_nil_of_le (by omega)
      rw [ea]
      simp only [Ju, GD, Option.bind_some]
      simp
    | succ m ih =>
      intro a out f h1 h2 hf ho
      obtain ⟨f, rfl⟩ : ∃ g, f = g + 1 := ⟨f - 1, by omega⟩
      show B (rounds B f) _ = _
      rw [← hB]
      simp only
      rw [if_pos ⟨by omega, by omega⟩, Int.toNat_natCast, DI (wV h a) (by unfold big; rw [List.length_drop]; omega) hn, vG]
      simp only [Option.bind_some]
      unfold Ju
      cases hr : u7 R8 (d.drop a) with
      | none => simp
      | some o =>
        have hle := (Cc hr).2.length_le
        rw [List.length_drop] at hle
        have hl := sS o
        simp only
        rw [if_neg (by rw [decide_eq_true_eq]; omega), if_pos (by rw [List.length_singleton]; omega), wrap_i64 (by omega) (by omega), hB, show (a : Int) + ((fH o).length : Int) = ((a + (fH o).length : Nat) : Int) by omega]
        rw [ih (a + (fH o).length) _ f (by omega) (by omega) (by omega) (by simp only [List.length_append, List.length_singleton]; omega)]
        rw [List.drop_drop, List.append_assoc, List.singleton_append, Nat.add_assoc]
  have := key d.length 0 [] n (by omega) (by omega) (by omega) (Nat.zero_le _)
  unfold jP
  simpa using this
end Go.Proofs.YtailcbngagacaaaGreat.K3
