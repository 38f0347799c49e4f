/- Reading of ops and journals, on both sides. -/
import Derived.Test.YtailcbngagacaaaGreatOwF
import Derived.Test.YtailcbngagacaaaGreatLoopLib
import Derived.Test.YtailcbngagacaaaGreatPackLib
import Derived.Test.YtailcbngagacaaaGreatStoreMath
import Derived.Test.YtailcbngagacaaaGreatOpsMath
import Derived.Test.YtailcbngagacaaaGreatGoodMath
import Derived.Test.YtailcbngagacaaaGreatCodecMath
import Derived.Test.YtailcbngagacaaaGreatVfF
set_option linter.unusedSectionVars false
set_option linter.unusedVariables false
set_option linter.unusedSimpArgs false
namespace Go.Proofs.YtailcbngagacaaaGreat.Bz
open Go Go.Proofs.YtailcbngagacaaaGreat.Ow Go.Proofs.YtailcbngagacaaaGreat.SV Go.Proofs.YtailcbngagacaaaGreat.sw Go.Proofs.YtailcbngagacaaaGreat.zL Go.Proofs.YtailcbngagacaaaGreat.nT Go.Proofs.YtailcbngagacaaaGreat.qA Go.Proofs.YtailcbngagacaaaGreat.wM Go.Proofs.YtailcbngagacaaaGreat.uh

/-! ### The program's reader -/
abbrev st (t : Tk) : List Int × Bool × Unit := (t.1, t.2, ())
theorem fG {t : Tk} (h : pV t.1) (k : Nat) : pV (gH k t).1 ∧ pV (gH k t).2.1 ∧ (gH k t).1.length = k := by
  unfold gH
  split
  · exact ⟨UF k, h, by simp⟩
  · rename_i hc
    exact ⟨wW h k, wV h k, by simp only [List.length_take]; omega⟩
theorem jc {t : Tk} (h : pV t.1) : (0 ≤ (iC t).1 ∧ (iC t).1 ≤ 255) ∧ pV (iC t).2.1 :=
  ⟨uS (fG h 1).1 0, (fG h 1).2.1⟩
theorem rJ {t : Tk} (h : pV t.1) : (0 ≤ (gu t).1 ∧ (gu t).1 ≤ 65535) ∧ pV (gu t).2.1 := by
  have h0 := uS (fG h 2).1 0
  have h1 := uS (fG h 2).1 1
  refine ⟨?_, (fG h 2).2.1⟩
  unfold gu
  simp only
  omega
theorem AY {t : Tk} (h : pV t.1) : ∀ k, (nK t k).1.length = k ∧ pV (nK t k).2.1
  | 0 => ⟨rfl, h⟩
  | k + 1 => by
    have := AY h k
    exact ⟨by simp [nK, this.1], (rJ this.2).2⟩

theorem xq {n : Nat} {t : Tk} {k : Nat} (hk : k ≤ 65535) : eP n (st t) (k : Int) = some ((gH k t).1, st (gH k t).2, ()) := by
  obtain ⟨l, b⟩ := t
  unfold eP cB gH
  cases b with
  | true =>
    simp only [if_true, true_or]
    rw [if_pos ⟨trivial, by omega, by omega⟩]
    rfl
  | false =>
    simp only [Bool.false_eq_true, if_false, false_or, Option.bind_some]
    by_cases hl : l.length < k
    · rw [if_pos (by rw [decide_eq_true_eq]; omega), if_pos ⟨trivial, by omega, by omega⟩, if_pos hl]
      rfl
    · rw [if_neg (by rw [decide_eq_true_eq]; omega), if_pos ⟨by omega, by omega⟩, if_pos ⟨by omega, by omega⟩, if_neg hl]
      rfl
theorem xe {n : Nat} {t : Tk} (h : pV t.1) : eH n (st t) = some ((iC t).1, st (iC t).2, ()) := by
  have hf := jc h
  have hl := (fG h 1).2.2
  unfold eH
  rw [show (1 : Int) = ((1 : Nat) : Int) from rfl, xq (by omega)]
  simp only [Option.bind_some]
  rw [if_pos (by rw [hl]; exact ⟨by omega, by omega⟩)]
  have e : (gH 1 t).1.getD (0 : Int).toNat 0 = (iC t).1 := rfl
  rw [e, wrap_i64 (by omega) (by omega)]
  rfl
theorem zX {n : Nat} {t : Tk} (h : pV t.1) : gI n (st t) = some ((gu t).1, st (gu t).2, ()) := by
  have hf := rJ h
  have hl := (fG h 2).2.2
  have g0 := uS (fG h 2).1 0
  have g1 := uS (fG h 2).1 1
  unfold gI
  rw [show (2 : Int) = ((2 : Nat) : Int) from rfl, xq (by omega)]
  simp only [Option.bind_some]
  rw [if_pos (by rw [hl]; exact ⟨by omega, by omega⟩), if_pos (by rw [hl]; exact ⟨by omega, by omega⟩)]
  rw [show (0 : Int).toNat = 0 from rfl, show (1 : Int).toNat = 1 from rfl]
  rw [wrap_i64 (x := (gH 2 t).1.getD 0 0) (by omega) (by omega), wrap_i64 (x := (gH 2 t).1.getD 1 0) (by omega) (by omega), wrap_i64 (x := (gH 2 t).1.getD 0 0 * 256) (by omega) (by omega), wrap_i64 (by omega) (by omega)]
  rfl

/-- Right, and of bytes. -/
def R8 (o : OpC) : Prop := iK o = 0
abbrev zO : OpC := ((0 : Int), ([] : List Int), ([] : List Int), ([] : List Int), (0 : Int), (0 : Int), (0 : Int), ([] : List Int), ())

theorem Vi {d : List Int} (h : pV d) : okO (tJ d).1 ∧ pV (tJ d).1.2.2.2.2.2.2.2.1 := by
  have h1 := jc (t := (d, false)) h
  have h2 := jc h1.2
  have h3 := fG h2.2 (iC (iC (d, false)).2).1.toNat
  have h4 := jc h3.2.1
  have h5 := fG h4.2 (iC (gH (iC (iC (d, false)).2).1.toNat (iC (iC (d, false)).2).2).2).1.toNat
  have h6 := jc h5.2.1
  have h7 := AY h6.2 (iC (gH (iC (gH (iC (iC (d, false)).2).1.toNat (iC (iC (d, false)).2).2).2).1.toNat (iC (gH (iC (iC (d, false)).2).1.toNat (iC (iC (d, false)).2).2).2).2).2).1.toNat
  have h8 := jc h7.2
  have h9 := jc h8.2
  have h10 := rJ h9.2
  have h11 := rJ h10.2
  have h12 := fG h11.2
  refine ⟨⟨?_, ?_, ?_, ?_⟩, (h12 _).1⟩
  · show (gH _ _).1.length ≤ big
    rw [h3.2.2]; unfold big; omega
  · show (gH _ _).1.length ≤ big
    rw [h5.2.2]; unfold big; omega
  · show (nK _ _).1.length ≤ big
    rw [h7.1]; unfold big; omega
  · show (gH _ _).1.length ≤ big
    rw [(h12 _).2.2]; unfold big; omega

/-- What the program's reading comes to, step by step. -/
def De (d : List Int) : OpC × Int :=
  if (gu (d, false)).2.2 = true then (zO, 0) else if (gu (d, false)).1 > (d.length : Int) then (zO, 0) else
  if (tJ ((d.take (if (gu (d, false)).1 > 2 then (gu (d, false)).1 else 2).toNat).drop 2)).2.2 = true then (zO, 0) else
  if iK (tJ ((d.take (if (gu (d, false)).1 > 2 then (gu (d, false)).1 else 2).toNat).drop 2)).1 ≠ 0 then (zO, 0) else
  if fH (tJ ((d.take (if (gu (d, false)).1 > 2 then (gu (d, false)).1 else 2).toNat).drop 2)).1 ≠ d.take (gu (d, false)).1.toNat then (zO, 0) else
  ((tJ ((d.take (if (gu (d, false)).1 > 2 then (gu (d, false)).1 else 2).toNat).drop 2)).1, (gu (d, false)).1)

theorem GZ {d : List Int} : (gu (d, false)).2.2 = decide (d.length < 2) := by
  unfold gu gH
  by_cases h : d.length < 2
  · simp [h]
  · simp [h]

theorem Xb {o : OpC} (h : iK o = 0) (hb : pV o.2.2.2.2.2.2.2.1) : M8 o := ⟨right h, hb⟩

set_option maxRecDepth 20000 in
theorem KA {n : Nat} {d : List Int} (h : pV d) (hb : d.length ≤ big) (hn : big < n) : oC n d = some ((De d).1, (De d).2, ()) := by
  have hn' := hn
  have hb' : d.length ≤ 1048576 := hb
  unfold big at hn'
  have ht := rJ (t := (d, false)) h
  unfold oC De
  rw [zX (t := (d, false)) h]
  simp only [Option.bind_some]
  by_cases c1 : (gu (d, false)).2.2 = true
  · rw [if_pos c1, if_pos c1]
  rw [if_neg c1, if_neg c1]
  rw [GZ, decide_eq_true_eq] at c1
  unfold cB
  simp only [Option.bind_some]
  by_cases c2 : (gu (d, false)).1 > (d.length : Int)
  · rw [if_pos (by rw [decide_eq_true_eq]; exact c2), if_pos c2]
  rw [if_neg (by rw [decide_eq_true_eq]; exact c2), if_neg c2]
  have hm : 2 ≤ (if (gu (d, false)).1 > 2 then (gu (d, false)).1 else 2) ∧ (if (gu (d, false)).1 > 2 then (gu (d, false)).1 else 2) ≤ (d.length : Int) := by
    split
    · omega
    · omega
  rw [if_pos ⟨by omega, hm⟩]
  have e2 : (2 : Int).toNat = 2 := rfl
  have hE : pV ((d.take (if (gu (d, false)).1 > 2 then (gu (d, false)).1 else 2).toNat).drop 2) := wV (wW h _) 2
  have hs : (gu (d, false)).2.2 = false := by rw [GZ, decide_eq_false_iff_not]; exact c1
  generalize hM : (gu (d, false)).1 = M at *
  rw [e2]
  generalize hEE : (d.take (if M > 2 then M else 2).toNat).drop 2 = E at *
  have es : (E, (st (gu (d, false)).2).2) = st (E, false) := by simp only [st, hs]
  rw [es, xe hE]
  simp only [Option.bind_some]
  have f1 := jc (t := (E, false)) hE
  generalize q1 : iC (E, false) = a1 at *
  rw [xe f1.2]
  simp only [Option.bind_some]
  have f2 := jc f1.2
  generalize q2 : iC a1.2 = a2 at *
  have k2 : ((a2.1.toNat : Nat) : Int) = a2.1 := by omega
  have t3 := xq (n := n) (t := a2.2) (k := a2.1.toNat) (by omega)
  rw [k2] at t3
  rw [t3]
  simp only [Option.bind_some]
  have f3 := fG f2.2 a2.1.toNat
  generalize q3 : gH a2.1.toNat a2.2 = a3 at *
  rw [xe f3.2.1]
  simp only [Option.bind_some]
  have f4 := jc f3.2.1
  generalize q4 : iC a3.2 = a4 at *
  have k4 : ((a4.1.toNat : Nat) : Int) = a4.1 := by omega
  have t5 := xq (n := n) (t := a4.2) (k := a4.1.toNat) (by omega)
  rw [k4] at t5
  rw [t5]
  simp only [Option.bind_some]
  have f5 := fG f4.2 a4.1.toNat
  generalize q5 : gH a4.1.toNat a4.2 = a5 at *
  rw [xe f5.2.1]
  simp only [Option.bind_some]
  have f6 := jc f5.2.1
  generalize q6 : iC a5.2 = a6 at *
  have hR : tJ E = ((a1.1, a3.1, a5.1, (nK a6.2 a6.1.toNat).1, (iC (nK a6.2 a6.1.toNat).2).1, (iC (iC (nK a6.2 a6.1.toNat).2).2).1, (gu (iC (iC (nK a6.2 a6.1.toNat).2).2).2).1,
      (gH (gu (gu (iC (iC (nK a6.2 a6.1.toNat).2).2).2).2).1.toNat (gu (gu (iC (iC (nK a6.2 a6.1.toNat).2).2).2).2).2).1, ()),
      (gH (gu (gu (iC (iC (nK a6.2 a6.1.toNat).2).2).2).2).1.toNat (gu (gu (iC (iC (nK a6.2 a6.1.toNat).2).2).2).2).2).2) := by
    simp only [tJ, q1, q2, q3, q4, q5, q6]
  have hok := Vi hE
  rw [hR] at hok ⊢
  have f7 := AY f6.2
  refine (aR (fun i => (d, M, a6.1, (i : Int), zO, (a1.1, a3.1, a5.1, (nK a6.2 i).1, (0 : Int), (0 : Int), (0 : Int), ([] : List Int), ()), st (nK a6.2 i).2, ())) (fun _ => none) _ (m := a6.1.toNat) rfl (by omega) ?_ ?_).trans (bN (fun _ _ _ => rfl))
  · intro L i hi _
    have hlt : (i : Int) < a6.1 := by omega
    simp only [hlt, decide_true, if_true, zX (f7 i).2, Option.bind_some]
    rw [if_pos (by rw [(f7 i).1, List.length_singleton]; omega), wrap_i64 (by omega) (by omega)]
    rfl
  · intro L _
    have hge : ¬ ((a6.1.toNat : Int) < a6.1) := by omega
    simp only [hge, decide_false, Bool.false_eq_true, if_false]
    have f7 := f7 a6.1.toNat
    generalize nK a6.2 a6.1.toNat = a7 at *
    rw [xe f7.2]
    simp only [Option.bind_some]
    have f8 := jc f7.2
    generalize iC a7.2 = a8 at *
    rw [xe f8.2]
    simp only [Option.bind_some]
    have f9 := jc f8.2
    generalize iC a8.2 = a9 at *
    rw [zX f9.2]
    simp only [Option.bind_some]
    have f10 := rJ f9.2
    generalize gu a9.2 = a10 at *
    rw [zX f10.2]
    simp only [Option.bind_some]
    have f11 := rJ f10.2
    generalize gu a10.2 = Ta at *
    have k11 : ((Ta.1.toNat : Nat) : Int) = Ta.1 := by omega
    have t12 := xq (n := n) (t := Ta.2) (k := Ta.1.toNat) (by omega)
    rw [k11] at t12
    rw [t12]
    simp only [Option.bind_some]
    have f12 := fG f11.2 Ta.1.toNat
    generalize gH Ta.1.toNat Ta.2 = a12 at *
    rw [if_pos (by rw [f12.2.2]; simp only [List.length_nil]; omega)]
    by_cases c3 : a12.2.2 = true
    · rw [if_pos c3, if_pos c3]
    rw [if_neg c3, if_neg c3]
    rw [List.nil_append]
    rw [FN hok.1 hn]
    simp only [Option.bind_some]
    generalize hO : ((a1.1, a3.1, a5.1, a7.1, a8.1, a9.1, a10.1, a12.1, ()) : OpC) = o at *
    by_cases c4 : iK o = 0
    · rw [if_neg (by simp [c4]), if_neg (by simp [c4]), RG (Xb c4 hok.2) hn]
      simp only [Option.bind_some]
      rw [if_pos ⟨by omega, by omega⟩]
      unfold wz
      simp only [Option.bind_some]
      by_cases c5 : fH o = d.take M.toNat
      · rw [if_neg (by simp [c5]), if_neg (by simp [c5])]
      · rw [if_pos (by simp [c5]), if_pos c5]
    · rw [if_pos (by simp [c4]), if_pos c4]

/-- What is read, and how much. -/
noncomputable def Ju (d : List Int) : OpC × Int := match u7 R8 d with
  | none => (zO, 0)
  | some o => (o, ((fH o).length : Int))

theorem OO {d : List Int} (h : pV d) : De d = Ju d := by
  unfold Ju
  by_cases hx : ∃ o, Is R8 d o
  · obtain ⟨o, ho⟩ := hx
    rw [Jj ho]
    obtain ⟨g1, g2, g3⟩ := Gc ho.2
    have e1 : (gu (d, false)).1 = ((fH o).length : Int) := by
      rw [← g2]
      unfold gu gH
      rw [if_neg (by simp; omega)]
      match d, g1 with
      | a :: b :: r, _ => rfl
    have hl := sS o
    have hlb := zm o
    have hle := ho.2.length_le
    have e2 : (if (gu (d, false)).1 > 2 then (gu (d, false)).1 else 2).toNat = (fH o).length := by
      rw [if_pos (by omega)]; omega
    have e3 : tJ ((d.take (if (gu (d, false)).1 > 2 then (gu (d, false)).1 else 2).toNat).drop 2) = (o, (two (yI (vP o)), false)) := by
      rw [e2, g3, xg, Ji]
    unfold De
    rw [e3, if_neg (by rw [GZ, decide_eq_true_eq]; omega), if_neg (by omega), if_neg (by simp), if_neg (fun hh => hh ho.1), if_neg (fun hh => hh (by rw [e1, Int.toNat_natCast, g3])), e1]
  · rw [C9 hx]
    unfold De
    generalize (d.take (if (gu (d, false)).1 > 2 then (gu (d, false)).1 else 2).toNat).drop 2 = E
    by_cases c1 : (gu (d, false)).2.2 = true
    · rw [if_pos c1]
    rw [if_neg c1]
    by_cases c2 : (gu (d, false)).1 > (d.length : Int)
    · rw [if_pos c2]
    rw [if_neg c2]
    by_cases c3 : (tJ E).2.2 = true
    · rw [if_pos c3]
    rw [if_neg c3]
    by_cases c4 : iK (tJ E).1 = 0
    · rw [if_neg (fun hh => hh c4)]
      by_cases c5 : fH (tJ E).1 = d.take (gu (d, false)).1.toNat
      · refine absurd ⟨(tJ E).1, c4, ?_⟩ hx
        rw [c5]; exact List.take_prefix _ _
      · rw [if_pos c5]
    · rw [if_pos c4]

theorem DI {n : Nat} {d : List Int} (h : pV d) (hb : d.length ≤ big) (hn : big < n) : oC n d = some ((Ju d).1, (Ju d).2, ()) := by
  rw [KA h hb hn, OO h]
end Go.Proofs.YtailcbngagacaaaGreat.Bz
