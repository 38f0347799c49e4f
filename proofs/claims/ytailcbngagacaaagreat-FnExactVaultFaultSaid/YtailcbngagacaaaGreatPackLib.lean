/- The bytes of an op, and how they are read back. No program in sight. -/
import Derived.Test.YtailcbngagacaaaGreatOwF
set_option linter.unusedSectionVars false
set_option linter.unusedVariables false
set_option linter.unusedSimpArgs false
namespace Go.Proofs.YtailcbngagacaaaGreat.zL
open Go

abbrev G7 := Int × List Int × List Int × List Int × Int × Int × Int × List Int × Unit
abbrev Tk := List Int × Bool

def two (n : Int) : List Int := [n / 256, n % 256]
def yI (l : List Int) : Int := l.foldl (fun s b => (s * 31 + b) % 65521) 1
def jh (o : G7) : List Int :=
  o.1 :: (o.2.1.length : Int) :: (o.2.1 ++ (o.2.2.1.length : Int) :: (o.2.2.1 ++ (o.2.2.2.1.length : Int) :: (o.2.2.2.1.flatMap two ++ o.2.2.2.2.1 :: o.2.2.2.2.2.1 :: (two o.2.2.2.2.2.2.1 ++ (two (o.2.2.2.2.2.2.2.1.length : Int) ++ o.2.2.2.2.2.2.2.1)))))
def vP (o : G7) : List Int := two (((jh o).length : Int) + 4) ++ jh o
def fH (o : G7) : List Int := vP o ++ two (yI (vP o))

theorem jU (n : Int) : (two n).length = 2 := rfl
theorem val_two (n : Int) : (two n).getD 0 0 * 256 + (two n).getD 1 0 = n := by
  show n / 256 * 256 + n % 256 = n
  omega
theorem zn (us : List Int) : (us.flatMap two).length = 2 * us.length := by
  induction us with
  | nil => rfl
  | cons u us ih => simp only [List.flatMap_cons, List.length_append, jU, ih, List.length_cons]; omega
theorem zm (o : G7) : (jh o).length = 10 + o.2.1.length + o.2.2.1.length + 2 * o.2.2.2.1.length + o.2.2.2.2.2.2.2.1.length := by
  simp only [jh, List.length_cons, List.length_append, zn, jU]
  omega
theorem Mm (o : G7) : (vP o).length = (jh o).length + 2 := by simp only [vP, List.length_append, jU]; omega
theorem sS (o : G7) : (fH o).length = (jh o).length + 4 := by simp only [fH, List.length_append, Mm, jU]

/-! ### The program's reader -/
def gH (n : Nat) (t : Tk) : List Int × Tk := if t.2 = true ∨ t.1.length < n then (List.replicate n 0, (t.1, true)) else (t.1.take n, (t.1.drop n, false))
def iC (t : Tk) : Int × Tk := ((gH 1 t).1.getD 0 0, (gH 1 t).2)
def gu (t : Tk) : Int × Tk := ((gH 2 t).1.getD 0 0 * 256 + (gH 2 t).1.getD 1 0, (gH 2 t).2)
def nK (t : Tk) : Nat → List Int × Tk
  | 0 => ([], t)
  | n + 1 => ((nK t n).1 ++ [(gu (nK t n).2).1], (gu (nK t n).2).2)

theorem GV {xs r : List Int} : gH xs.length (xs ++ r, false) = (xs, (r, false)) := by
  unfold gH
  rw [if_neg (by simp)]
  simp
theorem Vb {x : Int} {r : List Int} : iC (x :: r, false) = (x, (r, false)) := by
  have := GV (xs := [x]) (r := r)
  unfold iC
  rw [show gH 1 (x :: r, false) = ([x], (r, false)) from this]
  rfl
theorem Qb {n : Int} {r : List Int} : gu (two n ++ r, false) = (n, (r, false)) := by
  have := GV (xs := two n) (r := r)
  unfold gu
  rw [show gH 2 (two n ++ r, false) = (two n, (r, false)) from this, val_two]
theorem UZ {us r : List Int} : nK (us.flatMap two ++ r, false) us.length = (us, (r, false)) := by
  have h : ∀ k, k ≤ us.length → nK (us.flatMap two ++ r, false) k = (us.take k, ((us.drop k).flatMap two ++ r, false)) := by
    intro k
    induction k with
    | zero => intro _; simp [nK]
    | succ k ih =>
      intro hk
      have hlt : k < us.length := by omega
      have hd : us.drop k = us[k] :: us.drop (k + 1) := List.drop_eq_getElem_cons hlt
      have ht : us.take (k + 1) = us.take k ++ [us[k]] := by simp
      rw [nK, ih (by omega)]
      simp only [hd, List.flatMap_cons, List.append_assoc, Qb, ht]
  have := h us.length (Nat.le_refl _)
  simpa using this

structure acY (d : List Int) where
  k : Int × Tk := iC (d, false)
  bn : Int × Tk := iC k.2
  b : List Int × Tk := gH bn.1.toNat bn.2
  tn : Int × Tk := iC b.2
  t : List Int × Tk := gH tn.1.toNat tn.2
  un : Int × Tk := iC t.2
  u : List Int × Tk := nK un.2 un.1.toNat
  m : Int × Tk := iC u.2
  f : Int × Tk := iC m.2
  da : Int × Tk := gu f.2
  xn : Int × Tk := gu da.2
  x : List Int × Tk := gH xn.1.toNat xn.2
def tJ (d : List Int) : G7 × Tk :=
  let r : acY d := {}
  ((r.k.1, r.b.1, r.t.1, r.u.1, r.m.1, r.f.1, r.da.1, r.x.1, ()), r.x.2)

theorem Ji (o : G7) (r : List Int) : tJ (jh o ++ r) = (o, (r, false)) := by
  obtain ⟨k, b, t, u, m, f, da, x, _⟩ := o
  simp only [tJ, jh, List.cons_append, List.append_assoc, Vb, Int.toNat_natCast, GV, UZ, Qb]

/-! ### The reference's reader -/
def bO (t : Tk) : Int × Tk := match t.1 with | [] => (0, ([], true)) | x :: r => (x, (r, t.2))
def iT (t : Tk) : Int × Tk := ((bO t).1 * 256 + (bO (bO t).2).1, (bO (bO t).2).2)
def iw : Nat → Tk → List Int × Tk
  | 0, t => ([], t)
  | n + 1, t => if t.2 = true then ([], t) else ((bO t).1 :: (iw n (bO t).2).1, (iw n (bO t).2).2)
def mo : Nat → Tk → List Int × Tk
  | 0, t => ([], t)
  | n + 1, t => if t.2 = true then ([], t) else ((iT t).1 :: (mo n (iT t).2).1, (mo n (iT t).2).2)

theorem IG {x : Int} {r : List Int} : bO (x :: r, false) = (x, (r, false)) := rfl
theorem M6 {n : Int} {r : List Int} : iT (two n ++ r, false) = (n, (r, false)) := by
  show (n / 256 * 256 + n % 256, (r, false)) = _
  rw [show n / 256 * 256 + n % 256 = n by omega]
theorem II {r : List Int} : ∀ {xs : List Int}, iw xs.length (xs ++ r, false) = (xs, (r, false))
  | [] => rfl
  | x :: xs => by
    rw [List.length_cons, iw, if_neg (by simp), List.cons_append, IG, II (xs := xs)]
theorem Jy {r : List Int} : ∀ {us : List Int}, mo us.length (us.flatMap two ++ r, false) = (us, (r, false))
  | [] => rfl
  | u :: us => by
    rw [List.length_cons, mo, if_neg (by simp), List.flatMap_cons, List.append_assoc, M6, Jy (us := us)]

structure acZ (d : List Int) where
  k : Int × Tk := bO (d, false)
  bn : Int × Tk := bO k.2
  b : List Int × Tk := iw bn.1.toNat bn.2
  tn : Int × Tk := bO b.2
  t : List Int × Tk := iw tn.1.toNat tn.2
  un : Int × Tk := bO t.2
  u : List Int × Tk := mo un.1.toNat un.2
  m : Int × Tk := bO u.2
  f : Int × Tk := bO m.2
  da : Int × Tk := iT f.2
  xn : Int × Tk := iT da.2
  x : List Int × Tk := iw xn.1.toNat xn.2
def Cb (d : List Int) : G7 × Tk :=
  let r : acZ d := {}
  ((r.k.1, r.b.1, r.t.1, r.u.1, r.m.1, r.f.1, r.da.1, r.x.1, ()), r.x.2)

theorem Ba (o : G7) (r : List Int) : Cb (jh o ++ r) = (o, (r, false)) := by
  obtain ⟨k, b, t, u, m, f, da, x, _⟩ := o
  simp only [Cb, jh, List.cons_append, List.append_assoc, IG, Int.toNat_natCast, II, Jy, M6]

/-! ### An op at the beginning of bytes -/
section
variable {R : G7 → Prop}
def Is (R : G7 → Prop) (d : List Int) (o : G7) : Prop := R o ∧ fH o <+: d

theorem Gc {d : List Int} {o : G7} (h : fH o <+: d) : 2 ≤ d.length ∧ d.getD 0 0 * 256 + d.getD 1 0 = ((fH o).length : Int) ∧ d.take (fH o).length = fH o := by
  obtain ⟨r, rfl⟩ := h
  refine ⟨by rw [List.length_append, sS]; omega, ?_, by simp⟩
  have e : (fH o ++ r) = two (((jh o).length : Int) + 4) ++ (jh o ++ two (yI (vP o)) ++ r) := by simp [fH, vP]
  rw [e, sS]
  show ((((jh o).length : Int) + 4) / 256) * 256 + (((jh o).length : Int) + 4) % 256 = _
  omega
theorem xg (o : G7) : (fH o).drop 2 = jh o ++ two (yI (vP o)) := rfl

theorem aas {d : List Int} {o o' : G7} (h : fH o <+: d) (h' : fH o' <+: d) : o = o' := by
  obtain ⟨_, e1, t1⟩ := Gc h
  obtain ⟨_, e2, t2⟩ := Gc h'
  have hl : (fH o).length = (fH o').length := by omega
  rw [hl, t2] at t1
  have hd := congrArg (fun l => tJ (l.drop 2)) t1
  simp only [xg, Ji] at hd
  exact (congrArg Prod.fst hd).symm

open Classical in
noncomputable def u7 (R : G7 → Prop) (d : List Int) : Option G7 := if h : ∃ o, Is R d o then some h.choose else none
theorem Jj {d : List Int} {o : G7} (h : Is R d o) : u7 R d = some o := by
  unfold u7
  rw [dif_pos ⟨o, h⟩]
  have h2 : ∃ o, Is R d o := ⟨o, h⟩
  exact congrArg some (aas h2.choose_spec.2 h.2)
theorem C9 {d : List Int} (h : ¬ ∃ o, Is R d o) : u7 R d = none := by
  unfold u7
  rw [dif_neg h]
theorem Cc {d : List Int} {o : G7} (h : u7 R d = some o) : Is R d o := by
  unfold u7 at h
  split at h
  · rename_i hh
    simp only [Option.some.injEq] at h
    rw [← h]
    exact hh.choose_spec
  · simp at h

/-- All ops from the beginning on, and how many bytes they have. -/
noncomputable def vG (R : G7 → Prop) : Nat → List Int → List G7 × Nat
  | 0, _ => ([], 0)
  | k + 1, d => match u7 R d with
    | none => ([], 0)
    | some o => (o :: (vG R k (d.drop (fH o).length)).1, (fH o).length + (vG R k (d.drop (fH o).length)).2)

theorem Gd : ∀ {k : Nat} {d : List Int}, ∀ o ∈ (vG R k d).1, R o
  | 0, _, o, h => by simp [vG] at h
  | k + 1, d, o, h => by
    rw [vG] at h
    cases hr : u7 R d with
    | none => rw [hr] at h; simp at h
    | some q =>
      rw [hr] at h
      rcases List.mem_cons.1 h with rfl | h
      · exact (Cc hr).1
      · exact Gd o h
theorem PK : ∀ {k : Nat} {d : List Int}, (vG R k d).2 ≤ d.length ∧ 13 * (vG R k d).1.length ≤ d.length
  | 0, _ => by simp [vG]
  | k + 1, d => by
    rw [vG]
    cases hr : u7 R d with
    | none => simp
    | some q =>
      have h1 := (Cc hr).2.length_le
      have h2 := PK (k := k) (d := d.drop (fH q).length)
      rw [List.length_drop] at h2
      have h3 := sS q
      have h4 := zm q
      simp only [List.length_cons]
      omega
end
end Go.Proofs.YtailcbngagacaaaGreat.zL
