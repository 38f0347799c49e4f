/- A verified reading of translated code: values in place of memory; part F of 6. No condition. Own work of this seat. -/
import Derived.Test.YtcelknaomealbaaDoorOwE
/- The framework, part 62: a law. Own work of this seat. -/
set_option linter.unusedSectionVars false
set_option linter.unusedVariables false
set_option linter.unusedSimpArgs false
namespace Go.Proofs.YtcelknaomealbaaDoor.Ow
open Go

section
variable {P : Program} {T : Tab} {W W' : World} {H : Type} {enc : TypeId × Value → H}

/-- The parameters' types. -/
def ParsTy (P : Program) (T : Tab) : List PSh → List TypeId → Prop
  | [], [] => True
  | .val k [] :: ps, t :: ts => TyOk P T t k ∧ ParsTy P T ps ts
  | _, _ => False

/-- How much the arguments hold. -/
def szC : (ps : List PSh) → Cont (kin ps) → Nat
  | .val k _ :: ps, c => ksz k c.1 + szC ps c.2
  | _, _ => 0

def lenC : (ps : List PSh) → Cont (kin ps) → Prop
  | .val k _ :: ps, c => lenOk k c.1 ∧ lenC ps c.2
  | _, _ => True

theorem vc_of [Fr] {t : TypeId} {k : K} {v : Value} {base : Nat} {x : El k} {ok : Nat → Prop} (ht : TyOk P T t k) (hv : Value.okWide P W .any base t v) (hV : Vw (hp W) ok k x v.cells.toList) : VC k v v.cells.toList := by
  have hplain : ∀ {u : Value}, (∀ y, v ≠ .agg y) → v.cells.toList = [u] → VC k v v.cells.toList ∨ ∃ c, k = .st c := by
    intro u hn hu
    cases k with
    | st c => exact .inr ⟨c, rfl⟩
    | _ =>
      refine .inl ⟨?_, hn⟩
      cases v <;> first | rfl | exact absurd rfl (hn _)
  unfold TyOk TyOk2 at ht
  cases k with
  | st c =>
    obtain ⟨⟨fs, hu, _⟩, _⟩ := ht
    unfold Value.okWide at hv
    rw [hu] at hv
    obtain ⟨cs, rfl, _⟩ := hv
    show Value.agg cs = .agg (cs.toList).toArray
    simp
  | unit => exact ht.elim
  | pair a b => exact ht.elim
  | gap n => exact ht.elim
  | int ik =>
    unfold Value.okWide at hv
    rw [ht.1] at hv
    refine ⟨?_, ?_⟩ <;> cases v <;> simp_all [Cell.okWide, Cell.ok, Value.cells]
  | bool =>
    unfold Value.okWide at hv
    rw [ht.1] at hv
    refine ⟨?_, ?_⟩ <;> cases v <;> simp_all [Cell.okWide, Cell.ok, Value.cells]
  | str =>
    unfold Value.okWide at hv
    rw [ht.1] at hv
    refine ⟨?_, ?_⟩ <;> cases v <;> simp_all [Cell.okWide, Cell.ok, Value.cells]
  | sl e k =>
    unfold Value.okWide at hv
    rw [ht.1] at hv
    refine ⟨?_, ?_⟩ <;> cases v <;> simp_all [Cell.okWide, Cell.ok, Value.cells]

theorem open_args [Fr] (hfr : ∀ b, b < W.heap.size → Fr.free b) : ∀ {ps : List PSh} {ts : List TypeId} {vs : List Value} {ds : List (DataW H)} {p : List MemPlace} {base : Nat}, ParsTy P T ps ts → DataW.TrodAll enc P W 0 (fun _ => true) true ts vs ds p →
    (∀ (j : Nat) t v, ts[j]? = some t → vs[j]? = some v → Value.okWide P W .any base t v) → ∃ c, ValL W ps c vs ∧ szC ps c ≤ dszL ds ∧ ds.length = ps.length ∧ lenC ps c
  | [], [], vs, ds, p, _, _, h, _ => by
    obtain ⟨rfl, rfl, _⟩ := ChangeShapes.trodAll_nil h
    exact ⟨(), trivial, Nat.le_refl _, rfl, trivial⟩
  | .val k [] :: ps, t :: ts, vs, ds, p, base, hp1, h, hv => by
    obtain ⟨v, vs', d, ds', p1, q, rfl, rfl, rfl, ⟨n, h1⟩, h2⟩ := ChangeShapes.trodAll_cons h
    obtain ⟨c, g1, g2, g3, g4⟩ := open_args hfr hp1.2 h2 (fun j t v ht hv' => hv (j + 1) t v (by simpa using ht) (by simpa using hv'))
    obtain ⟨x, f1, f2, f3⟩ := (trod_open (T := T) (enc := enc) hfr k).1 t n _ d p1 hp1.1 h1
    refine ⟨(x, c), ⟨⟨_, vc_of hp1.1 (hv 0 t v rfl rfl) f1, f1⟩, g1⟩, ?_, by simp [g3], f3, g4⟩
    simp only [szC, dszL]
    omega
  | [], _ :: _, _, _, _, _, h, _, _ => h.elim
  | .val _ [] :: _, [], _, _, _, _, h, _, _ => h.elim
  | .val _ (_ :: _) :: _, ts, _, _, _, _, h, _, _ => by cases ts <;> exact h.elim
  | .ro _ :: _, ts, _, _, _, _, h, _, _ => by cases ts <;> exact h.elim
  | .rw _ _ _ _ :: _, ts, _, _, _, _, h, _, _ => by cases ts <;> exact h.elim
  | .brw _ _ _ :: _, ts, _, _, _, _, h, _, _ => by cases ts <;> exact h.elim
  | .own _ _ :: _, ts, _, _, _, _, h, _, _ => by cases ts <;> exact h.elim
  | .fn _ _ :: _, ts, _, _, _, _, h, _, _ => by cases ts <;> exact h.elim
  | .into _ _ :: _, ts, _, _, _, _, h, _, _ => by cases ts <;> exact h.elim

theorem sameAt_old (hO : OldW W W') {p : MemPlace} (hp1 : p.block < W.heap.size) : W.sameAt W' p := by
  have h := hO.2.2.2 p.block hp1
  cases p with
  | cell b off =>
    have h' : W'.heap[b]? = W.heap[b]? := h
    show W'.cell? _ = W.cell? _
    unfold World.cell?
    simp only [h']
  | map b => exact h

theorem read_again [Fr] (hO : OldW W W') {sp : Nat → Bool} (hsp : ∀ b, b < W.heap.size → sp b = true) : ∀ {ps : List PSh} {ts : List TypeId} {vs : List Value} {ds : List (DataW H)} {p : List MemPlace}, ParsTy P T ps ts → DataW.TrodAll enc P W 0 (fun _ => true) true ts vs ds p →
    DataW.TrodAll enc P W' 0 sp true ts vs ds p
  | [], [], vs, ds, p, _, h => by
    obtain ⟨rfl, rfl, rfl⟩ := ChangeShapes.trodAll_nil h
    exact rfl
  | .val k [] :: ps, t :: ts, vs, ds, p, hp1, h => by
    obtain ⟨v, vs', d, ds', p1, q, rfl, rfl, rfl, ⟨n, h1⟩, h2⟩ := ChangeShapes.trodAll_cons h
    have h3 := read_again hO hsp hp1.2 h2
    have h4 := trod_sp hsp n t k _ _ hp1.1 h1
    exact ⟨p1, q, ⟨n, DataW.trod_carry n t _ _ h4 (fun p hp2 => sameAt_old hO (DataW.trod_lt n t _ _ h1 p hp2))⟩, h3, rfl⟩
  | [], _ :: _, _, _, _, h, _ => h.elim
  | .val _ [] :: _, [], _, _, _, h, _ => h.elim
  | .val _ (_ :: _) :: _, ts, _, _, _, h, _ => by cases ts <;> exact h.elim
  | .ro _ :: _, ts, _, _, _, h, _ => by cases ts <;> exact h.elim
  | .rw _ _ _ _ :: _, ts, _, _, _, h, _ => by cases ts <;> exact h.elim
  | .brw _ _ _ :: _, ts, _, _, _, h, _ => by cases ts <;> exact h.elim
  | .own _ _ :: _, ts, _, _, _, h, _ => by cases ts <;> exact h.elim
  | .fn _ _ :: _, ts, _, _, _, h, _ => by cases ts <;> exact h.elim
  | .into _ _ :: _, ts, _, _, _, h, _ => by cases ts <;> exact h.elim

theorem kept_old (hO : OldW W W') (may : MemPlace → Prop) : W.keptBut W' may := by
  refine ⟨hO.1, hO.2.1, fun i hi => ?_⟩
  have h : W'.heap[i]? = W.heap[i]? := hO.2.2.2 i hi
  rw [h]
  cases W.heap[i]? with
  | none => rfl
  | some o =>
    cases o with
    | cells c t fr => exact ⟨rfl, rfl, rfl, fun _ _ => rfl⟩
    | map es clock => exact .inr ⟨rfl, rfl⟩
    | _ => rfl

/-- In a law's own world nothing is turned that was there. -/
abbrev frOf (W : World) : Fr := ⟨fun b => b < W.heap.size, hp W⟩

/-- What the walk of a law gives. -/
theorem law_contract {f : FuncId} {fn : Func} {code : Code} {ps : List PSh} {F : Nat → Cont (kin ps) → Option (Cont (kres [.val .bool [] []] ++ kout ps))} {s : ChangeSpec} {tb : TypeId} {N : Nat}
    (hf : P.funcs[f]? = some fn) (hname : (fn.name == "runtime.NumGoroutine") = false) (hbody : fn.body = some code) (hps : ParsTy P T ps fn.params.toList) (hres : fn.resultTypes = #[tb]) (htb : P.underlying tb = some .bool)
    (hE : letI := frOf W; ∀ n, EntryOk P n ⟨f, ps, [.val .bool [] []], F⟩) (hlaw : ∀ c : Cont (kin ps), lenC ps c → szC ps c ≤ N → ∃ n out, F n c = some out ∧ out.1 = true)
    (hvars : s.vars = []) (hspec : ∀ ds : List (DataW H), ds.length = ps.length → s.fn H ds = { results := [.lit (.bool true)], args := ds })
    {base : Nat} {args : Array Value} {ds gs : List (DataW H)} {before : List MemPlace}
    (hval : ∀ (j : Nat) t v, fn.params[j]? = some t → args[j]? = some v → Value.okWide P W .any base t v)
    (hW : DataW.Whole enc P fn.params.toList s.vars false W args.toList ds gs before) (hb : dszL (ds ++ gs) ≤ N) :
    Calls P f args W fun e W' => ∃ v, e = .returned v ∧ s.post enc P fn false true false false W args v W' := by
  letI fr : Fr := frOf W
  have hW' := hW
  obtain ⟨p, q, hA, hV, hpq, hfz, hnd⟩ := hW
  rw [hvars] at hV
  obtain ⟨rfl, rfl⟩ := ChangeShapes.trodVars_none hV
  rw [List.append_nil] at hb
  obtain ⟨c, h1, h2, h3, h6⟩ := open_args (T := T) (fun b hb => hb) hps hA (fun j t v ht hv => hval j t v (by simpa using ht) (by simpa using hv))
  obtain ⟨n, out, h4, h5⟩ := hlaw c h6 (by omega)
  refine (law_call (fun b hb => ⟨hb, rfl⟩) (hE n) h4 h5 h1 (Go.MuLone.run_callFunc_enter hf hname hbody args W)).mono ?_
  rintro e W' ⟨rfl, hO⟩
  have hsp := hspec ds h3
  rw [List.append_nil] at hpq
  refine ⟨_, rfl, ds, [], before, [], p, [], hW', ?_, ?_, ?_, kept_old hO _, fun h => by simp at h⟩
  · rw [List.append_nil, hsp, hres]
    exact ⟨[], [], ⟨1, by simp [DataW.trod, Value.cells, htb]⟩, rfl, rfl⟩
  · rw [List.append_nil, hsp]
    exact read_again hO (fun b hb => by simpa using hb) hps hA
  · rw [List.append_nil, hsp, hvars]
    exact rfl

end
end Go.Proofs.YtcelknaomealbaaDoor.Ow

/- The framework, part 63: types, checked by computing. Own work of this seat. -/
namespace Go.Proofs.YtcelknaomealbaaDoor.Ow
open Go

/-- The types that are spoken of, with their sizes in bytes; the pointer types. -/
structure TyL where
  ty : List (TypeId × K)
  bytes : List (TypeId × Nat)
  ptr : List TypeId

def look {A : Type} (n : Nat) : List (Nat × A) → Option A
  | [] => none
  | (m, a) :: l => bif Nat.beq n m then some a else look n l
def lookD (n : Nat) : List (Nat × Nat) → Nat
  | [] => 0
  | (m, a) :: l => bif Nat.beq n m then a else lookD n l

def TyL.tab (L : TyL) : Tab := { ty := fun t => look t L.ty, bytes := fun t => lookD t L.bytes, ptr := fun t => memN t L.ptr, eq := fun _ => false }

def isZ1 : K → Value → Bool
  | .int ik, .int jk (.ofNat 0) => ikBeq ik jk
  | .bool, .bool false => true
  | .str, .string s => Nat.beq s.data.size 0
  | .sl _ _, .slice none 0 0 => true
  | _, _ => false
def isZR : K → List Value → Option (List Value)
  | .pair a b, l => match isZR a l with
    | some m => isZR b m
    | none => none
  | .unit, l => some l
  | .st f, l => isZR f l
  | .gap _, _ => none
  | k, v :: l => bif isZ1 k v then some l else none
  | _, [] => none
def isZ : K → Value → Bool
  | .st f, .agg arr => match isZR f arr.toList with
    | some [] => true
    | _ => false
  | .st _, _ => false
  | k, v => isZ1 k v

def infoChk (P : Program) (t : TypeId) (k : K) : Bool := match P.info? t with
  | some i => Nat.beq i.size k.size && (match i.zero with
    | some v => isZ k v
    | none => false)
  | none => false

def tyChk (P : Program) (T : Tab) : K → (TypeId → Bool) × (List Field → Nat → Bool)
  | .int ik => (fun t => (match P.underlying t with
    | some (.int jk) => ikBeq ik jk
    | _ => false) && infoChk P t (.int ik), fun _ _ => false)
  | .bool => (fun t => (match P.underlying t with
    | some .bool => true
    | _ => false) && infoChk P t .bool, fun _ _ => false)
  | .str => (fun t => (match P.underlying t with
    | some .string => true
    | _ => false) && infoChk P t .str, fun _ _ => false)
  | .sl e k => (fun t => (match P.underlying t with
    | some (.slice e') => Nat.beq e e'
    | _ => false) && infoChk P t (.sl e k) && (tyChk P T k).1 e && Nat.blt 0 k.size && (match P.info? e with
    | some i => Nat.beq i.bytes (T.bytes e) && Nat.blt 0 i.bytes
    | none => false), fun _ _ => false)
  | .unit => (fun _ => false, fun fs _ => fs.isEmpty)
  | .pair a b => (fun _ => false, fun fs off => match fs with
    | [] => false
    | f :: fs => Nat.beq f.offset off && (tyChk P T a).1 f.type && Nat.blt 0 a.size && (tyChk P T b).2 fs (off + a.size))
  | .st c => (fun t => (match P.underlying t with
    | some (.struct fs) => (tyChk P T c).2 fs.toList 0
    | _ => false) && infoChk P t (.st c), fun _ _ => false)
  | .gap _ => (fun _ => false, fun _ _ => false)

def tabChk (P : Program) (L : TyL) : Bool := L.ty.all (fun q => (tyChk P L.tab q.2).1 q.1) && L.ptr.all fun t => match P.underlying t with
  | some (.pointer _) => true
  | _ => false

section
variable [Fr] {P : Program} {T : Tab}

theorem isZ1_ok {k : K} {v : Value} (h : isZ1 k v = true) : zcells k = [v] ∧ zval k = v := by
  unfold isZ1 at h
  split at h
  · have := ikBeq_eq h; subst this; exact ⟨rfl, rfl⟩
  · exact ⟨rfl, rfl⟩
  · rename_i s
    have : s = ByteArray.empty := by
      have h1 := Nat.eq_of_beq_eq_true h
      obtain ⟨d⟩ := s
      have : d = #[] := Array.eq_empty_of_size_eq_zero h1
      subst this
      rfl
    subst this
    exact ⟨rfl, rfl⟩
  · exact ⟨rfl, rfl⟩
  · simp at h

theorem isZR_ok : ∀ {k : K} {l m : List Value}, isZR k l = some m → l = zcells k ++ m := by
  intro k
  have one : ∀ {k : K} {l m : List Value}, (match l with | v :: l => (bif isZ1 k v then some l else none) | [] => none) = some m → l = zcells k ++ m := by
    intro k l m h
    cases l with
    | nil => simp at h
    | cons v l =>
      obtain ⟨hb, h⟩ := bif_some h
      simp only [Option.some.injEq] at h
      subst h
      rw [(isZ1_ok hb).1]
      rfl
  induction k with
  | pair a b iha ihb =>
    intro l m h
    simp only [isZR] at h
    split at h
    · rename_i q hq
      rw [iha hq, ihb h]
      simp [zcells]
    · simp at h
  | unit => intro l m h; simp only [isZR, Option.some.injEq] at h; subst h; rfl
  | st f ih => intro l m h; exact ih (show isZR f l = some m from h)
  | gap n => intro l m h; simp [isZR] at h
  | int ik => intro l m h; exact one (k := .int ik) (by cases l <;> exact h)
  | bool => intro l m h; exact one (k := .bool) (by cases l <;> exact h)
  | str => intro l m h; exact one (k := .str) (by cases l <;> exact h)
  | sl e k _ => intro l m h; exact one (k := .sl e k) (by cases l <;> exact h)

theorem isZ_ok {k : K} {v : Value} (h : isZ k v = true) : zval k = v := by
  unfold isZ at h
  split at h
  · rename_i f arr
    split at h
    · rename_i hz
      have := isZR_ok hz
      simp only [List.append_nil] at this
      show Value.agg (zcells f).toArray = .agg arr
      rw [← this]
    · simp at h
  · simp at h
  · exact (isZ1_ok h).2

theorem infoChk_ok {t : TypeId} {k : K} (h : infoChk P t k = true) : InfoOk P t k := by
  unfold infoChk at h
  split at h
  · rename_i i hi
    simp only [Bool.and_eq_true] at h
    obtain ⟨h1, h2⟩ := h
    split at h2
    · rename_i v hv
      exact ⟨i, hi, Nat.eq_of_beq_eq_true h1, by rw [hv, isZ_ok h2]⟩
    · simp at h2
  · simp at h

theorem blt_ok {a b : Nat} (h : Nat.blt a b = true) : a < b := by
  unfold Nat.blt at h
  exact Nat.le_of_ble_eq_true h

theorem tyChk_ok : ∀ {k : K}, (∀ t, (tyChk P T k).1 t = true → (TyOk2 P T k).1 t) ∧ ∀ fs off, (tyChk P T k).2 fs off = true → (TyOk2 P T k).2 fs off := by
  intro k
  induction k with
  | int ik =>
    refine ⟨fun t h => ?_, fun fs off h => by simp [tyChk] at h⟩
    simp only [tyChk, Bool.and_eq_true] at h
    obtain ⟨h1, h2⟩ := h
    split at h1
    · rename_i jk hu
      have := ikBeq_eq h1; subst this
      exact ⟨hu, infoChk_ok h2⟩
    · simp at h1
  | bool =>
    refine ⟨fun t h => ?_, fun fs off h => by simp [tyChk] at h⟩
    simp only [tyChk, Bool.and_eq_true] at h
    obtain ⟨h1, h2⟩ := h
    split at h1
    · rename_i hu; exact ⟨hu, infoChk_ok h2⟩
    · simp at h1
  | str =>
    refine ⟨fun t h => ?_, fun fs off h => by simp [tyChk] at h⟩
    simp only [tyChk, Bool.and_eq_true] at h
    obtain ⟨h1, h2⟩ := h
    split at h1
    · rename_i hu; exact ⟨hu, infoChk_ok h2⟩
    · simp at h1
  | sl e k ih =>
    refine ⟨fun t h => ?_, fun fs off h => by simp [tyChk] at h⟩
    simp only [tyChk, Bool.and_eq_true] at h
    obtain ⟨⟨⟨⟨h1, h2⟩, h3⟩, h4⟩, h5⟩ := h
    split at h1
    · rename_i e' hu
      have := Nat.eq_of_beq_eq_true h1; subst this
      split at h5
      · rename_i i hi
        simp only [Bool.and_eq_true] at h5
        exact ⟨hu, infoChk_ok h2, ih.1 e h3, blt_ok h4, i, hi, Nat.eq_of_beq_eq_true h5.1, blt_ok h5.2⟩
      · simp at h5
    · simp at h1
  | unit => exact ⟨fun t h => by simp [tyChk] at h, fun fs off h => show fs = [] by simpa [tyChk] using h⟩
  | gap n => exact ⟨fun t h => by simp [tyChk] at h, fun fs off h => by simp [tyChk] at h⟩
  | pair a b iha ihb =>
    refine ⟨fun t h => by simp [tyChk] at h, fun fs off h => ?_⟩
    cases fs with
    | nil => simp [tyChk] at h
    | cons f fs =>
      simp only [tyChk, Bool.and_eq_true] at h
      obtain ⟨⟨⟨h1, h2⟩, h3⟩, h4⟩ := h
      exact ⟨Nat.eq_of_beq_eq_true h1, iha.1 _ h2, blt_ok h3, ihb.2 _ _ h4⟩
  | st c ih =>
    refine ⟨fun t h => ?_, fun fs off h => by simp [tyChk] at h⟩
    simp only [tyChk, Bool.and_eq_true] at h
    obtain ⟨h1, h2⟩ := h
    split at h1
    · rename_i fs hu
      exact ⟨⟨fs, hu, ih.2 _ _ h1⟩, infoChk_ok h2⟩
    · simp at h1

theorem look_mem {A : Type} {n : Nat} {a : A} : ∀ {l : List (Nat × A)}, look n l = some a → (n, a) ∈ l
  | [], h => by simp [look] at h
  | (m, b) :: l, h => by
    simp only [look] at h
    cases hb : Nat.beq n m with
    | true =>
      rw [hb] at h
      have := Nat.eq_of_beq_eq_true hb
      simp only [cond_true, Option.some.injEq] at h
      subst this h
      simp
    | false =>
      rw [hb] at h
      exact .tail _ (look_mem h)

theorem tab_ok {L : TyL} (h : tabChk P L = true) : TabOk P L.tab := by
  unfold tabChk at h
  simp only [Bool.and_eq_true, List.all_eq_true] at h
  refine ⟨fun t k ht => tyChk_ok.1 t (h.1 (t, k) (look_mem ht)), fun t ht => ?_⟩
  have := h.2 t (memN_iff.1 ht)
  split at this
  · rename_i e he; exact ⟨e, he⟩
  · simp at this

theorem noStEq {L : TyL} : StEq P L.tab := fun t c x y u v w hp1 hp2 ok1 ok2 _ he => by simp [TyL.tab] at he

end
end Go.Proofs.YtcelknaomealbaaDoor.Ow

/- The framework, part 64: what a call list asks. Own work of this seat. -/
namespace Go.Proofs.YtcelknaomealbaaDoor.Ow
open Go

variable [Fr] {P : Program} {n : Nat}

theorem ca_nil : ∀ q ∈ ([] : List (Nat × Option Nat × Entry)), EntryOk P n q.2.2 := by simp
theorem ca_cons {f : Nat} {d : Option Nat} {E : Entry} {l : List (Nat × Option Nat × Entry)} (h : EntryOk P n E) (t : ∀ q ∈ l, EntryOk P n q.2.2) : ∀ q ∈ (f, d, E) :: l, EntryOk P n q.2.2 := by
  intro q hq
  rcases List.mem_cons.1 hq with rfl | hq
  · exact h
  · exact t q hq

/-- A function that was printed. -/
theorem fn_entry (hm : P.follows .mixedOrders = true) {L : TyL} (hL : tabChk P L = true) {E : Entry} {fn : Func} (hf : P.funcs[E.f]? = some fn) (hname : (fn.name == "runtime.NumGoroutine") = false) {hi : Hint} (hC : ∀ q ∈ hi.calls, EntryOk P n q.2.2)
    (hD : ∀ n (c : Cont (kin E.ps)), denF L.tab hi fn E.ps E.rs n c = E.F n c) : EntryOk P n E :=
  denF_entry hm (tab_ok hL) noStEq hf hname hC (fun c out h => by rw [hD]; exact h)

end Go.Proofs.YtcelknaomealbaaDoor.Ow

/- The framework, part 65: loops, by themselves. Own work of this seat. -/
namespace Go.Proofs.YtcelknaomealbaaDoor.Ow
open Go

/-- The first early end. -/
def firstR {R : Type} (step : Nat → Option R) (fin : R) : Nat → Nat → R
  | 0, _ => fin
  | m + 1, i => match step i with
    | some r => r
    | none => firstR step fin m (i + 1)

/-- A loop of which the state in each round is known. -/
theorem rounds_for {V R : Type} {B : (V → Option R) → V → Option R} (S : Nat → V) (step : Nat → Option (Option R)) (fin : Option R) {m : Nat} (h1 : ∀ L i, i < m → (∀ j, j < i → step j = none) → B L (S i) = match step i with | some r => r | none => L (S (i + 1))) (h2 : ∀ L, (∀ j, j < m → step j = none) → B L (S m) = fin) :
    ∀ (d i n : Nat), i + d = m → d < n → (∀ j, j < i → step j = none) → rounds B n (S i) = firstR step fin d i := by
  intro d
  induction d with
  | zero =>
    intro i n hi hn hp
    cases n with
    | zero => omega
    | succ n =>
      have : i = m := by omega
      subst this
      exact h2 _ hp
  | succ d ih =>
    intro i n hi hn hp
    cases n with
    | zero => omega
    | succ n =>
      show B (rounds B n) (S i) = _
      rw [h1 _ i (by omega) hp]
      unfold firstR
      cases hs : step i with
      | some r => rfl
      | none => exact ih (i + 1) n (by omega) (by omega) (fun j hj => by
          by_cases e : j = i
          · rw [e, hs]
          · exact hp j (by omega))

/-- The same, from the start. -/
theorem rounds_from {V R : Type} {B : (V → Option R) → V → Option R} {v0 : V} (S : Nat → V) (step : Nat → Option (Option R)) (fin : Option R) {m n : Nat} (h0 : v0 = S 0) (hn : m < n) (h1 : ∀ L i, i < m → (∀ j, j < i → step j = none) → B L (S i) = match step i with | some r => r | none => L (S (i + 1))) (h2 : ∀ L, (∀ j, j < m → step j = none) → B L (S m) = fin) :
    rounds B n v0 = firstR step fin m 0 := by
  rw [h0]
  exact rounds_for S step fin h1 h2 m 0 n (by omega) hn (fun j h => by omega)

theorem copy_step {A : Type} (d : A) {xs : List A} {i : Nat} (h : i < xs.length) : (xs.take i ++ List.replicate (xs.length - i) d).set ((i : Int).toNat) xs[i] = xs.take (i + 1) ++ List.replicate (xs.length - (i + 1)) d := by
  rw [Int.toNat_natCast]
  apply List.ext_getElem
  · simp; omega
  · intro j h1 h2
    rw [List.getElem_set]
    split
    · rename_i e
      subst e
      rw [List.getElem_append_left (by simp; omega)]
      simp
    · rename_i e
      simp only [List.getElem_append, List.length_take, List.getElem_take, List.getElem_replicate]
      split <;> split <;> first | rfl | omega

theorem getD_nat {A : Type} {l : List A} {i : Nat} (h : i < l.length) (d : A) : l.getD ((i : Int).toNat) d = l[i] := by
  simp [h]

theorem firstR_none {R : Type} {step : Nat → Option R} {fin : R} : ∀ {m i : Nat}, (∀ j, i ≤ j → j < i + m → step j = none) → firstR step fin m i = fin := by
  intro m
  induction m with
  | zero => intro i _; rfl
  | succ m ih =>
    intro i h
    unfold firstR
    rw [h i (Nat.le_refl _) (by omega)]
    exact ih (fun j h1 h2 => h j (by omega) (by omega))

theorem firstR_congr {R : Type} {s1 s2 : Nat → Option R} {f1 f2 : R} (hf : f1 = f2) : ∀ {m i : Nat}, (∀ j, i ≤ j → j < i + m → s1 j = s2 j) → firstR s1 f1 m i = firstR s2 f2 m i := by
  intro m
  induction m with
  | zero => intro i _; exact hf
  | succ m ih =>
    intro i h
    unfold firstR
    rw [h i (Nat.le_refl _) (by omega)]
    cases s2 i with
    | some r => rfl
    | none => exact ih (fun j h1 h2 => h j (by omega) (by omega))

/-- An early end that is always the same. -/
theorem firstR_const {R : Type} {step : Nat → Option R} {fin r : R} (hc : ∀ j, step j = none ∨ step j = some r) : ∀ {m i : Nat}, firstR step fin m i = r ∨ firstR step fin m i = fin := by
  intro m
  induction m with
  | zero => intro i; exact .inr rfl
  | succ m ih =>
    intro i
    unfold firstR
    rcases hc i with h | h
    · rw [h]; exact ih
    · rw [h]; exact .inl rfl

theorem wrap_i64 {x : Int} (h1 : -9223372036854775808 ≤ x) (h2 : x ≤ 9223372036854775807) : IntKind.i64.wrap x = x := by
  simp [IntKind.wrap, IntKind.bits, IntKind.signed]
  omega

theorem wrap_succ {i : Nat} {n : Nat} (h : i < n) (hn : n ≤ 9223372036854775807) : IntKind.i64.wrap ((i : Int) + 1) = ((i + 1 : Nat) : Int) := by
  rw [wrap_i64 (by omega) (by omega)]
  omega

theorem inLen_nat {i n : Nat} (h : i < n) : inLen (i : Int) n := ⟨by omega, by omega⟩

end Go.Proofs.YtcelknaomealbaaDoor.Ow

/- The framework, part 66: functions that are known by a contract. Own work of this seat. -/
namespace Go.Proofs.YtcelknaomealbaaDoor.Ow
open Go

variable [Fr]

section
variable {P : Program} {cx : Cx} {σ : St} {α : Asg} {F : List Nat} {a : Act} {w w' : World}

/-- The same state, in a world that has grown. -/
theorem Rel.grown (H : Rel cx σ α F a w) (hO : OldW w w') (ht : w'.tape = w.tape) : Rel cx σ α F a w' := H.grown0 hO.1 hO.2.1 hO.2.2.1 hO.2.2.2 ht

/-- Arguments that hold no memory. -/
def FlatL : (ps : List PSh) → Cont (kin ps) → List Value → Prop
  | [], _, [] => True
  | .val k _ :: ps, c, v :: vs => (∃ cs, VC k v cs ∧ Vw (fun _ => none) (fun _ => False) k c.1 cs) ∧ FlatL ps c.2 vs
  | _, _, _ => False
def flatPs : List PSh → Bool
  | [] => true
  | .val k _ :: ps => k.flat && flatPs ps
  | _ => false
/-- Results that hold no memory. -/
def FlatR : (rs : List RSh) → Cont (kres rs) → List Value → Prop
  | [], _, [] => True
  | .val k _ _ :: rs, c, v :: vs => k.flat = true ∧ (∃ cs, VC k v cs ∧ Vw (fun _ => none) (fun _ => False) k c.1 cs) ∧ FlatR rs c.2 vs
  | _, _, _ => False

theorem flat_args : ∀ {ps : List PSh} {i : Nat} {c : Cont (kin ps)} {vs : List Value}, flatPs ps = true → vs.length = ps.length → (∀ j v, vs[j]? = some v → AV1ok cx σ α F w (lookS (initS ps i c) (i + j)) v) → FlatL ps c vs
  | [], _, _, [], _, _, _ => trivial
  | [], _, _, _ :: _, _, h, _ => by simp at h
  | .val k l :: ps, i, c, [], _, h, _ => by simp at h
  | .val k l :: ps, i, c, v :: vs, hf, hl, h => by
    simp only [flatPs, Bool.and_eq_true] at hf
    have h0 := h 0 v rfl
    have e0 : lookS (initS (.val k l :: ps) i c) (i + 0) = .one (.val k c.1 (bif k.flat then [] else (extR i, 0) :: l.map fun j => (parR j, 0))) := by
      simp only [initS, lookS, Nat.add_zero]
      rw [show Nat.beq i i = true from Nat.beq_refl i]
      rfl
    rw [e0] at h0
    obtain ⟨cs, h1, h2⟩ := h0 (.inl hf.1)
    refine ⟨⟨cs, h1, Vw_flat hf.1 h2⟩, flat_args (i := i + 1) hf.2 (by simpa using hl) fun j u hu => ?_⟩
    have hj := h (j + 1) u (by simpa using hu)
    have e1 : lookS (initS (.val k l :: ps) i c) (i + (j + 1)) = lookS (initS ps (i + 1) c.2) (i + 1 + j) := by
      simp only [initS, lookS]
      have hb : Nat.beq (i + (j + 1)) i = false := by
        cases hb : Nat.beq (i + (j + 1)) i with
        | true => have := Nat.eq_of_beq_eq_true hb; omega
        | false => rfl
      rw [hb, show i + (j + 1) = i + 1 + j by omega]
      rfl
    rw [e1] at hj
    exact hj
  | .ro _ :: _, _, _, _, hf, _, _ => by simp [flatPs] at hf
  | .rw _ _ _ _ :: _, _, _, _, hf, _, _ => by simp [flatPs] at hf
  | .brw _ _ _ :: _, _, _, _, hf, _, _ => by simp [flatPs] at hf
  | .own _ _ :: _, _, _, _, hf, _, _ => by simp [flatPs] at hf
  | .fn _ _ :: _, _, _, _, hf, _, _ => by simp [flatPs] at hf
  | .into _ _ :: _, _, _, _, hf, _, _ => by simp [flatPs] at hf

theorem flat_out {σ : St} : ∀ {ps : List PSh} {i : Nat} {c : Cont (kout ps)}, flatPs ps = true → OutL σ ps i c
  | [], _, _, _ => trivial
  | .val k l :: ps, i, c, hf => by
    simp only [flatPs, Bool.and_eq_true] at hf
    exact flat_out (ps := ps) (i := i + 1) (c := c) hf.2
  | .ro _ :: _, _, _, hf => by simp [flatPs] at hf
  | .rw _ _ _ _ :: _, _, _, hf => by simp [flatPs] at hf
  | .brw _ _ _ :: _, _, _, hf => by simp [flatPs] at hf
  | .own _ _ :: _, _, _, hf => by simp [flatPs] at hf
  | .fn _ _ :: _, _, _, hf => by simp [flatPs] at hf
  | .into _ _ :: _, _, _, hf => by simp [flatPs] at hf

theorem flat_res : ∀ {rs : List RSh} {c : Cont (kres rs)} {vs : List Value}, FlatR rs c vs → ∃ fos, ResL cx σ α F w rs c vs fos ∧ fos.flatten = []
  | [], _, [], _ => ⟨[], trivial, rfl⟩
  | [], _, _ :: _, h => h.elim
  | .val k e p :: rs, c, [], h => h.elim
  | .val k e p :: rs, c, v :: vs, ⟨h0, ⟨cs, h1, h2⟩, h3⟩ => by
    obtain ⟨fos, g1, g2⟩ := flat_res h3
    exact ⟨[] :: fos, ⟨⟨rfl, [], cs, .inl h0, h1, Vw_flat h0 h2⟩, g1⟩, by simpa using g2⟩
  | .own _ _ _ _ :: _, _, vs, h => by cases vs <;> exact h.elim
  | .into _ _ :: _, _, vs, h => by cases vs <;> exact h.elim

/-- A function that is known by a contract over values without memory. -/
theorem contract_entry {n : Nat} {E : Entry} (hps : flatPs E.ps = true) (h : ∀ c out, E.F n c = some out → ∀ (args : Array Value) (w : World), (∀ b, Fr.free b → hp w b = Fr.obj b) → FlatL E.ps c args.toList →
    CallOk P E.f args w fun v w' => ∃ vs, v = tupV vs ∧ FlatR E.rs (Cont.fst _ _ out) vs ∧ OldW w w' ∧ w'.tape = w.tape) : EntryOk P n E := by
  intro c out hout cx α args w _ _ hsz _ H
  have hA := flat_args (cx := cx) (σ := initSt E.ps c) (α := α) (F := []) (w := w) (i := 0) (c := c) (vs := args.toList) hps (by simpa using hsz) (fun j v hv => by
    have := H.slots j
    rw [Array.getElem?_toList] at hv
    rw [Array.getD_eq_getD_getElem?, hv] at this
    rw [Nat.zero_add]
    exact this)
  have hpost : ∀ v w', (∃ vs, v = tupV vs ∧ FlatR E.rs (Cont.fst _ _ out) vs ∧ OldW w w' ∧ w'.tape = w.tape) → Post cx E.ps E.rs out v w' := by
    rintro v w' ⟨vs, h1, h2, h3, h4⟩
    obtain ⟨fos, g1, g2⟩ := flat_res (cx := cx) (σ := initSt E.ps c) (α := α) (F := []) (w := w') h2
    exact ⟨_, α, [], _, vs, fos, H.grown h3 h4, h1, g1, by rw [g2]; exact List.nodup_nil, fun b hb => by rw [g2] at hb; simp at hb, flat_out hps⟩
  rcases h c out hout args w (fun b hb => H.fixed hb) hA with ⟨h1, h2⟩ | ⟨v, w', h1, h2⟩
  · refine .inl ⟨h1, h2.mono ?_⟩
    rintro e w' ⟨v, rfl, hv⟩
    exact ⟨v, rfl, hpost v w' hv⟩
  · exact .inr ⟨v, w', h1, hpost v w' h2⟩

end
end Go.Proofs.YtcelknaomealbaaDoor.Ow

/- The framework, part 67: functions that are known by a contract and give a new row. Own work of this seat. -/
namespace Go.Proofs.YtcelknaomealbaaDoor.Ow
open Go

variable [Fr]

section
variable {P : Program} {cx : Cx} {σ : St} {α : Asg} {F : List Nat} {a : Act} {w w' : World}

/-- The same state, in a world that has grown; some new blocks lie aside. -/
theorem Rel.grownF (H : Rel cx σ α F a w) (hO : OldW w w') (ht : w'.tape = w.tape) (G : List Nat) (hG : ∀ b ∈ G, w.heap.size ≤ b ∧ b < w'.heap.size) (hnd : G.Nodup) : Rel cx σ α (G ++ F) a w' := by
  have hs : ∀ r, Same σ α σ α r := fun r => ⟨rfl, rfl, rfl, rfl⟩
  have hch : ∀ b, b < w.heap.size → hp w' b = hp w b := hO.2.2.2
  have T : Turn cx σ α F w σ α (G ++ F) w' (fun _ => []) (fun _ => []) := by
    refine ⟨rfl, ⟨hO.1, ht, hO.2.1⟩, hO.2.2.1, fun r R hr => ⟨R, hr, ?_⟩, fun r R' _ h => absurd (hs r) h, fun r R' h1 h2 => by rw [h1] at h2; simp at h2, fun b hb hne => absurd (hch b hb) hne, ?_, ?_,
      fun r R' _ h => absurd (hs r) h, fun r R r' R' _ _ _ h => absurd (hs r) h, ?_, fun r R R' h1 h2 _ => by rw [h1] at h2; simp only [Option.some.injEq] at h2; subst h2; exact ⟨rfl, rfl⟩⟩
    · cases hd : R.isDead with
      | true => exact .inl ⟨rfl, fun hk => by unfold Root.isDead at hd; rw [hk] at hd; simp at hd⟩
      | false => exact .inr ⟨rfl, rfl, rfl, Nat.le_refl _, rfl, rfl, fun _ => rfl, .inr ⟨rfl, rfl, hs r⟩⟩
    · rintro b (⟨r, R, h1, h2, h3⟩ | h)
      · exact absurd ⟨R, h1, h2⟩ h3
      · rcases List.mem_append.1 h with h | h
        · exact .inr (.inl (hG b h))
        · exact .inl h
    · refine List.nodup_append.2 ⟨hnd, H.fnd, fun b h1 c h2 e => ?_⟩
      have := (hG b h1).1
      have := (H.fl c h2).1
      omega
    · intro j pi b o n h1 h2 hne
      obtain ⟨R, hR, hk, hl, _⟩ := H.pbase j pi b o n h1 h2
      exact absurd (hch b ((H.roots _ R hR).mine b (by simp [blk, whR, hk, hl])).1) hne
  exact H.turn T (fun r R _ h => absurd (hs r) h) (fun r R _ h => absurd (hs r) h) (fun r R _ h => absurd (hs r) h)

/-- Arguments that hold no memory, functions by name among them. -/
def FlatF : (ps : List PSh) → Cont (kin ps) → List Value → Prop
  | [], _, [] => True
  | .val k _ :: ps, c, v :: vs => (∃ cs, VC k v cs ∧ Vw (fun _ => none) (fun _ => False) k c.1 cs) ∧ FlatF ps c.2 vs
  | .fn f [] :: ps, c, v :: vs => v = .func (.func f) #[] #[] ∧ FlatF ps c vs
  | _, _, _ => False
def flatFs : List PSh → Bool
  | [] => true
  | .val k _ :: ps => k.flat && flatFs ps
  | .fn _ [] :: ps => flatFs ps
  | _ => false

theorem flatF_args : ∀ {ps : List PSh} {i : Nat} {c : Cont (kin ps)} {vs : List Value}, flatFs ps = true → vs.length = ps.length → (∀ j v, vs[j]? = some v → AV1ok cx σ α F w (lookS (initS ps i c) (i + j)) v) → FlatF ps c vs
  | [], _, _, [], _, _, _ => trivial
  | [], _, _, _ :: _, _, h, _ => by simp at h
  | .val k l :: ps, i, c, [], _, h, _ => by simp at h
  | .val k l :: ps, i, c, v :: vs, hf, hl, h => by
    simp only [flatFs, Bool.and_eq_true] at hf
    have h0 := h 0 v rfl
    have e0 : lookS (initS (.val k l :: ps) i c) (i + 0) = .one (.val k c.1 (bif k.flat then [] else (extR i, 0) :: l.map fun j => (parR j, 0))) := by
      simp only [initS, lookS, Nat.add_zero]
      rw [show Nat.beq i i = true from Nat.beq_refl i]
      rfl
    rw [e0] at h0
    obtain ⟨cs, h1, h2⟩ := h0 (.inl hf.1)
    refine ⟨⟨cs, h1, Vw_flat hf.1 h2⟩, flatF_args (i := i + 1) hf.2 (by simpa using hl) fun j u hu => ?_⟩
    have hj := h (j + 1) u (by simpa using hu)
    have e1 : lookS (initS (.val k l :: ps) i c) (i + (j + 1)) = lookS (initS ps (i + 1) c.2) (i + 1 + j) := by
      simp only [initS, lookS]
      have hb : Nat.beq (i + (j + 1)) i = false := by
        cases hb : Nat.beq (i + (j + 1)) i with
        | true => have := Nat.eq_of_beq_eq_true hb; omega
        | false => rfl
      rw [hb, show i + (j + 1) = i + 1 + j by omega]
      rfl
    rw [e1] at hj
    exact hj
  | .fn f [] :: ps, i, c, [], _, h, _ => by simp at h
  | .fn f [] :: ps, i, c, v :: vs, hf, hl, h => by
    have hf' : flatFs ps = true := hf
    have h0 := h 0 v rfl
    have e0 : lookS (initS (.fn f [] :: ps) i c) (i + 0) = .one (.fn f []) := by
      simp only [initS, lookS, Nat.add_zero]
      rw [show Nat.beq i i = true from Nat.beq_refl i]
      rfl
    rw [e0] at h0
    obtain ⟨us, h1, h2⟩ := h0
    refine ⟨?_, flatF_args (i := i + 1) hf' (by simpa using hl) fun j u hu => ?_⟩
    · cases us with
      | nil => exact h1
      | cons u us => exact h2.elim
    · have hj := h (j + 1) u (by simpa using hu)
      have e1 : lookS (initS (.fn f [] :: ps) i c) (i + (j + 1)) = lookS (initS ps (i + 1) c) (i + 1 + j) := by
        simp only [initS, lookS]
        have hb : Nat.beq (i + (j + 1)) i = false := by
          cases hb : Nat.beq (i + (j + 1)) i with
          | true => have := Nat.eq_of_beq_eq_true hb; omega
          | false => rfl
        rw [hb, show i + (j + 1) = i + 1 + j by omega]
        rfl
      rw [e1] at hj
      exact hj
  | .fn f (_ :: _) :: _, _, _, _, hf, _, _ => by simp [flatFs] at hf
  | .ro _ :: _, _, _, _, hf, _, _ => by simp [flatFs] at hf
  | .rw _ _ _ _ :: _, _, _, _, hf, _, _ => by simp [flatFs] at hf
  | .brw _ _ _ :: _, _, _, _, hf, _, _ => by simp [flatFs] at hf
  | .own _ _ :: _, _, _, _, hf, _, _ => by simp [flatFs] at hf
  | .into _ _ :: _, _, _, _, hf, _, _ => by simp [flatFs] at hf

theorem flatF_out {σ : St} : ∀ {ps : List PSh} {i : Nat} {c : Cont (kout ps)}, flatFs ps = true → OutL σ ps i c
  | [], _, _, _ => trivial
  | .val k l :: ps, i, c, hf => by
    simp only [flatFs, Bool.and_eq_true] at hf
    exact flatF_out (ps := ps) (i := i + 1) (c := c) hf.2
  | .fn f [] :: ps, i, c, hf => flatF_out (ps := ps) (i := i + 1) (c := c) hf
  | .fn f (_ :: _) :: _, _, _, hf => by simp [flatFs] at hf
  | .ro _ :: _, _, _, hf => by simp [flatFs] at hf
  | .rw _ _ _ _ :: _, _, _, hf => by simp [flatFs] at hf
  | .brw _ _ _ :: _, _, _, hf => by simp [flatFs] at hf
  | .own _ _ :: _, _, _, hf => by simp [flatFs] at hf
  | .into _ _ :: _, _, _, hf => by simp [flatFs] at hf

/-- A new row that holds these. -/
def NewRow (w w' : World) (t : TypeId) (k : K) (xs : List (El k)) (v : Value) : Prop :=
  (∃ p, v = .slice p 0 0 ∧ xs = []) ∨ ∃ g cap cur, v = .slice (some ⟨g, 0, none⟩) xs.length cap ∧ w.heap.size ≤ g ∧ hp w' g = some (.cells cur t (0, 0)) ∧ xs.length ≤ cap ∧ cap * k.size ≤ cur.size ∧
    ∀ (i : Nat) (hi : i < xs.length), ∃ ds, Cells (hp w') g (i * k.size) ds ∧ Vw (fun _ => none) (fun _ => False) k xs[i] ds

theorem contract_own {n : Nat} {f : FuncId} {ps : List PSh} {t : TypeId} {k : K} {E : Nat → Cont (kin ps) → Option (Cont (kres [.own (.sl t k) [t] [] []] ++ kout ps))} (hps : flatFs ps = true) (hk : k.flat = true)
    (h : ∀ c out, E n c = some out → ∀ (args : Array Value) (w : World), (∀ b, Fr.free b → hp w b = Fr.obj b) → FlatF ps c args.toList → CallOk P f args w fun v w' => OldW w w' ∧ w'.tape = w.tape ∧ NewRow w w' t k out.1 v) :
    EntryOk P n ⟨f, ps, [.own (.sl t k) [t] [] []], E⟩ := by
  intro c out hout cx α args w _ _ hsz _ H
  have hA := flatF_args (cx := cx) (σ := initSt ps c) (α := α) (F := []) (w := w) (i := 0) (c := c) (vs := args.toList) hps (by simpa using hsz) (fun j v hv => by
    have := H.slots j
    rw [Array.getElem?_toList] at hv
    rw [Array.getD_eq_getD_getElem?, hv] at this
    rw [Nat.zero_add]
    exact this)
  have hkt : k.tys = [] := flat_tys hk
  have hpost : ∀ v w', (OldW w w' ∧ w'.tape = w.tape ∧ NewRow w w' t k out.1 v) → Post cx ps [.own (.sl t k) [t] [] []] out v w' := by
    rintro v w' ⟨h1, h2, h3⟩
    have hall : ((K.sl t k).tys.all fun u => memN u [t]) = true := by simp [K.tys, hkt, memN]
    rcases h3 with ⟨p, rfl, hx⟩ | ⟨g, cap, cur, rfl, g1, g2, g3, g4, g5⟩
    · refine ⟨_, α, [], _, [_], [[]], H.grown h1 h2, rfl, ⟨⟨[], [.slice p 0 0], [t], .inl hall, fun _ _ h => h, slice_VC, ?_⟩, trivial⟩, by simp, fun b hb => by simp at hb, flatF_out hps⟩
      have e : (Cont.fst (kres [RSh.own (.sl t k) [t] [] []]) (kout ps) out).1 = ([] : List (El k)) := hx
      rw [e]
      exact nil_held
    · have hlt : g < w'.heap.size := hp_lt g2
      refine ⟨_, α, [g], _, [_], [[g]], H.grownF h1 h2 [g] (fun b hb => by simp only [List.mem_singleton] at hb; subst hb; exact ⟨g1, hlt⟩) (by simp), rfl, ⟨⟨[], [.slice (some ⟨g, 0, none⟩) _ cap], [t], .inl hall, fun _ _ h => h, ⟨rfl, by simp⟩, ?_⟩, trivial⟩, by simp, fun b hb => by simpa using hb, flatF_out hps⟩
      have e : (Cont.fst (kres [RSh.own (.sl t k) [t] [] []]) (kout ps) out).1 = out.1 := rfl
      rw [e]
      unfold Ow
      rw [if_pos (by simp [memN])]
      refine ⟨some ⟨g, 0, none⟩, _, cap, rfl, rfl, g3, .inr ⟨g, 0, cur, 0, 0, rfl, g2, fun i _ => by omega, by omega, List.replicate (@List.length (El k) out.1) [], by simp, by simp, fun i hi => ?_⟩⟩
      obtain ⟨ds, d1, d2⟩ := g5 i hi
      refine ⟨ds, by rw [Nat.zero_add]; exact d1, ?_⟩
      have : (List.replicate (@List.length (El k) out.1) ([] : List Nat)).getD i [] = [] := by
        rw [List.getD_eq_getElem?_getD, List.getElem?_replicate]
        split <;> rfl
      rw [this]
      exact Ow_of_view (fun u hu => by rw [hkt] at hu; simp at hu) (Vw_flat hk d2)
  rcases h c out hout args w (fun b hb => H.fixed hb) hA with ⟨h1, h2⟩ | ⟨v, w', h1, h2⟩
  · refine .inl ⟨h1, h2.mono ?_⟩
    rintro e w' ⟨v, rfl, hv⟩
    exact ⟨v, rfl, hpost v w' hv⟩
  · exact .inr ⟨v, w', h1, hpost v w' h2⟩

end
end Go.Proofs.YtcelknaomealbaaDoor.Ow

/- The framework, part 68: functions that are known by a contract and read what is lent; functions that call themselves. Own work of this seat. -/
namespace Go.Proofs.YtcelknaomealbaaDoor.Ow
open Go

variable [Fr]

section
variable {P : Program} {cx : Cx} {σ : St} {α : Asg} {F : List Nat} {a : Act} {w w' : World}

/-- Arguments that are only read. -/
def ViewL (w : World) : (ps : List PSh) → Cont (kin ps) → List Value → Prop
  | [], _, [] => True
  | .val k _ :: ps, c, v :: vs => (∃ cs, VC k v cs ∧ Vw (hp w) (fun b => b < w.heap.size) k c.1 cs) ∧ ViewL w ps c.2 vs
  | _, _, _ => False
def viewPs : List PSh → Bool
  | [] => true
  | .val _ [] :: ps => viewPs ps
  | _ => false

theorem view_args : ∀ {ps : List PSh} {i : Nat} {c : Cont (kin ps)} {vs : List Value}, viewPs ps = true → vs.length = ps.length → (∀ j v, vs[j]? = some v → AV1ok cx σ α F w (lookS (initS ps i c) (i + j)) v) → ViewL w ps c vs
  | [], _, _, [], _, _, _ => trivial
  | [], _, _, _ :: _, _, h, _ => by simp at h
  | .val k (_ :: _) :: ps, i, c, vs, hf, _, _ => by simp [viewPs] at hf
  | .val k [] :: ps, i, c, [], _, h, _ => by simp at h
  | .val k [] :: ps, i, c, v :: vs, hf, hl, h => by
    have hf' : viewPs ps = true := hf
    have h0 := h 0 v rfl
    have e0 : lookS (initS (.val k [] :: ps) i c) (i + 0) = .one (.val k c.1 (bif k.flat then [] else [(extR i, 0)])) := by
      simp only [initS, lookS, Nat.add_zero]
      rw [show Nat.beq i i = true from Nat.beq_refl i]
      rfl
    rw [e0] at h0
    have hcl : cleanT σ k.tys (bif k.flat then [] else [(extR i, 0)]) = true := by
      cases k.flat with
      | true => rfl
      | false =>
        show cleanT σ k.tys [(extR i, 0)] = true
        rw [cleanT_iff]
        intro t ht
        simp only [List.mem_singleton] at ht
        subst ht
        exact .inl (by simp [isExt, extR])
    obtain ⟨cs, h1, h2⟩ := h0 (.inr hcl)
    refine ⟨⟨cs, h1, Vw_mono (fun _ _ => rfl) (fun b hb => hb.1) h2⟩, view_args (i := i + 1) hf' (by simpa using hl) fun j u hu => ?_⟩
    have hj := h (j + 1) u (by simpa using hu)
    have e1 : lookS (initS (.val k [] :: ps) i c) (i + (j + 1)) = lookS (initS ps (i + 1) c.2) (i + 1 + j) := by
      simp only [initS, lookS]
      have hb : Nat.beq (i + (j + 1)) i = false := by
        cases hb : Nat.beq (i + (j + 1)) i with
        | true => have := Nat.eq_of_beq_eq_true hb; omega
        | false => rfl
      rw [hb, show i + (j + 1) = i + 1 + j by omega]
      rfl
    rw [e1] at hj
    exact hj
  | .ro _ :: _, _, _, _, hf, _, _ => by simp [viewPs] at hf
  | .rw _ _ _ _ :: _, _, _, _, hf, _, _ => by simp [viewPs] at hf
  | .brw _ _ _ :: _, _, _, _, hf, _, _ => by simp [viewPs] at hf
  | .own _ _ :: _, _, _, _, hf, _, _ => by simp [viewPs] at hf
  | .fn _ _ :: _, _, _, _, hf, _, _ => by simp [viewPs] at hf
  | .into _ _ :: _, _, _, _, hf, _, _ => by simp [viewPs] at hf

theorem view_out {σ : St} : ∀ {ps : List PSh} {i : Nat} {c : Cont (kout ps)}, viewPs ps = true → OutL σ ps i c
  | [], _, _, _ => trivial
  | .val k (_ :: _) :: ps, i, c, hf => by simp [viewPs] at hf
  | .val k [] :: ps, i, c, hf => view_out (ps := ps) (i := i + 1) (c := c) hf
  | .ro _ :: _, _, _, hf => by simp [viewPs] at hf
  | .rw _ _ _ _ :: _, _, _, hf => by simp [viewPs] at hf
  | .brw _ _ _ :: _, _, _, hf => by simp [viewPs] at hf
  | .own _ _ :: _, _, _, hf => by simp [viewPs] at hf
  | .fn _ _ :: _, _, _, hf => by simp [viewPs] at hf
  | .into _ _ :: _, _, _, hf => by simp [viewPs] at hf

/-- A function that is known by a contract, reads what is lent, and gives values without memory. -/
theorem contract_view {n : Nat} {E : Entry} (hps : viewPs E.ps = true) (h : ∀ c out, E.F n c = some out → ∀ (args : Array Value) (w : World), (∀ b, Fr.free b → hp w b = Fr.obj b) → ViewL w E.ps c args.toList →
    CallOk P E.f args w fun v w' => ∃ vs, v = tupV vs ∧ FlatR E.rs (Cont.fst _ _ out) vs ∧ OldW w w' ∧ w'.tape = w.tape) : EntryOk P n E := by
  intro c out hout cx α args w _ _ hsz _ H
  have hA := view_args (cx := cx) (σ := initSt E.ps c) (α := α) (F := []) (w := w) (i := 0) (c := c) (vs := args.toList) hps (by simpa using hsz) (fun j v hv => by
    have := H.slots j
    rw [Array.getElem?_toList] at hv
    rw [Array.getD_eq_getD_getElem?, hv] at this
    rw [Nat.zero_add]
    exact this)
  have hpost : ∀ v w', (∃ vs, v = tupV vs ∧ FlatR E.rs (Cont.fst _ _ out) vs ∧ OldW w w' ∧ w'.tape = w.tape) → Post cx E.ps E.rs out v w' := by
    rintro v w' ⟨vs, h1, h2, h3, h4⟩
    obtain ⟨fos, g1, g2⟩ := flat_res (cx := cx) (σ := initSt E.ps c) (α := α) (F := []) (w := w') h2
    exact ⟨_, α, [], _, vs, fos, H.grown h3 h4, h1, g1, by rw [g2]; exact List.nodup_nil, fun b hb => by rw [g2] at hb; simp at hb, view_out hps⟩
  rcases h c out hout args w (fun b hb => H.fixed hb) hA with ⟨h1, h2⟩ | ⟨v, w', h1, h2⟩
  · refine .inl ⟨h1, h2.mono ?_⟩
    rintro e w' ⟨v, rfl, hv⟩
    exact ⟨v, rfl, hpost v w' hv⟩
  · exact .inr ⟨v, w', h1, hpost v w' h2⟩

/-! ### Functions that call themselves -/
theorem zero_entry {E : Entry} (h : ∀ c, E.F 0 c = none) : EntryOk P 0 E := fun c out hout => by rw [h c] at hout; simp at hout

theorem rec_entry {n : Nat} (hm : P.follows .mixedOrders = true) {L : TyL} (hL : tabChk P L = true) {E : Entry} {fn : Func} (hf : P.funcs[E.f]? = some fn) (hname : (fn.name == "runtime.NumGoroutine") = false) {hi : Hint} (hC : ∀ q ∈ hi.calls, EntryOk P n q.2.2)
    (hD : ∀ (c : Cont (kin E.ps)), denF L.tab hi fn E.ps E.rs n c = E.F (n + 1) c) : EntryOk P (n + 1) E :=
  denF_entry hm (tab_ok hL) noStEq hf hname hC (fun c out h => by rw [hD]; exact h)

end
end Go.Proofs.YtcelknaomealbaaDoor.Ow
