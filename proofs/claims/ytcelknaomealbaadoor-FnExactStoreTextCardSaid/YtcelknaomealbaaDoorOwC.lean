/- A verified reading of translated code: values in place of memory; part C of 6. No condition. Own work of this seat. -/
import Derived.Test.YtcelknaomealbaaDoorOwB
import Derived.Laws.Strings
import Derived.Laws.BytesString
import Derived.Laws.IdiomStrings
import Derived.Laws.MakeOwn
import Derived.Laws.Tables
import Derived.Laws.AppendOwn
/- The framework, part 17: operations, one by one. Own work of this seat. -/
set_option linter.unusedSectionVars false
set_option linter.unusedVariables false
set_option linter.unusedSimpArgs false
namespace Go.Proofs.YtcelknaomealbaaDoor.Ow
open Go

variable [Fr]

/-- An operation is done: a value is put, or none. -/
def Did (P : Program) (cx : Cx) (o : Oper) (a : Act) (w : World) (σ' : St) : Prop :=
  ∃ v w' α' F', ((execOp a.eval o).run P w = .ok (.value v) w' ∨ ((execOp a.eval o).run P w = .ok .skip w' ∧ v = undef)) ∧ Rel cx σ' α' F' (a.put o.dst v) w'

theorem Did.wp {P : Program} {cx : Cx} {o : Oper} {a : Act} {w : World} {σ' : St} (h : Did P cx o a w σ') {K : Act → World → Prop} {Q : Exit → Act → World → Prop}
    (hK : ∀ α' F' a' w', Rel cx σ' α' F' a' w' → K a' w') : o.wp P a w K Q := by
  obtain ⟨v, w', α', F', h | ⟨h, rfl⟩, h2⟩ := h
  · unfold Oper.wp; rw [h]; exact hK _ _ _ _ h2
  · unfold Oper.wp; rw [h]; exact hK _ _ _ _ h2

section
variable {P : Program} {T : Tab} {cx : Cx} {σ : St} {α : Asg} {F : List Nat} {a : Act} {w : World} {o : Oper} {d : Nat} {ws : List Wr}

/-- A value is put. -/
theorem did_put (H : Rel cx σ α F a w) (hd : o.dst = some d) (hdn : d < cx.nt) {x : AV1} {v : Value} (hrun : (execOp a.eval o).run P w = .ok (.value v) w) (hx : AV1ok cx σ α F w x v) (hw : av1W σ x) :
    Did P cx o a w (appAll [.s d x] σ) := by
  refine ⟨v, w, α, F, .inl hrun, ?_⟩
  rw [hd]
  exact H.put hdn hw hx

/-- A value is put behind turns of roots. -/
theorem did_put2 {σ1 : St} {α1 : Asg} {F1 : List Nat} {w1 : World} (H : Rel cx σ1 α1 F1 a w1) (hd : o.dst = some d) (hdn : d < cx.nt) {x : AV1} {v : Value} (hrun : (execOp a.eval o).run P w = .ok (.value v) w1) (hx : AV1ok cx σ1 α1 F1 w1 x v) (hw : av1W σ1 x) :
    Did P cx o a w (appAll [.s d x] σ1) := by
  refine ⟨v, w1, α1, F1, .inl hrun, ?_⟩
  rw [hd]
  exact H.put hdn hw hx

theorem freshR_inv {A : Type} {z : A} {r : Nat} {k : Prog A} (h : (freshR r k).ends σ z) : σ.roots r = none ∧ k.ends σ z := by
  unfold freshR at h
  simp only [Prog.ends] at h
  cases hr : σ.roots r with
  | none => rw [hr] at h; exact ⟨rfl, h⟩
  | some R => rw [hr] at h; exact h.elim

theorem ends_ret {A : Type} {z x : A} (h : (Prog.ret x).ends σ z) : z = x := h

theorem did_move (H : Rel cx σ α F a w) (hd : o.dst = some d) (hdn : d < cx.nt) {x : Operand} (ho : o.op = .move x) (h : (evalO1 x fun v => (.ret [.s d v] : Prog (List Wr))).ends σ ws) : Did P cx o a w (appAll ws σ) := by
  obtain ⟨v, h1, h2, h3⟩ := evalO1_inv H h
  rw [ends_ret h3]
  exact did_put H hd hdn (by simp [execOp, ho]) h1 h2

theorem TyOk.sl {t : TypeId} {e : TypeId} {k : K} (h : TyOk P T t (.sl e k)) : P.underlying t = some (.slice e) ∧ TyOk P T e k ∧ 0 < k.size ∧ ∃ i, P.info? e = some i ∧ i.bytes = T.bytes e ∧ 0 < i.bytes := by
  unfold TyOk TyOk2 at h
  exact ⟨h.1, h.2.2.1, h.2.2.2.1, h.2.2.2.2⟩

theorem nil_held {e : TypeId} {k : K} {c : Option Addr} {own : List TypeId} {ok : Nat → Prop} {h : Heap} : Ow h own ok (.sl e k) ([] : List (El k)) [.slice c 0 0] [] := by
  unfold Ow
  split
  · exact ⟨c, 0, 0, rfl, rfl, Nat.le_refl _, .inl ⟨rfl, rfl⟩⟩
  · exact ⟨rfl, c, 0, 0, rfl, rfl, Nat.le_refl _, fun h => by omega⟩

theorem did_assign {L : K → List TypeId} (H : Rel cx σ α F a w) (hd : o.dst = some d) (hdn : d < cx.nt) {x : Operand} (ho : o.op = .assign x)
    (h : (evalO1 x fun
      | .one .nils => match T.ty o.type with
        | some (.sl e kk) => .root (locR d 0) fun
          | none => .ret [.r (locR d 0) (some (newRoot (.sl e kk) [] (e :: L kk) [] .anon)), .s d (.one (.ref (locR d 0) 0))]
          | some _ => .ret [.s d (.one .nils)]
        | _ => .fail
      | v => (.ret [.s d v] : Prog (List Wr))).ends σ ws) : Did P cx o a w (appAll ws σ) := by
  obtain ⟨v, h1, h2, h3⟩ := evalO1_inv H h
  have hrun : (execOp a.eval o).run P w = .ok (.value (a.eval x)) w := by simp [execOp, ho]
  have key : ws = [.s d v] → Did P cx o a w (appAll ws σ) := fun e => by rw [e]; exact did_put H hd hdn hrun h1 h2
  cases v with
  | tup l => exact key (ends_ret h3)
  | one v =>
    cases v with
    | nils =>
      have h1' := h1
      obtain ⟨c, hc⟩ := h1
      simp only at h3
      split at h3
      · rename_i e kk hty
        simp only [Prog.ends] at h3
        cases g1 : σ.roots (locR d 0) with
        | some Q =>
          rw [g1] at h3
          exact key (ends_ret h3)
        | none =>
        rw [g1] at h3
        have g2 := h3
        rw [ends_ret g2]
        obtain ⟨α', k1, k2⟩ := anonHeld (k := .sl e kk) (x := ([] : List (El kk))) (own := e :: L kk) (tags := []) (v := a.eval x) (cs := [.slice c 0 0]) (fo := []) (r := locR d 0) (F' := F) H g1 (isExt_locR d 0) (fun b hb => by simp at hb) List.nodup_nil (fun t ht => by simp at ht)
          (fun b hb => ⟨hb, by simp⟩) H.fnd rfl (fun _ => nil_held) (by rw [hc]; exact slice_VC) false
        exact did_put2 (x := .one (.ref (locR d 0) 0)) k1 hd hdn hrun k2 ⟨_, setRoot_same .., .inr (Nat.zero_le _)⟩
      · exact h3.elim
    | _ => exact key (ends_ret h3)

theorem did_pick (H : Rel cx σ α F a w) (hd : o.dst = some d) (hdn : d < cx.nt) {c x y : Operand} (ho : o.op = .pick c x y)
    (h : (evalO c fun c => asBool c fun c => evalO1 x fun v => evalO1 y fun u => .br c (.ret [.s d v]) ((.ret [.s d u]) : Prog (List Wr))).ends σ ws) : Did P cx o a w (appAll ws σ) := by
  obtain ⟨vc, h1, _, h⟩ := evalO_inv H h
  obtain ⟨b, h2, h⟩ := asBool_inv h1 h
  obtain ⟨v, h3, h4, h⟩ := evalO1_inv H h
  obtain ⟨u, h5, h6, h⟩ := evalO1_inv H h
  rcases h with ⟨hb, h⟩ | ⟨hb, h⟩
  · rw [ends_ret h]
    exact did_put H hd hdn (by simp [execOp, ho, h2, hb, Go.asBool]) h3 h4
  · rw [ends_ret h]
    exact did_put H hd hdn (by simp [execOp, ho, h2, hb, Go.asBool]) h5 h6

theorem TyOk.shape {t : TypeId} {k : K} (h : TyOk P T t k) : (∀ a b, k ≠ .pair a b) ∧ k ≠ .unit ∧ ∀ n, k ≠ .gap n := by
  unfold TyOk TyOk2 at h
  refine ⟨fun a b e => ?_, fun e => ?_, fun n e => ?_⟩ <;> subst e <;> exact h.elim

theorem vtysK_all {own : List TypeId} {k : K} (h : ∀ t ∈ k.tys, memN t own = true) : vtysK own k = [] := by
  cases he : vtysK own k with
  | nil => rfl
  | cons t l =>
    exfalso
    have key : ∀ (k : K), (∀ t ∈ k.tys, memN t own = true) → ∀ t, t ∉ vtysK own k := by
      intro k
      induction k with
      | sl e k ih =>
        intro h t ht
        simp only [vtysK, h e (by simp [K.tys]), cond_true] at ht
        exact ih (fun t ht => h t (by simp [K.tys, ht])) t ht
      | pair a b iha ihb =>
        intro h t ht
        simp only [vtysK, List.mem_append] at ht
        rcases ht with ht | ht
        · exact iha (fun t ht => h t (by simp [K.tys, ht])) t ht
        · exact ihb (fun t ht => h t (by simp [K.tys, ht])) t ht
      | st f ih => intro h t ht; exact ih h t ht
      | _ => intro _ t ht; simp [vtysK] at ht
    exact key k h t (by rw [he]; simp)

theorem memN_self {l : List Nat} : ∀ t ∈ l, memN t l = true := fun t ht => memN_iff.2 ht

theorem did_alloc (hT : TabOk P T) (H : Rel cx σ α F a w) (hd : o.dst = some d) (hdn : d < cx.nt) {t : TypeId} (ho : o.op = .alloc t)
    (h : (match T.ty t with
      | some kk => freshR (locR d 0) (.ret [Wr.r (locR d 0) (some (newRoot kk kk.zero kk.tys [] (.var t))), Wr.s d (.one (.ptr (locR d 0) [] 0))])
      | none => (.fail : Prog (List Wr))).ends σ ws) : Did P cx o a w (appAll ws σ) := by
  split at h
  · rename_i kk hty
    have ht := hT.ty t kk hty
    obtain ⟨g1, g2⟩ := freshR_inv h
    rw [ends_ret g2]
    obtain ⟨s1, s2, s3⟩ := ht.shape
    have hz : Ow (hp w) kk.tys (okT cx σ α F w []) kk kk.zero (zcells kk) [] := zero_Ow ht.noGap memN_self
    obtain ⟨k0, α', F', k1, k2⟩ := boxHeld (P := P) (tk := ⟨kk, kk.zero, kk.tys, [], [], false⟩) (t := t) (v := zval kk) (cs := zcells kk) (fo := []) (r := locR d 0) H g1 (isExt_locR d 0)
      ⟨fun _ => hz, fun t ht => by simp at ht, fun b hb => by simp at hb, List.nodup_nil, Ow_len hz⟩ rfl (zval_VC s1 s2 s3) false
    have e0 : (Took.tags0 ⟨kk, kk.zero, kk.tys, [], [], false⟩) = [] := by unfold Took.tags0; split <;> rfl
    rw [e0] at k1 k2
    exact did_put2 (x := .one (.ptr (locR d 0) [] 0)) k1 hd hdn (by
      have := run_allocAt (P := P) ht w
      simp only [execOp, ho, Sem.run_bind, this, Result.andThen_ok, Sem.run_pure]) k2 ⟨_, setRoot_same .., .inr (Nat.zero_le _)⟩
  · exact h.elim

theorem did_nilCheck (H : Rel cx σ α F a w) (hd : o.dst = some d) (hdn : d < cx.nt) {x : Operand} (ho : o.op = .nilCheck x)
    (h : (evalO x fun
      | .ptr r p h => .ret [.s d (.one (.ptr r p h))]
      | .rptr bt kk y tags => .ret [.s d (.one (.rptr bt kk y tags))]
      | _ => (.fail : Prog (List Wr))).ends σ ws) : Did P cx o a w (appAll ws σ) := by
  obtain ⟨v, h1, h2, h⟩ := evalO_inv H h
  cases v with
  | ptr r p n =>
    rw [ends_ret h]
    obtain ⟨b, q, hv⟩ := h1.1
    exact did_put (v := a.eval x) H hd hdn (by simp [execOp, ho, hv]) h1 h2
  | rptr bt kk y tags =>
    rw [ends_ret h]
    obtain ⟨b, q, hv⟩ := h1.1
    exact did_put (v := a.eval x) H hd hdn (by simp [execOp, ho, hv]) h1 h2
  | _ => exact h.elim

end
end Go.Proofs.YtcelknaomealbaaDoor.Ow

/- The framework, part 18: loads, stores, fields, elements. Own work of this seat. -/
namespace Go.Proofs.YtcelknaomealbaaDoor.Ow
open Go

variable [Fr]

theorem beq_true {a b : K} {A : Type} {x y : Prog A} {σ : St} {z : A} (h : (bif a.beq b then x else y).ends σ z) : (a = b ∧ x.ends σ z) ∨ (a.beq b = false ∧ y.ends σ z) := by
  cases hb : a.beq b with
  | true => rw [hb] at h; exact .inl ⟨K.eq_of_beq hb, h⟩
  | false => rw [hb] at h; exact .inr ⟨rfl, h⟩

theorem cond_ends {b : Bool} {A : Type} {x y : Prog A} {σ : St} {z : A} (h : (bif b then x else y).ends σ z) : (b = true ∧ x.ends σ z) ∨ (b = false ∧ y.ends σ z) := by
  cases b with
  | true => exact .inl ⟨rfl, h⟩
  | false => exact .inr ⟨rfl, h⟩

section
variable {P : Program} {T : Tab} {cx : Cx} {σ : St} {α : Asg} {F : List Nat} {a : Act} {w : World} {o : Oper} {d : Nat} {ws : List Wr}

theorem structField {P : Program} {T : Tab} : ∀ (n : Nat) {c : K} {fs : List Field} {off0 off : Nat} {k : K}, (TyOk2 P T c).2 fs off0 → chOff n c = some (off, k) → ∃ f, fs[n]? = some f ∧ f.offset = off0 + off ∧ TyOk P T f.type k ∧ 0 < k.size := by
  intro n
  induction n with
  | zero =>
    intro c fs off0 off k h ho
    cases c with
    | pair a b =>
      simp only [chOff, Option.some.injEq, Prod.mk.injEq] at ho
      obtain ⟨rfl, rfl⟩ := ho
      cases fs with
      | nil => exact h.elim
      | cons f fs => exact ⟨f, rfl, h.1, h.2.1, h.2.2.1⟩
    | _ => simp [chOff] at ho
  | succ n ih =>
    intro c fs off0 off k h ho
    cases c with
    | pair a b =>
      simp only [chOff] at ho
      cases h2 : chOff n b with
      | none => rw [h2] at ho; simp at ho
      | some q =>
        rw [h2] at ho
        simp only [Option.some.injEq, Prod.mk.injEq] at ho
        cases fs with
        | nil => exact h.elim
        | cons f fs =>
          obtain ⟨g, g1, g2, g3, g4⟩ := ih (off := q.1) (k := q.2) h.2.2.2 (by rw [h2])
          exact ⟨g, by simpa using g1, by rw [g2, ← ho.1]; omega, by rw [← ho.2]; exact g3, by rw [← ho.2]; exact g4⟩
    | _ => simp [chOff] at ho

theorem TyOk.st {t : TypeId} {c : K} (h : TyOk P T t (.st c)) : ∃ fs, P.underlying t = some (.struct fs) ∧ (TyOk2 P T c).2 fs.toList 0 := by
  unfold TyOk TyOk2 at h
  exact h.1

theorem sub_cells {cs : List Value} {off n : Nat} (h : off + n ≤ cs.length) : ((cs.drop off).take n).length = n := by simp; omega

theorem chOff_le : ∀ (n : Nat) {c : K} {off : Nat} {k : K}, chOff n c = some (off, k) → off + k.size ≤ c.size := by
  intro n
  induction n with
  | zero => intro c off k h; cases c with
    | pair a b => simp only [chOff, Option.some.injEq, Prod.mk.injEq] at h; obtain ⟨rfl, rfl⟩ := h; simp [K.size]
    | _ => simp [chOff] at h
  | succ n ih => intro c off k h; cases c with
    | pair a b =>
      simp only [chOff] at h
      cases h2 : chOff n b with
      | none => rw [h2] at h; simp at h
      | some q =>
        rw [h2] at h
        simp only [Option.some.injEq, Prod.mk.injEq] at h
        have := ih (off := q.1) (k := q.2) (by rw [h2])
        simp only [K.size]
        rw [← h.1, ← h.2]
        omega
    | _ => simp [chOff] at h

/-- A part of a struct's value. -/
theorem run_part {t : TypeId} {k : K} (h : TyOk P T t k) (hk : 0 < k.size) {cs : List Value} {off : Nat} (hl : off + k.size ≤ cs.length) : ∃ u, (part t cs.toArray off).run P w = .ok u w ∧ ((∀ x, u ≠ .agg x) ∨ isSt k = true → VC k u ((cs.drop off).take k.size)) := by
  unfold part
  simp only [Sem.run_bind, h.isAgg w, Result.andThen]
  cases hs : isSt k with
  | true =>
    refine ⟨.agg (cs.toArray.extract off (off + k.size)), by simp [h.info.sizeOf w, Result.andThen], fun _ => ?_⟩
    cases k with
    | st c =>
      show Value.agg _ = .agg _
      congr 1
      apply Array.ext'
      simp [List.extract_eq_take_drop]
    | _ => simp [isSt] at hs
  | false =>
    have hlt : off < cs.length := by omega
    refine ⟨cs[off], by simp [hlt], fun hu => ?_⟩
    have hu' : ∀ x, cs[off] ≠ .agg x := hu.resolve_right (by simp)
    have hk1 : k.size = 1 := by
      cases k with
      | st c => simp [isSt] at hs
      | pair a b => exact (show False from h).elim
      | unit => exact (show False from h).elim
      | gap n => exact (show False from h).elim
      | _ => rfl
    have e : (cs.drop off).take k.size = [cs[off]] := by
      rw [hk1, List.drop_eq_getElem_cons hlt]
      rfl
    rw [e]
    cases k with
    | st c => simp [isSt] at hs
    | _ => exact ⟨rfl, hu'⟩

theorem oneCell_noAgg {v : Value} (h : v.oneCell' = true) : ∀ x, v ≠ .agg x := by
  intro x e
  subst e
  simp [Value.oneCell'] at h

theorem run_field {t : TypeId} {c : K} (h : TyOk P T t (.st c)) {cs : List Value} {n off : Nat} {k : K} (ho : chOff n c = some (off, k)) (hl : cs.length = c.size) (h1 : ∀ v ∈ cs, v.oneCell' = true) :
    ∃ u, (Instr.field t (.agg cs.toArray) n).run P w = .ok u w ∧ VC k u ((cs.drop off).take k.size) := by
  obtain ⟨fs, hu, hf⟩ := h.st
  obtain ⟨f, f1, f2, f3, f4⟩ := structField n hf ho
  have hle := chOff_le n ho
  obtain ⟨u, g1, g2⟩ := run_part (w := w) f3 f4 (cs := cs) (off := off) (by omega)
  have f1' : fs[n]? = some f := by rw [← Array.getElem?_toList]; exact f1
  refine ⟨u, ?_, g2 ?_⟩
  · unfold Instr.field
    simp only [Sem.run_bind, run_underlying hu, Result.andThen, f1', asAgg, Sem.run_pure]
    rw [show f.offset = off from by omega]
    exact g1
  · cases hs : isSt k with
    | true => exact .inr rfl
    | false =>
      left
      unfold part at g1
      simp only [Sem.run_bind, f3.isAgg w, Result.andThen, hs] at g1
      have hlt : off < cs.length := by omega
      simp [hlt] at g1
      rw [← g1]
      exact oneCell_noAgg (h1 _ (List.getElem_mem hlt))

theorem bor_same {r : Nat} {R : Root} {p : List Stp} {v : Value} {dd : Dat} {cs : List Value} {wh : Option (Nat × Nat)} (hr : liveR σ r R) (hg : getP p R.k R.x = some dd) (h1 : PIn p R.k R.x) (h2 : ∀ t ∈ pathTys p R.k, memN t R.own = true)
    (h3 : navF (hp w) p R.k (α.hdr r) (whR α R r) = some (cs, wh)) (h4 : VC dd.1 v cs) : AVok cx σ α F w (.bor r p R.ver) v := by
  intro R' hR' _ _ d' hd'
  rw [hr.1] at hR'
  simp only [Option.some.injEq] at hR'
  subst hR'
  rw [hg] at hd'
  simp only [Option.some.injEq] at hd'
  subst hd'
  exact ⟨h1, h2, cs, wh, h3, h4⟩

/-- The same state, in a world that has grown. -/
theorem Rel.grown0 (H : Rel cx σ α F a w) {w' : World} (hos : w'.os = w.os) (hout : w'.output = w.output) (hsz : w.heap.size ≤ w'.heap.size) (hold : ∀ b, b < w.heap.size → hp w' b = hp w b) (ht : w'.tape = w.tape) : Rel cx σ α F a w' := by
  have hs : ∀ r, Same σ α σ α r := fun r => ⟨rfl, rfl, rfl, rfl⟩
  have hch : ∀ b, b < w.heap.size → hp w' b = hp w b := hold
  have T : Turn cx σ α F w σ α F w' (fun _ => []) (fun _ => []) := by
    refine ⟨rfl, ⟨hos, ht, hout⟩, hsz, fun r R hr => ⟨R, hr, ?_⟩, fun r R' _ h => absurd (hs r) h, fun r R' h1 h2 => by rw [h1] at h2; simp at h2, fun b hb hne => absurd (hch b hb) hne, ?_, H.fnd,
      fun r R' _ h => absurd (hs r) h, fun r R r' R' _ _ _ h => absurd (hs r) h, ?_, fun r R R' h1 h2 _ => by rw [h1] at h2; simp only [Option.some.injEq] at h2; subst h2; exact ⟨rfl, rfl⟩⟩
    · cases hd : R.isDead with
      | true => exact .inl ⟨rfl, fun hk => by unfold Root.isDead at hd; rw [hk] at hd; simp at hd⟩
      | false => exact .inr ⟨rfl, rfl, rfl, Nat.le_refl _, rfl, rfl, fun _ => rfl, .inr ⟨rfl, rfl, hs r⟩⟩
    · rintro b (⟨r, R, h1, h2, h3⟩ | h)
      · exact absurd ⟨R, h1, h2⟩ h3
      · exact .inl h
    · intro j pi b o n h1 h2 hne
      obtain ⟨R, hR, hk, hl, _⟩ := H.pbase j pi b o n h1 h2
      exact absurd (hch b ((H.roots _ R hR).mine b (by simp [blk, whR, hk, hl])).1) hne
  exact H.turn T (fun r R _ h => absurd (hs r) h) (fun r R _ h => absurd (hs r) h) (fun r R _ h => absurd (hs r) h)

theorem chK_off : ∀ (n : Nat) {c : K}, (pathTys.chK n c).isSome = true → ∃ off k, chOff n c = some (off, k) := by
  intro n
  induction n with
  | zero => intro c h; cases c with
    | pair a b => exact ⟨0, a, rfl⟩
    | _ => simp [pathTys.chK] at h
  | succ n ih => intro c h; cases c with
    | pair a b => obtain ⟨off, k, h1⟩ := ih (c := b) h; exact ⟨a.size + off, k, by simp [chOff, h1]⟩
    | _ => simp [pathTys.chK] at h

theorem chK_off2 : ∀ (n : Nat) {c k : K}, pathTys.chK n c = some k → ∃ off, chOff n c = some (off, k) := by
  intro n
  induction n with
  | zero => intro c k h; cases c with
    | pair a b => simp only [pathTys.chK, Option.some.injEq] at h; subst h; exact ⟨0, rfl⟩
    | _ => simp [pathTys.chK] at h
  | succ n ih => intro c k h; cases c with
    | pair a b => obtain ⟨off, h1⟩ := ih (c := b) h; exact ⟨a.size + off, by simp [chOff, h1]⟩
    | _ => simp [pathTys.chK] at h

theorem fldOff_append : ∀ (p : List Stp) {n : Nat} {k k1 k2 : K} {off o2 : Nat} {c : K}, fldOff p k = some (off, k1) → k1 = .st c → chOff n c = some (o2, k2) → fldOff (p ++ [.fld n]) k = some (off + o2, k2) := by
  intro p
  induction p with
  | nil =>
    intro n k k1 k2 off o2 c h e h2
    simp only [fldOff, Option.some.injEq, Prod.mk.injEq] at h
    obtain ⟨rfl, rfl⟩ := h
    subst e
    simp [fldOff, h2]
  | cons s p ih =>
    intro n k k1 k2 off o2 c h e h2
    cases s with
    | idx i => simp [fldOff] at h
    | fld m =>
      cases k with
      | st c' =>
        simp only [fldOff, List.cons_append] at h ⊢
        cases hq : chOff m c' with
        | none => rw [hq] at h; simp at h
        | some q =>
          rw [hq] at h
          simp only at h ⊢
          cases hr : fldOff p q.2 with
          | none => rw [hr] at h; simp at h
          | some r =>
            rw [hr] at h
            simp only [Option.some.injEq, Prod.mk.injEq] at h
            obtain ⟨rfl, rfl⟩ := h
            rw [ih (off := r.1) (k1 := r.2) (by rw [hr]) e h2]
            simp only [Nat.add_assoc]
      | _ => simp [fldOff] at h

theorem kindP_off : ∀ (p : List Stp) {k k1 k2 : K} {off : Nat}, kindP p k = some k1 → fldOff p k = some (off, k2) → k2 = k1 := by
  intro p
  induction p with
  | nil =>
    intro k k1 k2 off h1 h2
    simp only [kindP, Option.some.injEq] at h1
    simp only [fldOff, Option.some.injEq, Prod.mk.injEq] at h2
    rw [← h1, h2.2]
  | cons s p ih =>
    intro k k1 k2 off h1 h2
    cases s with
    | idx i => simp [fldOff] at h2
    | fld m =>
      cases k with
      | st c =>
        simp only [kindP, fldOff] at h1 h2
        cases hk : pathTys.chK m c with
        | none => rw [hk] at h1; simp at h1
        | some k0 =>
          obtain ⟨o, ho⟩ := chK_off2 m hk
          rw [hk] at h1
          rw [ho] at h2
          simp only at h1 h2
          cases hr : fldOff p k0 with
          | none => rw [hr] at h2; simp at h2
          | some r =>
            rw [hr] at h2
            simp only [Option.some.injEq, Prod.mk.injEq] at h2
            rw [← h2.2]
            exact ih (off := r.1) h1 (by rw [hr])
      | _ => simp [fldOff] at h2

theorem fldOff_nav {h : Heap} : ∀ (p : List Stp) {k k1 : K} {x : El k} {cs : List Value} {d : Dat} {off : Nat}, getP p k x = some d → fldOff p k = some (off, k1) → cs.length = k.size →
    k1 = d.1 ∧ off + k1.size ≤ cs.length ∧ navF h p k cs none = some ((cs.drop off).take k1.size, none) ∧ PIn p k x ∧ pathTys p k = [] := by
  intro p
  induction p with
  | nil =>
    intro k k1 x cs d off hg ho hl
    simp only [getP, Option.some.injEq] at hg
    simp only [fldOff, Option.some.injEq, Prod.mk.injEq] at ho
    obtain ⟨rfl, rfl⟩ := ho
    subst hg
    exact ⟨rfl, by omega, by simp [navF, ← hl], trivial, by simp [pathTys]⟩
  | cons s p ih =>
    intro k k1 x cs d off hg ho hl
    cases s with
    | idx i => simp [fldOff] at ho
    | fld n =>
      cases k with
      | st c =>
        simp only [getP, fldOff] at hg ho
        cases hcg : chGet n c x with
        | none => rw [hcg] at hg; simp at hg
        | some s =>
          rw [hcg] at hg
          simp only at hg
          cases hq : chOff n c with
          | none => rw [hq] at ho; simp at ho
          | some q =>
            have hk2 : q.2 = s.1 := chOff_kind n (c := c) hcg hq
            rw [hq] at ho
            obtain ⟨q1, q2⟩ := q
            simp only at hk2 ho
            subst hk2
            cases hr : fldOff p s.1 with
            | none => rw [hr] at ho; simp at ho
            | some r =>
              rw [hr] at ho
              simp only [Option.some.injEq, Prod.mk.injEq] at ho
              obtain ⟨rfl, rfl⟩ := ho
              have hle := chOff_le n hq
              have hl' : cs.length = c.size := hl
              obtain ⟨g1, g2, g3, g4, g5⟩ := ih (cs := (cs.drop q1).take s.1.size) (off := r.1) (k1 := r.2) hg (by rw [hr]) (sub_cells (by omega))
              rw [sub_cells (by omega)] at g2
              refine ⟨g1, by omega, ?_, by simp only [PIn, hcg]; exact g4, by simp [pathTys, chK_of_get n hcg, g5]⟩
              simp only [navF]
              rw [hq]
              simp only [Option.map_none]
              rw [g3]
              simp only [List.drop_take, List.take_take, List.drop_drop, Nat.min_eq_left (show r.2.size ≤ s.1.size - r.1 by omega)]
      | _ => simp [getP] at hg

theorem did_load (hT : TabOk P T) (H : Rel cx σ α F a w) (hd : o.dst = some d) (hdn : d < cx.nt) {t : TypeId} {x : Operand} {bor : Bool} (ho : o.op = .load t x)
    (h : (evalO x fun v => loadP T bor t v fun u => (.ret [Wr.s d (.one u)] : Prog (List Wr))).ends σ ws) : Did P cx o a w (appAll ws σ) := by
  obtain ⟨v, h1, h2, h⟩ := evalO_inv H h
  unfold loadP at h
  split at h
  · exact h.elim
  · rename_i kk hty
    have ht := hT.ty t kk hty
    obtain ⟨s1, s2, s3⟩ := ht.shape
    split at h
    · rename_i r g k0 p
      obtain ⟨u, b, off, k1, e, hq, hC, ho1, hR⟩ := h1
      obtain ⟨R, hr, hv, h⟩ := useR_inv h
      rcases cond_ends h with ⟨hc, h⟩ | ⟨_, h⟩
      · simp only [Bool.and_eq_true] at hc
        cases hg : getP p R.k R.x with
        | none => rw [hg] at h; exact h.elim
        | some dd =>
          rw [hg] at h
          simp only at h
          obtain ⟨dk, dx⟩ := dd
          rcases beq_true h with ⟨ek, h5⟩ | ⟨_, h⟩
          · simp only at ek
            subst ek
            have hk0 := K.eq_of_beq hc.1.2
            subst hk0
            obtain ⟨hka, hvc⟩ := hR R hr (Nat.eq_of_beq_eq_true hc.1.1)
            rw [hvc.cells] at hC
            have hwn : whR α R r = none := by unfold whR; rw [hka]
            obtain ⟨g1, g2, g3, g4, g5⟩ := fldOff_nav (h := hp w) p hg ho1 (H.roots r R hr).len
            simp only at g1
            subst g1
            have hown : ∀ t ∈ pathTys p R.k, memN t R.own = true := fun t ht => by rw [g5] at ht; simp at ht
            have hn : navF (hp w) p R.k (α.hdr r) (whR α R r) = some (((α.hdr r).drop off).take k1.size, none) := by rw [hwn]; exact g3
            obtain ⟨fo1, hO, hf⟩ := placeOw H hr hv hg g4 hown hn
            have hV := out_view H hr hO hf
            have hcs : Cells (hp w) b off (((α.hdr r).drop off).take k1.size) := by
              intro i hi
              have hi' : i < k1.size := by rw [sub_cells g2] at hi; exact hi
              have := hC (off + i) (by omega)
              rw [Nat.zero_add] at this
              rw [this, List.getElem?_take_of_lt hi', List.getElem?_drop]
            obtain ⟨u', hu⟩ := VC.mk s1 s2 s3 hV
            have hrun := run_loadAt (P := P) ht hcs (Vw_len hV) hu
            have hrun' : (execOp a.eval o).run P w = .ok (.value u') w := by simp only [execOp, ho, e, Sem.run_bind, hrun, Result.andThen_ok, Sem.run_pure]
            rcases cond_ends h5 with ⟨hf, h6⟩ | ⟨_, h6⟩
            · rw [ends_ret h6]
              exact did_put H hd hdn hrun' (show AVok cx σ α F w (.val k1 dx []) u' from fun _ => ⟨_, hu, Vw_flat hf hV⟩) (fun t ht => by simp at ht)
            · rw [ends_ret h6]
              exact did_put (x := .one (.bor r p R.ver)) H hd hdn hrun' (bor_same (cx := cx) (F := F) hr hg g4 hown hn hu) ⟨R, hr.1, .inr (Nat.le_refl _)⟩
          · exact h.elim
      · exact h.elim
    rcases addrOf_inv H h1 h2 h with ⟨r, R, p, dd, cs, b, q, hr, hv, hg, hpin, hown, hn, e, h⟩ | ⟨bt, dd, Tg, b, q, cs, hw, e, hcs, hV, hok, hb, h⟩
    · obtain ⟨hC, ⟨fo1, hO, hf⟩, _⟩ := placeMem H hr hv hg hpin hown hn
      obtain ⟨dk, dx⟩ := dd
      rcases beq_true h with ⟨ek, h5⟩ | ⟨_, h⟩
      · simp only at ek
        subst ek
        clear h
        have h := h5
        clear h5
        have hV := out_view H hr hO hf
        obtain ⟨u, hu⟩ := VC.mk s1 s2 s3 hV
        have hrun := run_loadAt (P := P) ht hC (Vw_len hV) hu
        have hrun' : (execOp a.eval o).run P w = .ok (.value u) w := by simp only [execOp, ho, e, Sem.run_bind, hrun, Result.andThen_ok, Sem.run_pure]
        rcases cond_ends h with ⟨_, h⟩ | ⟨_, h⟩
        · rw [ends_ret h]
          exact did_put (x := .one (.bor r p R.ver)) H hd hdn hrun' (bor_same (cx := cx) (F := F) hr hg hpin hown hn hu) ⟨R, hr.1, .inr (Nat.le_refl _)⟩
        · rw [ends_ret h]
          exact did_put H hd hdn hrun' (show AVok cx σ α F w (.val dk dx _) u from fun _ => ⟨cs, hu, hV⟩) (out_W H hr _)
      · exact h.elim
    · obtain ⟨dk, dx⟩ := dd
      rcases beq_true h with ⟨ek, h5⟩ | ⟨_, h⟩
      · simp only at ek
        subst ek
        clear h
        have h := h5
        clear h5
        obtain ⟨u, hu⟩ := VC.mk s1 s2 s3 hV
        have hrun := run_loadAt (P := P) ht hcs (Vw_len hV) hu
        have hrun' : (execOp a.eval o).run P w = .ok (.value u) w := by simp only [execOp, ho, e, Sem.run_bind, hrun, Result.andThen_ok, Sem.run_pure]
        rw [ends_ret h]
        refine did_put H hd hdn hrun' (show AVok cx σ α F w (.val dk dx _) u from fun _ => ⟨cs, hu, ?_⟩) ?_
        · cases hf : dk.flat with
          | true => exact Vw_flat hf hV
          | false => exact hV
        · cases hf : dk.flat with
          | true => intro t ht; simp at ht
          | false => exact hw
      · exact h.elim

theorem setRoot_setRoot (σ : St) (r : Nat) (A B : Root) : setRoot (setRoot σ r A) r B = setRoot σ r B := by
  unfold setRoot
  simp only [St.mk.injEq, true_and]
  funext n
  unfold upd
  cases Nat.beq n r <;> rfl

theorem flds_setP {h : Heap} : ∀ (p : List Stp) {k : K} {x : El k} {t d z : Dat}, p.all Stp.isFld = true → getP p k x = some d → setP p k x t = some z → t.1.size = d.1.size →
    getP p z.1 z.2 = some t ∧ PIn p z.1 z.2 ∧ pathTys p z.1 = [] ∧ ∀ cs wh, navF h p z.1 cs wh = navF h p k cs wh := by
  intro p
  induction p with
  | nil =>
    intro k x t d z _ hg hz hs
    simp only [setP, Option.some.injEq] at hz
    subst hz
    exact ⟨rfl, trivial, by simp [pathTys], fun cs wh => rfl⟩
  | cons s p ih =>
    intro k x t d z hp hg hz hs
    cases s with
    | idx i => simp [Stp.isFld] at hp
    | fld n =>
      have hp' : p.all Stp.isFld = true := by simpa [Stp.isFld] using hp
      cases k with
      | st c =>
        simp only [getP, setP] at hg hz
        cases hcg : chGet n c x with
        | none => rw [hcg] at hg; simp at hg
        | some s =>
          rw [hcg] at hg hz
          simp only at hg hz
          cases hs' : setP p s.1 s.2 t with
          | none => rw [hs'] at hz; simp at hz
          | some u =>
            rw [hs'] at hz
            simp only at hz
            cases hcp : chPut n c x u with
            | none => rw [hcp] at hz; simp at hz
            | some y =>
              rw [hcp] at hz
              simp only [Option.some.injEq] at hz
              subst hz
              obtain ⟨i1, i2, i3, i4⟩ := ih hp' hg hs' hs
              have e1 : chGet n y.1 y.2 = some u := chGet_put n hcp
              have hsz : u.1.size = s.1.size := setP_like p hg hs hs'
              refine ⟨by simp only [getP, e1]; exact i1, by simp only [PIn, e1]; exact i2, by simp [pathTys, chK_of_get n e1, i3], fun cs wh => ?_⟩
              simp only [navF]
              cases ho : chOff n c with
              | none =>
                exfalso
                obtain ⟨off, h1⟩ := chK_off2 n (chK_of_get n hcg)
                rw [ho] at h1; simp at h1
              | some q =>
                have hk2 : q.2 = s.1 := chOff_kind n (c := c) hcg ho
                obtain ⟨q1, q2⟩ := q
                simp only at hk2
                subst hk2
                rw [chOff_of_put n ho hcp]
                simp only
                rw [hsz]
                exact i4 _ _
      | _ => simp [getP] at hg

theorem regain_inv {R : Root} {r : Nat} {p : List Stp} {d : Dat} {tk : Took} {q : Root × Dat} (h : regain R r p d tk = some q) :
    ∃ zg own', setP p R.k R.x (holeD d) = some zg ∧ q = (gapRootO R d zg own', (holeD d)) ∧ (∀ t ∈ zg.1.tys, memN t own' = memN t R.own) ∧ p.all Stp.isFld = true ∧ (p ≠ [] ∨ ∃ t, R.kind = .var t) ∧ ∀ n, (r, n) ∉ tk.tags := by
  unfold regain at h
  cases hc : (!d.1.flat && p.all Stp.isFld && !R.keep && (!p.isEmpty || R.isVar) && tk.tags.all (fun t => !Nat.beq t.1 r)) with
  | false => rw [hc] at h; simp at h
  | true =>
    rw [hc] at h
    simp only [cond_true] at h
    simp only [Bool.and_eq_true] at hc
    obtain ⟨⟨⟨⟨_, c1⟩, _⟩, c2⟩, c3⟩ := hc
    unfold gapAt at h
    cases hz : setP p R.k R.x (holeD d) with
    | none => rw [hz] at h; simp at h
    | some zg =>
      rw [hz] at h
      simp only at h
      cases hl : tk.own.filter (fun t => !memN t R.own && memN t d.1.tys && !memN t zg.1.tys) with
      | nil => rw [hl] at h; simp at h
      | cons a l =>
        rw [hl] at h
        simp only [Option.some.injEq] at h
        refine ⟨zg, (a :: l) ++ R.own, rfl, h.symm, fun t ht => ?_, c1, ?_, fun n hn => ?_⟩
        · cases hm : memN t R.own with
          | true => rw [memN_iff] at hm ⊢; exact List.mem_append_right _ hm
          | false =>
            rw [memN_false] at hm ⊢
            intro h1
            rcases List.mem_append.1 h1 with h1 | h1
            · rw [← hl] at h1
              have := (List.mem_filter.1 h1).2
              simp only [Bool.and_eq_true, Bool.not_eq_true', memN_false] at this
              exact this.2 ht
            · exact hm h1
        · rcases Bool.or_eq_true .. |>.mp c2 with h1 | h1
          · left; intro e; rw [e] at h1; simp at h1
          · right
            unfold Root.isVar at h1
            cases hk : R.kind with
            | var t => exact ⟨t, rfl⟩
            | anon => rw [hk] at h1; simp at h1
            | par => rw [hk] at h1; simp at h1
            | dead => rw [hk] at h1; simp at h1
        · have := List.all_eq_true.1 c3 _ hn
          simp at this

theorem storeAt_ok {t : TypeId} {kk : K} {x : El kk} {town : List TypeId} {ttags : List Tag} {tws : List Wr} {tkeep : Bool} {cst : List Value} {fot : List Nat} {v : Value} {r : Nat} {R : Root} (ht : TyOk P T t kk)
    (H : Rel cx σ α F a w) (hr : liveR σ r R) (hv : validR σ R) {p : List Stp} {dd : Dat} (hg : getP p R.k R.x = some dd) (hpin : PIn p R.k R.x) (hown : ∀ t ∈ pathTys p R.k, memN t R.own = true)
    (k2 : cleanT σ (vtysK town kk) ttags = true) (k3 : VC kk v cst) (k1 : Held cx σ α F w kk x town ttags cst fot)
    {cs1 : List Value} {b o : Nat} (hn : navF (hp w) p R.k (α.hdr r) (whR α R r) = some (cs1, some (b, o))) {A : Type} {z : A} {k : List Wr → Prog A} {σ0 : St} (h : (storeAt kk r p ⟨kk, x, town, ttags, tws, tkeep⟩ R dd k).ends σ0 z) :
    ∃ w', (Instr.storeAt t (.pointer (some ⟨b, o, none⟩)) v).run P w = .ok () w' ∧ ∃ α' F', ∃ R', Rel cx (setRoot σ r R') α' F' a w' ∧ (k (tws ++ [.r r (some R')])).ends σ0 z := by
  unfold storeAt at h
  rcases cond_ends h with ⟨hc3, h⟩ | ⟨_, h⟩
  · simp only [Bool.and_eq_true] at hc3
    simp only [Took.bad] at hc3 h
    cases hz : setP p R.k R.x ⟨kk, x⟩ with
    | none => rw [hz] at h; exact h.elim
    | some z =>
      rw [hz] at h
      simp only at h
      rcases cond_ends h with ⟨_, h⟩ | ⟨_, h⟩
      · exact h.elim
      · obtain ⟨w', r1, α', F', r2⟩ := storeHeld (P := P) (z := z) ht H hr hv hg hz hpin hown k1 k2 k3
          (by
            rcases Bool.or_eq_true .. |>.mp hc3.1.1 with h | h
            · exact .inl (K.eq_of_beq h)
            · exact .inr (K.eq_of_beq (Bool.and_eq_true .. |>.mp h).1))
          (by
            rcases Bool.or_eq_true .. |>.mp hc3.1.2 with h | h
            · exact .inl h
            · exact .inr h)
          (fun t ht => by
            have := List.all_eq_true.1 hc3.2 t ht
            simpa [memN_false] using this) (R.keep || tkeep) hn
        exact ⟨w', r1, α', F', _, r2, h⟩
  · exact h.elim

theorem did_store (hT : TabOk P T) (H : Rel cx σ α F a w) (hd : o.dst = none) {t : TypeId} {x y : Operand} (ho : o.op = .store t x y)
    (h : (evalO x fun u => evalO y fun v => storeP T t u v fun ws => (.ret ws : Prog (List Wr))).ends σ ws) : Did P cx o a w (appAll ws σ) := by
  obtain ⟨u, h1, h2, h⟩ := evalO_inv H h
  obtain ⟨v, h3, h4, h⟩ := evalO_inv H h
  unfold storeP at h
  cases hty : T.ty t with
  | none => rw [hty] at h; exact h.elim
  | some kk =>
   rw [hty] at h
   cases u with
   | ptr r p n =>
    simp only at h
    have ht := hT.ty t kk hty
    obtain ⟨tk, htk, h⟩ := takeV_inv H h3 h4 h
    rcases cond_ends h with ⟨hc1, h⟩ | ⟨_, h⟩
    · simp only [Bool.and_eq_true] at hc1
      obtain ⟨R, hr, hv, h⟩ := useR_inv h
      rcases cond_ends h with ⟨hc2, h⟩ | ⟨_, h⟩
      · simp only [Bool.and_eq_true] at hc2
        cases hg : getP p R.k R.x with
        | none => rw [hg] at h; exact h.elim
        | some dd =>
          rw [hg] at h
          simp only at h
          have hkk : tk.k = kk := K.eq_of_beq hc1.1
          have hrid := ws_notr hc1.2
          have hown := memN_all hc2.1.2
          obtain ⟨hpin, cs, b, q, hn, e⟩ := h1.2 R hr.1 hv hc2.1.1 hown (by rw [hg]; rfl)
          have hap := apartW_iff.1 hc2.2
          obtain ⟨α1, F1, cst, fot, lw, lh, H1, T1, k1, k2, k3, k4, k5, k6⟩ := take1 H htk
          have hS := k6 r hrid
          have hr1 := (hS.live R).2 hr
          have hv1 : validR (appAll tk.ws σ) R := ⟨hv.1, by rw [cleanT_same (fun t ht => (k6 t.1 (hap t ht)).root)]; exact hv.2⟩
          have hn1 : navF (hp w) p R.k (α1.hdr r) (whR α1 R r) = some (cs, some (b, q)) := by rw [hS.hdr, hS.wh]; exact hn
          obtain ⟨tkk, tkx, town, ttags, tws, tkeep⟩ := tk
          simp only at hkk
          subst hkk
          simp only [Took.bad] at k2 k3 h
          cases hrg : regain R r p dd ⟨tkk, tkx, town, ttags, tws, tkeep⟩ with
          | none =>
            rw [hrg] at h
            obtain ⟨w', r1, α', F', r2⟩ := storeAt_ok (P := P) ht H1 hr1 hv1 hg hpin hown k3 k1 k2 hn1 h
            obtain ⟨R', r2, r3⟩ := r2
            rw [ends_ret r3]
            refine ⟨undef, w', α', F', .inr ⟨?_, rfl⟩, ?_⟩
            · simp only [execOp, ho, e, Sem.run_bind, r1, Result.andThen_ok, Sem.run_pure]
            · rw [hd, appAll_append]
              exact r2
          | some qq =>
            rw [hrg] at h
            simp only at h
            obtain ⟨hck, h⟩ := chkTags_inv h
            obtain ⟨zg, own', g1, g2, g3, g4, g5, g6⟩ := regain_inv hrg
            subst g2
            simp only at hck h
            have hnt := (H1.wroots r R hr1.1).2.2
            obtain ⟨cs1, wh', fo1, rest, hn', H2, T2, _, _, hpm⟩ := gap2 (own' := own') H1 hr1 hv1 hg g1 hpin hown g5 g3
            rw [hn1] at hn'
            simp only [Option.some.injEq, Prod.mk.injEq] at hn'
            obtain ⟨rfl, rfl⟩ := hn'
            have hr2 : liveR (setRoot (appAll tws σ) r (gapRootO R dd zg own')) r (gapRootO R dd zg own') := ⟨setRoot_same .., hr.2⟩
            have hv2 : validR (setRoot (appAll tws σ) r (gapRootO R dd zg own')) (gapRootO R dd zg own') := ⟨hv.1, by
              show cleanT _ _ R.tags = true
              rw [cleanT_set hnt, cleanT_same (fun t ht => (k6 t.1 (hap t ht)).root)]
              exact hck⟩
            have k1' := k2.turn H1 T2 (fun b hb => ⟨rfl, List.mem_append_right _ (k2.sub b hb)⟩)
            have k2' : cleanT (setRoot (appAll tws σ) r (gapRootO R dd zg own')) (vtysK town tkk) ttags = true := by rw [cleanT_set g6]; exact k3
            obtain ⟨f1, f2, f3, f4⟩ := flds_setP (h := hp w) p g4 hg g1 (hole_size dd.1)
            have hsd : (setAsg α1 r (α1.loc r) (α1.hdr r) rest).hdr r = α1.hdr r := by simp [setAsg, upd_same]
            have hswh : whR (setAsg α1 r (α1.loc r) (α1.hdr r) rest) (gapRootO R dd zg own') r = whR α1 R r := by rw [whR_setAsg, whOf_kind (show (gapRootO R dd zg own').kind = R.kind from rfl), ← whR_whOf]
            have hn2 : navF (hp w) p (gapRootO R dd zg own').k ((setAsg α1 r (α1.loc r) (α1.hdr r) rest).hdr r) (whR (setAsg α1 r (α1.loc r) (α1.hdr r) rest) (gapRootO R dd zg own') r) = some (cs, some (b, q)) := by
              rw [hsd, hswh]
              exact (f4 _ _).trans hn1
            obtain ⟨w', r1, α', F', r2⟩ := storeAt_ok (P := P) ht H2 hr2 hv2 f1 f2 (fun t ht => by have ht' : t ∈ pathTys p zg.1 := ht; rw [f3] at ht'; simp at ht') k2' k1 k1' hn2 h
            obtain ⟨R', r2, r3⟩ := r2
            rw [ends_ret r3]
            refine ⟨undef, w', α', F', .inr ⟨?_, rfl⟩, ?_⟩
            · simp only [execOp, ho, e, Sem.run_bind, r1, Result.andThen_ok, Sem.run_pure]
            · rw [hd, appAll_append]
              rw [setRoot_setRoot] at r2
              exact r2
      · exact h.elim
    · exact h.elim
   | _ => exact h.elim

theorem cpyP_inv {A : Type} {z : A} {x : AV} {kk : K} {yes : Nat → Nat → Prog A} {no : Prog A} (h : (cpyP x kk yes no).ends σ z) : (∃ r g R, x = .ref r g ∧ liveR σ r R ∧ validR σ R ∧ R.g = g ∧ R.k = kk ∧ (yes r g).ends σ z) ∨ no.ends σ z := by
  cases x with
  | ref r g =>
    simp only [cpyP, Prog.ends] at h
    cases hr : σ.roots r with
    | none => rw [hr] at h; exact .inr h
    | some R =>
      rw [hr] at h
      simp only at h
      rcases cond_ends h with ⟨_, h⟩ | ⟨_, h⟩
      · obtain ⟨R', hr', hv, h⟩ := useR_inv h
        rcases cond_ends h with ⟨hc, h⟩ | ⟨_, h⟩
        · simp only [Bool.and_eq_true] at hc
          exact .inl ⟨r, g, R', rfl, hr', hv, Nat.eq_of_beq_eq_true hc.1, K.eq_of_beq hc.2, h⟩
        · exact h.elim
      · exact .inr h
  | _ => exact .inr h

theorem did_box (H : Rel cx σ α F a w) (hd : o.dst = some d) (hdn : d < cx.nt) {t : TypeId} {x : Operand} (ho : o.op = .box t x)
    (h : (match T.ty t with
      | some kk => evalO x fun a => cpyP a kk (fun r g => .ret [Wr.s d (.one (.cpy r g kk []))]) <| takeV kk a fun tk => bif tk.k.beq kk && !memN t tk.bad then
          freshR (locR d 0) (.ret (tk.ws ++ [Wr.r (locR d 0) (some (newRoot tk.k tk.x tk.own tk.tags0 (.var t) tk.keep)), Wr.s d (.one (.ptr (locR d 0) [] 0))]))
        else (.fail : Prog (List Wr))
      | none => .fail).ends σ ws) : Did P cx o a w (appAll ws σ) := by
  split at h
  · rename_i kk hty
    obtain ⟨u, h1, h2, h⟩ := evalO_inv H h
    rcases cpyP_inv h with ⟨r, g, R, eu, hr, hv, eg, ek, h5⟩ | h
    · subst eu eg ek
      obtain ⟨hka, hvc⟩ := h1 R hr rfl
      have hb0 : ∀ b, b < w.heap.size → hp (w.alloc (.cells (a.eval x).cells t)) b = hp w b := fun b hb => hp_alloc_old w _ hb
      have H1 : Rel cx σ α F a (w.alloc (.cells (a.eval x).cells t)) := H.grown0 rfl rfl (by show w.heap.size ≤ (w.heap.push _).size; simp) hb0 rfl
      have hnew := hp_alloc_new w (.cells (a.eval x).cells t)
      rw [ends_ret h5]
      refine did_put2 (v := .pointer (some ⟨w.heap.size, 0, none⟩)) (x := .one (.cpy r R.g R.k [])) H1 hd hdn (by simp only [execOp, ho, Sem.run_bind, run_boxAt, Result.andThen_ok, Sem.run_pure]) ⟨a.eval x, w.heap.size, 0, R.k, rfl, ⟨?_, fun hF => ?_, fun q Q hq hbq => ?_⟩, fun i hi => ?_, rfl, h1⟩ h2
      · show w.heap.size < (w.heap.push _).size; simp
      · have := (H.fl _ hF).1; omega
      · have := ((H.roots q Q hq).mine _ hbq).1; omega
      · unfold cellAt
        rw [hnew]
        simp
    obtain ⟨tk, htk, h⟩ := takeV_inv H h1 h2 h
    rcases cond_ends h with ⟨_, h⟩ | ⟨_, h⟩
    · obtain ⟨g1, g2⟩ := freshR_inv h
      rw [ends_ret g2]
      obtain ⟨α1, F1, cst, fot, lw, lh, H1, T1, k1, k2, k3, k4, k5, k6⟩ := take1 H htk
      have hnr : locR d 0 ∉ tk.ws.flatMap Wr.rid := by
        intro hm
        cases htk with
        | held hws cs hv h hc => rw [hws] at hm; simp at hm
        | ref r R hr hv e hk hd => rw [e] at hm; simp only [List.flatMap_cons, List.flatMap_nil, List.append_nil, Wr.rid, List.mem_singleton] at hm; rw [hm, hr.1] at g1; simp at g1
        | gap r R p dd z hr hv hg hz hpin hown hpv e hn => rw [e] at hm; simp only [List.flatMap_cons, List.flatMap_nil, List.append_nil, Wr.rid, List.mem_singleton] at hm; rw [hm, hr.1] at g1; simp at g1
      have hn1 : (appAll tk.ws σ).roots (locR d 0) = none := by rw [(k6 _ hnr).root]; exact g1
      obtain ⟨r1, α', F', r2, r3⟩ := boxHeld (P := P) (t := t) H1 hn1 (isExt_locR d 0) k2 k3 k1 tk.keep
      rw [appAll_append]
      exact did_put2 (x := .one (.ptr (locR d 0) [] 0)) r2 hd hdn (by simp only [execOp, ho, Sem.run_bind, r1, Result.andThen_ok, Sem.run_pure]) r3 ⟨_, setRoot_same .., .inr (Nat.zero_le _)⟩
    · exact h.elim
  · exact h.elim

end
end Go.Proofs.YtcelknaomealbaaDoor.Ow

/- The framework, part 19: fields and elements. Own work of this seat. -/
namespace Go.Proofs.YtcelknaomealbaaDoor.Ow
open Go

variable [Fr]

theorem Vw_field {h : Heap} {ok : Nat → Prop} : ∀ (n : Nat) {c : K} {x : El c} {cs : List Value} {d : Dat}, Vw h ok c x cs → chGet n c x = some d → ∃ off, chOff n c = some (off, d.1) ∧ Vw h ok d.1 d.2 ((cs.drop off).take d.1.size) := by
  intro n
  induction n with
  | zero =>
    intro c x cs d H hg
    cases c with
    | pair a b =>
      simp only [chGet, Option.some.injEq] at hg
      subst hg
      obtain ⟨c1, c2, rfl, h1, h2⟩ := H
      refine ⟨0, rfl, ?_⟩
      have := Vw_len h1
      simpa [← this] using h1
    | _ => simp [chGet] at hg
  | succ n ih =>
    intro c x cs d H hg
    cases c with
    | pair a b =>
      simp only [chGet] at hg
      obtain ⟨c1, c2, rfl, h1, h2⟩ := H
      obtain ⟨off, g1, g2⟩ := ih h2 hg
      refine ⟨a.size + off, by simp [chOff, g1], ?_⟩
      have := Vw_len h1
      rw [← this, ← List.drop_drop]
      simpa using g2
    | _ => simp [chGet] at hg

theorem getP_append : ∀ (p : List Stp) {q : List Stp} {k : K} {x : El k} {d : Dat}, getP p k x = some d → getP (p ++ q) k x = getP q d.1 d.2 := by
  intro p
  induction p with
  | nil => intro q k x d h; simp only [getP, Option.some.injEq] at h; subst h; rfl
  | cons s p ih =>
    intro q k x d h
    cases s with
    | fld n =>
      cases k with
      | st c =>
        simp only [getP, List.cons_append] at h ⊢
        cases hg : chGet n c x with
        | none => rw [hg] at h; simp at h
        | some s => rw [hg] at h; exact ih h
      | _ => simp [getP] at h
    | idx i =>
      cases k with
      | sl e k => simp only [getP, List.cons_append] at h ⊢; exact ih h
      | _ => simp [getP] at h

theorem PIn_append : ∀ (p : List Stp) {q : List Stp} {k : K} {x : El k} {d : Dat}, getP p k x = some d → PIn p k x → PIn q d.1 d.2 → PIn (p ++ q) k x := by
  intro p
  induction p with
  | nil => intro q k x d h _ h2; simp only [getP, Option.some.injEq] at h; subst h; exact h2
  | cons s p ih =>
    intro q k x d h h1 h2
    cases s with
    | fld n =>
      cases k with
      | st c =>
        simp only [getP, PIn, List.cons_append] at h h1 ⊢
        cases hg : chGet n c x with
        | none => rw [hg] at h; simp at h
        | some s => rw [hg] at h h1; exact ih h h1 h2
      | _ => simp [getP] at h
    | idx i =>
      cases k with
      | sl e k => simp only [getP, PIn, List.cons_append] at h h1 ⊢; exact ⟨h1.1, h1.2.1, ih h h1.2.2 h2⟩
      | _ => simp [getP] at h

theorem pathTys_append : ∀ (p : List Stp) {q : List Stp} {k : K} {x : El k} {d : Dat}, getP p k x = some d → pathTys (p ++ q) k = pathTys p k ++ pathTys q d.1 := by
  intro p
  induction p with
  | nil => intro q k x d h; simp only [getP, Option.some.injEq] at h; subst h; rfl
  | cons s p ih =>
    intro q k x d h
    cases s with
    | fld n =>
      cases k with
      | st c =>
        simp only [getP, pathTys, List.cons_append] at h ⊢
        cases hg : chGet n c x with
        | none => rw [hg] at h; simp at h
        | some s => rw [hg] at h; rw [chK_of_get n hg]; exact ih h
      | _ => simp [getP] at h
    | idx i =>
      cases k with
      | sl e k => simp only [getP, pathTys, List.cons_append] at h ⊢; rw [ih h]
      | _ => simp [getP] at h

theorem navF_append {h : Heap} : ∀ (p : List Stp) {q : List Stp} {k : K} {x : El k} {d : Dat} {cs : List Value} {wh : Option (Nat × Nat)} {c1 : List Value} {w1 : Option (Nat × Nat)}, getP p k x = some d → navF h p k cs wh = some (c1, w1) → navF h (p ++ q) k cs wh = navF h q d.1 c1 w1 := by
  intro p
  induction p with
  | nil =>
    intro q k x d cs wh c1 w1 h h1
    simp only [getP, Option.some.injEq] at h
    subst h
    simp only [navF, Option.some.injEq, Prod.mk.injEq] at h1
    obtain ⟨rfl, rfl⟩ := h1
    rfl
  | cons s p ih =>
    intro q k x d cs wh c1 w1 h h1
    cases s with
    | fld n =>
      cases k with
      | st c =>
        simp only [getP, navF, List.cons_append] at h h1 ⊢
        cases hg : chGet n c x with
        | none => rw [hg] at h; simp at h
        | some s =>
          rw [hg] at h
          cases ho : chOff n c with
          | none => rw [ho] at h1; simp at h1
          | some q2 =>
            rw [ho] at h1
            have hk := chOff_kind n (c := c) hg ho
            obtain ⟨o2, k2⟩ := q2
            simp only at hk
            subst hk
            exact ih h h1
      | _ => simp [getP] at h
    | idx i =>
      cases k with
      | sl e k =>
        simp only [getP, List.cons_append] at h
        simp only [navF, List.cons_append] at h1 ⊢
        split at h1
        · exact ih h h1
        · simp at h1
      | _ => simp [getP] at h

theorem beq_size {a b : K} (h : a.beq b = true) : a.size = b.size := by rw [K.eq_of_beq h]

theorem like_size : ∀ {a b : K}, a.like b = true → a.size = b.size := by
  intro a
  induction a with
  | gap n => intro b h; simp only [K.like] at h; exact Nat.eq_of_beq_eq_true h
  | pair a b iha ihb =>
    intro c h
    cases c with
    | pair c d => simp only [K.like, Bool.and_eq_true] at h; simp [K.size, iha h.1, ihb h.2]
    | _ => exact beq_size (by simpa [K.like] using h)
  | st f ih =>
    intro b h
    cases b with
    | st g => simp only [K.like] at h; exact ih (b := g) h
    | _ => exact beq_size (by simpa [K.like] using h)
  | _ => intro b h; exact beq_size (by simpa [K.like] using h)

theorem like_off : ∀ (n : Nat) {a b : K} {off : Nat} {k : K}, a.like b = true → chOff n a = some (off, k) → ∃ k', chOff n b = some (off, k') := by
  intro n
  induction n with
  | zero =>
    intro a b off k h ho
    cases a with
    | pair a1 a2 =>
      simp only [chOff, Option.some.injEq, Prod.mk.injEq] at ho
      cases b with
      | pair b1 b2 => exact ⟨b1, by simp [chOff, ho.1]⟩
      | _ => simp [K.like, K.beq] at h
    | _ => simp [chOff] at ho
  | succ n ih =>
    intro a b off k h ho
    cases a with
    | pair a1 a2 =>
      simp only [chOff] at ho
      cases h2 : chOff n a2 with
      | none => rw [h2] at ho; simp at ho
      | some q =>
        rw [h2] at ho
        simp only [Option.some.injEq, Prod.mk.injEq] at ho
        cases b with
        | pair b1 b2 =>
          simp only [K.like, Bool.and_eq_true] at h
          obtain ⟨k', h3⟩ := ih (off := q.1) (k := q.2) h.2 (by rw [h2])
          exact ⟨k', by simp [chOff, h3, ← ho.1, like_size h.1]⟩
        | _ => simp [K.like, K.beq] at h
    | _ => simp [chOff] at ho

section
variable {P : Program} {T : Tab} {cx : Cx} {σ : St} {α : Asg} {F : List Nat} {a : Act} {w : World} {o : Oper} {d : Nat} {ws : List Wr}

theorem run_fieldAt {t : TypeId} {c : K} (h : TyOk P T t (.st c)) {n off : Nat} {k : K} (ho : chOff n c = some (off, k)) (b q : Nat) :
    (Instr.fieldAt t (.pointer (some ⟨b, q, none⟩)) n).run P w = .ok (.pointer (some ⟨b, q + off, none⟩)) w := by
  obtain ⟨fs, hu, hf⟩ := h.st
  obtain ⟨f, f1, f2, f3, f4⟩ := structField n hf ho
  have f1' : fs[n]? = some f := by rw [← Array.getElem?_toList]; exact f1
  unfold Instr.fieldAt Instr.sureAddr fieldPlace
  simp only [Sem.run_bind, run_underlying hu, Result.andThen, f1', Sem.run_pure, f3.info.sizeOf w, Sem.run_ite]
  rw [if_neg (by omega), addr_add]
  simp [show f.offset = off from by omega]

theorem agg_of {k : K} {c : K} {v : Value} {cs : List Value} (e : k = .st c) (h : VC k v cs) : v = .agg cs.toArray := by subst e; exact h

theorem did_field (hT : TabOk P T) (H : Rel cx σ α F a w) (hd : o.dst = some d) (hdn : d < cx.nt) {t : TypeId} {x : Operand} {n : Nat} (ho : o.op = .field t x n)
    (h : (match T.ty t with
      | some kk => evalO x fun a => fieldP kk a n fun u => .ret [Wr.s d (.one u)]
      | none => (.fail : Prog (List Wr))).ends σ ws) : Did P cx o a w (appAll ws σ) := by
  split at h
  case h_2 => exact h.elim
  rename_i kk hty
  have ht := hT.ty t kk hty
  obtain ⟨v, h1, h2, h⟩ := evalO_inv H h
  have hrunx : ∀ {c : K} {cs : List Value} {off : Nat} {k : K}, kk = .st c → a.eval x = .agg cs.toArray → chOff n c = some (off, k) → cs.length = c.size → (∀ v ∈ cs, v.oneCell' = true) →
      ∃ u, (execOp a.eval o).run P w = .ok (.value u) w ∧ VC k u ((cs.drop off).take k.size) := by
    intro c cs off k ek ev hoff hl h1
    subst ek
    obtain ⟨u, g1, g2⟩ := run_field (w := w) ht hoff hl h1
    exact ⟨u, by simp only [execOp, ho, ev, Sem.run_bind, g1, Result.andThen_ok, Sem.run_pure], g2⟩
  -- a field of what lies at a place
  have key : ∀ {r : Nat} {R : Root} {p : List Stp} {d0 dd : Dat} {cs : List Value} {wh : Option (Nat × Nat)}, liveR σ r R → validR σ R → getP p R.k R.x = some d0 → d0.1 = kk → getP (p ++ [.fld n]) R.k R.x = some dd → PIn p R.k R.x → (∀ t ∈ pathTys p R.k, memN t R.own = true) →
      navF (hp w) p R.k (α.hdr r) (whR α R r) = some (cs, wh) → VC d0.1 (a.eval x) cs →
      ∃ u, (execOp a.eval o).run P w = .ok (.value u) w ∧ AVok cx σ α F w (.bor r (p ++ [.fld n]) R.ver) u ∧ (dd.1.flat = true → AVok cx σ α F w (.val dd.1 dd.2 []) u) := by
    intro r R p d0 dd cs wh hr hv hg0 e0 hg hpin hown hn hvc
    obtain ⟨k0, x0⟩ := d0
    simp only at e0
    subst e0
    have hg1 := getP_append p (q := [.fld n]) hg0
    rw [hg] at hg1
    have hpt := pathTys_append p (q := [.fld n]) hg0
    cases k0 with
    | st c =>
      simp only [getP] at hg1
      cases hcg : chGet n c x0 with
      | none => rw [hcg] at hg1; simp at hg1
      | some s =>
        rw [hcg] at hg1
        simp only [getP, Option.some.injEq] at hg1
        subst hg1
        obtain ⟨fo1, hO, hf⟩ := placeOw H hr hv hg0 hpin hown hn
        obtain ⟨off, pre, cs1, post, fo2, fr, ho1, ec, hl, hp, hd2, _⟩ := chFocus n (show Ow _ _ _ c x0 cs fo1 from hO) hcg
        have hsub : (cs.drop off).take s.1.size = cs1 := by rw [ec]; exact take_drop_mid hl (Ow_len hd2)
        obtain ⟨u, r1, r2⟩ := hrunx rfl hvc ho1 (Ow_len (k := c) hO) (Ow_one ht.noGap hO)
        rw [hsub] at r2
        refine ⟨u, r1, bor_same (cs := cs1) (wh := wh.map fun q => (q.1, q.2 + off)) hr hg ?_ ?_ ?_ r2, fun hfl => fun _ => ⟨cs1, r2, Vw_flat hfl (Ow_view (fun _ => True) (fun _ _ => trivial) (fun _ _ => trivial) hd2)⟩⟩
        · exact PIn_append p hg0 hpin (by simp only [PIn, hcg])
        · rw [hpt]
          intro t ht
          rcases List.mem_append.1 ht with h | h
          · exact hown t h
          · simp [pathTys, chK_of_get n hcg] at h
        · rw [navF_append p hg0 hn]
          simp only [navF]
          rw [ho1]
          simp only
          rw [hsub]
    | _ => simp [getP] at hg1
  cases v with
  | val k0 y Tg =>
    cases k0 with
    | st c =>
      simp only [fieldP] at h
      rcases cond_ends h with ⟨hc, h⟩ | ⟨_, h⟩
      · have ek := K.eq_of_beq hc
        cases hg : chGet n c y with
        | none => rw [hg] at h; exact h.elim
        | some dd =>
          rw [hg] at h
          obtain ⟨g1, g2⟩ := chkTags_inv h
          rw [ends_ret g2]
          obtain ⟨cs, hv, hV⟩ := h1 (.inr g1)
          obtain ⟨off, ho1, ho2⟩ := Vw_field n (show Vw _ _ c y cs from hV) hg
          obtain ⟨u, r1, r2⟩ := hrunx ek.symm hv ho1 (Vw_len (k := c) hV) (Vw_one (k := .st c) (by rw [ek]; exact ht.noGap) hV)
          refine did_put H hd hdn r1 (show AVok cx σ α F w (.val dd.1 dd.2 _) u from fun _ => ⟨_, r2, ?_⟩) ?_
          · cases hf : dd.1.flat with
            | true => exact Vw_flat hf ho2
            | false => exact ho2
          · cases hf : dd.1.flat with
            | true => intro t ht; simp at ht
            | false => exact h2
      · exact h.elim
    | _ => exact h.elim
  | ref r g =>
    simp only [fieldP] at h
    obtain ⟨R, hr, hv, h⟩ := useR_inv h
    rcases cond_ends h with ⟨hc, h5⟩ | ⟨_, h⟩
    · simp only [Bool.and_eq_true] at hc
      obtain ⟨hka, hvc⟩ := h1 R hr (Nat.eq_of_beq_eq_true hc.1)
      have ek := K.eq_of_beq hc.2
      cases hg : getP [.fld n] R.k R.x with
      | none => rw [hg] at h5; exact h5.elim
      | some dd =>
        rw [hg] at h5
        simp only at h5
        obtain ⟨u, r1, r2, r3⟩ := key (p := []) (d0 := ⟨R.k, R.x⟩) hr hv rfl ek hg trivial (fun t ht => by simp [pathTys] at ht) rfl hvc
        rcases cond_ends h5 with ⟨hf, h6⟩ | ⟨_, h6⟩
        · rw [ends_ret h6]
          exact did_put H hd hdn r1 (r3 hf) (fun t ht => by simp at ht)
        · rw [ends_ret h6]
          exact did_put (x := .one (.bor r [.fld n] R.ver)) H hd hdn r1 r2 ⟨R, hr.1, .inr (Nat.le_refl _)⟩
    · exact h.elim
  | bor r p nn =>
    simp only [fieldP] at h
    obtain ⟨R, hr, hv, h⟩ := useR_inv h
    rcases cond_ends h with ⟨hc, h5⟩ | ⟨_, h⟩
    · cases hg0 : getP p R.k R.x with
      | none => rw [hg0] at h5; exact h5.elim
      | some d0 =>
        cases hg : getP (p ++ [.fld n]) R.k R.x with
        | none => rw [hg0, hg] at h5; exact h5.elim
        | some dd =>
          rw [hg0, hg] at h5
          simp only at h5
          rcases cond_ends h5 with ⟨_, h6⟩ | ⟨hk, h6⟩
          · exact h6.elim
          · have ek : d0.1 = kk := K.eq_of_beq (by simpa using hk)
            obtain ⟨g1, g2, cs, wh, g3, g4⟩ := h1 R hr.1 hv (Nat.eq_of_beq_eq_true hc) d0 hg0
            obtain ⟨u, r1, r2, r3⟩ := key hr hv hg0 ek hg g1 g2 g3 g4
            rcases cond_ends h6 with ⟨hf, h7⟩ | ⟨_, h7⟩
            · rw [ends_ret h7]
              exact did_put H hd hdn r1 (r3 hf) (fun t ht => by simp at ht)
            · rw [ends_ret h7]
              exact did_put (x := .one (.bor r (p ++ [.fld n]) R.ver)) H hd hdn r1 (show AV1ok cx σ α F w (.one (.bor r (p ++ [.fld n]) R.ver)) u from r2) ⟨R, hr.1, .inr (Nat.le_refl _)⟩
    · exact h.elim
  | _ => exact h.elim

theorem did_fieldAddr (hT : TabOk P T) (H : Rel cx σ α F a w) (hd : o.dst = some d) (hdn : d < cx.nt) {t : TypeId} {x : Operand} {n : Nat} (ho : o.op = .fieldAddr t x n)
    (h : (match T.ty t with
      | some kk => evalO x fun a => fieldAddrP kk a n fun u => .ret [Wr.s d (.one u)]
      | none => (.fail : Prog (List Wr))).ends σ ws) : Did P cx o a w (appAll ws σ) := by
  split at h
  case h_2 => exact h.elim
  rename_i kk hty
  have ht := hT.ty t kk hty
  obtain ⟨v, h1, h2, h⟩ := evalO_inv H h
  have hrun : ∀ {c : K} {off : Nat} {k : K} {b q : Nat}, kk = .st c → chOff n c = some (off, k) → a.eval x = .pointer (some ⟨b, q, none⟩) → (execOp a.eval o).run P w = .ok (.value (.pointer (some ⟨b, q + off, none⟩))) w := by
    intro c off k b q ek hoff ev
    subst ek
    have := run_fieldAt (w := w) ht hoff b q
    simp only [execOp, ho, ev, Sem.run_bind, this, Result.andThen_ok, Sem.run_pure]
  cases v with
  | ptr r p m =>
    simp only [fieldAddrP, Prog.ends] at h
    cases hr0 : σ.roots r with
    | none => rw [hr0] at h; exact h.elim
    | some R =>
      rw [hr0] at h
      simp only at h
      cases hg : getP p R.k R.x with
      | none => rw [hg] at h; exact h.elim
      | some d0 =>
        rw [hg] at h
        simp only at h
        rcases cond_ends h with ⟨hc, h5⟩ | ⟨_, h5⟩
        · simp only [Bool.and_eq_true] at hc
          rw [ends_ret h5]
          unfold hasFld at hc
          cases kk with
          | st c =>
            obtain ⟨off, kf, hoff⟩ := chK_off n hc.2
            obtain ⟨⟨b, q, ev⟩, h1'⟩ := h1
            refine did_put (x := .one (.ptr r (p ++ [.fld n]) m)) H hd hdn (hrun rfl hoff ev) ⟨⟨b, q + off, rfl⟩, ?_⟩ h2
            intro R' hR' hv hcl hown hs
            rw [hr0] at hR'
            simp only [Option.some.injEq] at hR'
            subst hR'
            have hpt := pathTys_append p (q := [.fld n]) hg
            have e0 : pathTys [.fld n] d0.1 = [] := by
              obtain ⟨dk, dx⟩ := d0
              cases dk with
              | st c' =>
                simp only [pathTys]
                cases pathTys.chK n c' <;> rfl
              | _ => rfl
            rw [e0, List.append_nil] at hpt
            have hcl' : clean R.h m (ptrTys p R.k) = true := by
              unfold clean at hcl ⊢
              rw [List.all_eq_true] at hcl ⊢
              intro t ht
              have := hcl t ht
              simp only [Bool.not_eq_true', memN_false] at this ⊢
              intro h6
              refine this ?_
              have e1 : ptrTys (p ++ [.fld n]) R.k = GAPT :: pathTys (p ++ [.fld n]) R.k := by cases p <;> rfl
              rw [e1, hpt]
              cases p with
              | nil => simp [ptrTys] at h6
              | cons s p => exact h6
            rw [hpt] at hown
            obtain ⟨g1, cs, b', q', g2, g3⟩ := h1' R hr0 hv hcl' hown (by rw [hg]; rfl)
            rw [ev] at g3
            simp only [Value.pointer.injEq, Option.some.injEq, Addr.mk.injEq, and_true] at g3
            obtain ⟨rfl, rfl⟩ := g3
            have hga := getP_append p (q := [.fld n]) hg
            rw [hga] at hs
            obtain ⟨dk, dx⟩ := d0
            cases dk with
            | st c' =>
              simp only [getP] at hs
              cases hcg : chGet n c' dx with
              | none => rw [hcg] at hs; simp at hs
              | some s =>
                have hck : (pathTys.chK n c').isSome = true := by rw [chK_of_get n hcg]; rfl
                obtain ⟨off', kf', hoff'⟩ := chK_off n hck
                have hl : c'.like c = true := hc.1
                obtain ⟨kf2, hoff2⟩ := like_off n hl hoff'
                rw [hoff] at hoff2
                simp only [Option.some.injEq, Prod.mk.injEq] at hoff2
                refine ⟨PIn_append p hg g1 (by simp only [PIn, hcg]), (cs.drop off').take kf'.size, b, q + off, ?_, rfl⟩
                rw [navF_append p hg g2]
                simp only [navF]
                rw [hoff']
                simp [hoff2.1]
            | _ => simp [getP] at hs
          | _ => simp at hc
        · exact h5.elim
  | rptr bt k0 y Tg =>
    cases k0 with
    | st c =>
      simp only [fieldAddrP] at h
      rcases cond_ends h with ⟨hc, h5⟩ | ⟨_, h5⟩
      · have ek := K.eq_of_beq hc
        cases hg : chGet n c y with
        | none => rw [hg] at h5; exact h5.elim
        | some dd =>
          rw [hg] at h5
          obtain ⟨g1, g2⟩ := chkTags_inv h5
          rw [ends_ret g2]
          obtain ⟨b, q, cs, e, hcs, hV, hok, hb⟩ := h1.2 g1
          obtain ⟨off, ho1, ho2⟩ := Vw_field n (show Vw _ _ c y cs from hV) hg
          have hle := chOff_le n ho1
          have hlen := Vw_len (k := c) hV
          refine did_put (x := .one (.rptr bt dd.1 dd.2 Tg)) H hd hdn (hrun ek.symm ho1 e) ⟨⟨b, q + off, rfl⟩, fun _ => ⟨b, q + off, _, rfl, ?_, ho2, hok, hb⟩⟩ h2
          intro i hi
          simp only [List.length_take, List.length_drop] at hi
          rw [Nat.add_assoc, hcs (off + i) (by omega)]
          rw [List.getElem?_take_of_lt (by omega), List.getElem?_drop]
      · exact h5.elim
    | _ => exact h.elim
  | cpy r g k0 p =>
    simp only [fieldAddrP] at h
    cases hk : kindP p k0 with
    | none => rw [hk] at h; exact h.elim
    | some k1 =>
      rw [hk] at h
      simp only at h
      rcases cond_ends h with ⟨hc, h5⟩ | ⟨_, h5⟩
      · simp only [Bool.and_eq_true] at hc
        rw [ends_ret h5]
        have ek := K.eq_of_beq hc.1
        subst ek
        obtain ⟨u, b, off, k2, e, hq, hC, ho1, hR⟩ := h1
        have e2 := kindP_off p hk ho1
        subst e2
        unfold hasFld at hc
        cases k2 with
        | st c =>
          obtain ⟨o2, kf, hoff⟩ := chK_off n hc.2
          exact did_put (x := .one (.cpy r g k0 (p ++ [.fld n]))) H hd hdn (hrun rfl hoff e) ⟨u, b, off + o2, kf, rfl, hq, hC, fldOff_append p ho1 rfl hoff, hR⟩ h2
        | _ => simp at hc
      · exact h5.elim
  | _ => exact h.elim

theorem run_indexAt {t e : TypeId} {k : K} (h : TyOk P T t (.sl e k)) {ik : IntKind} {i : Int} {b q n c : Nat} (h0 : 0 ≤ i) (h1 : i < (n : Int)) :
    (Instr.indexAt t (.slice (some ⟨b, q, none⟩) n c) (.int ik i)).run P w = .ok (.pointer (some ⟨b, q + i.toNat * k.size, none⟩)) w := by
  obtain ⟨hu, he, _, _⟩ := h.sl
  unfold Instr.indexAt
  simp [asIntOf, run_underlying hu, Result.andThen, h0, h1, he.info.sizeOf w, addr_add]

end
end Go.Proofs.YtcelknaomealbaaDoor.Ow

/- The framework, part 20: elements, lengths, tuples. Own work of this seat. -/
namespace Go.Proofs.YtcelknaomealbaaDoor.Ow
open Go

variable [Fr]

section
variable {P : Program} {T : Tab} {cx : Cx} {σ : St} {α : Asg} {F : List Nat} {a : Act} {w : World} {o : Oper} {d : Nat} {ws : List Wr}

theorem sl_val {e : TypeId} {k : K} {v : Value} {cs : List Value} {h : Heap} {ok : Nat → Prop} {xs : List (El k)} (hv : VC (.sl e k) v cs) (hV : Vw h ok (.sl e k) xs cs) :
    ∃ b n c, v = .slice b n c ∧ cs = [.slice b n c] ∧ n = xs.length ∧ n ≤ c ∧ (0 < n → ∃ bb q, b = some ⟨bb, q, none⟩ ∧ ok bb ∧ elIs h bb e ∧ ∀ (i : Nat) (hi : i < xs.length), ∃ ds, Cells h bb (q + i * k.size) ds ∧ Vw h ok k xs[i] ds) := by
  obtain ⟨b, n, c, e1, e2, e3, e4⟩ := hV
  obtain ⟨e5, _⟩ : cs = [v] ∧ _ := hv
  rw [e1] at e5
  simp only [List.cons.injEq, and_true] at e5
  exact ⟨b, n, c, e5.symm, e1, e2, e3, e4⟩

theorem did_indexAddr (hT : TabOk P T) (H : Rel cx σ α F a w) (hd : o.dst = some d) (hdn : d < cx.nt) {t : TypeId} {x y : Operand} (ho : o.op = .indexAddr t x y)
    (h : (match T.ty t with
      | some kk => evalO x fun a => evalO y fun i => asInt i fun _ i => indexAddrP kk a i fun u => .ret [Wr.s d (.one u)]
      | none => (.fail : Prog (List Wr))).ends σ ws) : Did P cx o a w (appAll ws σ) := by
  split at h
  case h_2 => exact h.elim
  rename_i k0 hty
  have ht := hT.ty t k0 hty
  obtain ⟨v, h1, h2, h⟩ := evalO_inv H h
  obtain ⟨vi, h3, _, h⟩ := evalO_inv H h
  obtain ⟨ik, i, ei, _, h⟩ := asInt_inv h3 h
  have hrun : ∀ {e : TypeId} {k : K} {b q n c : Nat}, k0 = .sl e k → a.eval x = .slice (some ⟨b, q, none⟩) n c → 0 ≤ i → i < (n : Int) → (execOp a.eval o).run P w = .ok (.value (.pointer (some ⟨b, q + i.toNat * k.size, none⟩))) w := by
    intro e k b q n c ek ev g0 g1
    subst ek
    have := run_indexAt (w := w) (ik := ik) (b := b) (q := q) (c := c) ht g0 g1
    simp only [execOp, ho, ev, ei, Sem.run_bind, this, Result.andThen_ok, Sem.run_pure]
  -- an element of what lies at a place
  have key : ∀ {r : Nat} {R : Root} {p : List Stp} {e : TypeId} {kk : K} {xs : List (El kk)} {cs : List Value} {wh : Option (Nat × Nat)}, liveR σ r R → validR σ R → getP p R.k R.x = some ⟨.sl e kk, xs⟩ → K.sl e kk = k0 → PIn p R.k R.x → (∀ t ∈ pathTys p R.k, memN t R.own = true) →
      navF (hp w) p R.k (α.hdr r) (whR α R r) = some (cs, wh) → VC (.sl e kk) (a.eval x) cs → inLen i xs.length →
      ∃ u, (execOp a.eval o).run P w = .ok (.value u) w ∧ AVok cx σ α F w (.ptr r (p ++ [.idx i]) (lenN R.h)) u ∧ AVok cx σ α F w (.rptr e kk (xs.getD i.toNat kk.zero) (R.out r (.sl e kk))) u := by
    intro r R p e kk xs cs wh hr hv hg ek hpin hown hn hvc hin
    obtain ⟨fo1, hO, hf⟩ := placeOw H hr hv hg hpin hown hn
    have hV := out_view H hr hO hf
    obtain ⟨b, n, c, g1, g2, g3, g4, g5⟩ := sl_val hvc hV
    have i0 : (0 : Int) ≤ i := hin.1
    have i1 : i < (xs.length : Int) := hin.2
    have hlt : i.toNat < xs.length := by omega
    obtain ⟨bb, q, rfl, hok, hel, hes⟩ := g5 (by rw [g3]; exact Nat.lt_of_le_of_lt (Nat.zero_le _) hlt)
    obtain ⟨ds, hc, hVd⟩ := hes i.toNat hlt
    refine ⟨_, hrun ek.symm g1 i0 (by rw [g3]; exact i1), ⟨⟨bb, q + i.toNat * kk.size, rfl⟩, ?_⟩, ⟨⟨bb, q + i.toNat * kk.size, rfl⟩, fun _ => ⟨bb, _, ds, rfl, hc, ?_, hok.q, .inr ⟨hel, hok.2.2.1⟩⟩⟩⟩
    · intro R' hR' _ _ _ _
      rw [hr.1] at hR'
      simp only [Option.some.injEq] at hR'
      subst hR'
      refine ⟨PIn_append p hg hpin ⟨i0, i1, trivial⟩, rowL (hp w) bb (q + i.toNat * kk.size) kk.size, bb, q + i.toNat * kk.size, ?_, rfl⟩
      rw [navF_append p hg hn, g2]
      rfl
    · rw [getElem_getD hlt]
      exact hVd
  cases v with
  | val k1 y Tg =>
    cases k1 with
    | sl e kk =>
      simp only [indexAddrP] at h
      rcases cond_ends h with ⟨hc, h5⟩ | ⟨_, h5⟩
      · have ek := K.eq_of_beq hc
        obtain ⟨g1, g2⟩ := chkTags_inv h5
        obtain ⟨hin, g3⟩ := g2
        rw [ends_ret g3]
        obtain ⟨cs, hvc, hV⟩ := h1 (.inr g1)
        obtain ⟨b, n, c, f1, f2, f3, f4, f5⟩ := sl_val hvc hV
        obtain ⟨i0, i1⟩ := hin
        have hlt : i.toNat < @List.length (El kk) y := by
          have i1' : i < ((@List.length (El kk) y : Nat) : Int) := i1
          omega
        obtain ⟨bb, q, rfl, hok, hel, hes⟩ := f5 (by omega)
        obtain ⟨ds, hcs, hVd⟩ := hes i.toNat hlt
        refine did_put (x := .one (.rptr e kk _ Tg)) H hd hdn (hrun ek.symm f1 i0 (by rw [f3]; exact i1)) ⟨⟨bb, _, rfl⟩, fun _ => ⟨bb, _, ds, rfl, hcs, ?_, hok.q, .inr ⟨hel, hok.2.2.1⟩⟩⟩ h2
        have eg : (show List (El kk) from y).getD i.toNat kk.zero = (show List (El kk) from y)[i.toNat]'hlt := getElem_getD hlt
        rw [eg]
        exact hVd
      · exact h5.elim
    | _ => exact h.elim
  | ref r g =>
    simp only [indexAddrP] at h
    obtain ⟨R, hr, hv, h⟩ := useR_inv h
    rcases cond_ends h with ⟨hc, h5⟩ | ⟨_, h5⟩
    · obtain ⟨hka, hvc⟩ := h1 R hr (Nat.eq_of_beq_eq_true hc)
      have hg : getP [] R.k R.x = some ⟨R.k, R.x⟩ := rfl
      have hK : ∀ (q : Dat), getP [] R.k R.x = some q → ∀ hh : (match q.1, q.2 with
          | .sl e kk, xs => bif memN e R.own && (K.sl e kk).beq k0 then Prog.chk (inLen i (show List (El kk) from xs).length) inferInstance ((.ret [Wr.s d (.one (.ptr r [.idx i] (lenN R.h)))]) : Prog (List Wr)) else Prog.fail
          | _, _ => Prog.fail).ends σ ws, VC q.1 (a.eval x) (α.hdr r) → Did P cx o a w (appAll ws σ) := by
        intro q hq hh hvc
        obtain ⟨qk, qx⟩ := q
        cases qk with
        | sl e kk =>
          simp only at hh
          rcases cond_ends hh with ⟨hc2, h6⟩ | ⟨_, h6⟩
          · simp only [Bool.and_eq_true] at hc2
            obtain ⟨hin, h7⟩ := h6
            rw [ends_ret h7]
            obtain ⟨u, r1, r2, _⟩ := key (p := []) hr hv hq (K.eq_of_beq hc2.2) trivial (fun t ht => by simp [pathTys] at ht) rfl hvc hin
            exact did_put (x := .one (.ptr r [.idx i] (lenN R.h))) H hd hdn r1 r2 ⟨R, hr.1, .inr (Nat.le_refl _)⟩
          · exact h6.elim
        | _ => exact hh.elim
      exact hK ⟨R.k, R.x⟩ hg h5 hvc
    · exact h5.elim
  | bor r p nn =>
    simp only [indexAddrP] at h
    obtain ⟨R, hr, hv, h⟩ := useR_inv h
    rcases cond_ends h with ⟨hc, h5⟩ | ⟨_, h5⟩
    · cases hg0 : getP p R.k R.x with
      | none => rw [hg0] at h5; exact h5.elim
      | some d0 =>
        rw [hg0] at h5
        obtain ⟨g1, g2, cs, wh, g3, g4⟩ := h1 R hr.1 hv (Nat.eq_of_beq_eq_true hc) d0 hg0
        obtain ⟨dk, dx⟩ := d0
        cases dk with
        | sl e kk =>
          simp only at h5
          rcases cond_ends h5 with ⟨_, h6⟩ | ⟨hk, h6⟩
          · exact h6.elim
          · have ek : K.sl e kk = k0 := K.eq_of_beq (by simpa using hk)
            rcases cond_ends h6 with ⟨_, h7⟩ | ⟨_, h7⟩
            · obtain ⟨hin, h8⟩ := h7
              rw [ends_ret h8]
              obtain ⟨u, r1, r2, _⟩ := key hr hv hg0 ek g1 g2 g3 g4 hin
              exact did_put (x := .one (.ptr r (p ++ [.idx i]) (lenN R.h))) H hd hdn r1 (show AV1ok cx σ α F w (.one (.ptr r (p ++ [.idx i]) (lenN R.h))) u from r2) ⟨R, hr.1, .inr (Nat.le_refl _)⟩
            · obtain ⟨hin, h8⟩ := h7
              rw [ends_ret h8]
              obtain ⟨u, r1, _, r3⟩ := key hr hv hg0 ek g1 g2 g3 g4 hin
              exact did_put H hd hdn r1 (show AV1ok cx σ α F w (.one (.rptr e kk _ (R.out r (.sl e kk)))) u from r3) (out_W H hr _)
        | _ => exact h5.elim
    · exact h5.elim
  | _ => exact h.elim

theorem bytesOf_getD (B : ByteArray) {n : Nat} (h : n < B.size) : (bytesOf B).getD n 0 = (B[n].toNat : Int) := by
  unfold bytesOf
  have : n < (B.data.toList.map fun b => (b.toNat : Int)).length := by simpa using h
  rw [getElem_getD this]
  simp
  rfl

theorem bytesOf_len (B : ByteArray) : (bytesOf B).length = B.size := by simp [bytesOf]

theorem did_index (hT : TabOk P T) (H : Rel cx σ α F a w) (hd : o.dst = some d) (hdn : d < cx.nt) {t : TypeId} {x y : Operand} (ho : o.op = .index t x y)
    (h : (evalO x fun a => evalO y fun i => asInt i fun _ i => match T.ty t, a with
      | some .str, .val .str s _ => .chk (inLen i (show List Int from s).length) inferInstance (.ret [Wr.s d (.one (.val (.int .u8) ((show List Int from s).getD i.toNat 0) []))])
      | _, _ => (.fail : Prog (List Wr))).ends σ ws) : Did P cx o a w (appAll ws σ) := by
  obtain ⟨v, h1, h2, h⟩ := evalO_inv H h
  obtain ⟨vi, h3, _, h⟩ := evalO_inv H h
  obtain ⟨ik, i, ei, _, h⟩ := asInt_inv h3 h
  cases hty : T.ty t with
  | none => rw [hty] at h; exact h.elim
  | some k0 =>
    rw [hty] at h
    cases k0 with
    | str =>
      cases v with
      | val k1 s Tg =>
        cases k1 with
        | str =>
          simp only at h
          obtain ⟨⟨i0, i1⟩, h4⟩ := h
          rw [ends_ret h4]
          obtain ⟨B, e1, e2⟩ := val_str h1
          subst e2
          have hu : P.underlying t = some .string := by
            have := hT.ty t .str hty
            unfold TyOk TyOk2 at this
            exact this.1
          have hlt : i.toNat < B.size := by
            have i1' : i < ((bytesOf B).length : Int) := i1
            rw [bytesOf_len] at i1'
            omega
          refine did_put (v := .int .u8 (B[i.toNat].toNat : Int)) H hd hdn ?_ ?_ (fun t ht => by simp at ht)
          · simp only [execOp, ho, e1, ei, Instr.index, asIntOf, Sem.run_bind, Sem.run_pure, Result.andThen_ok, run_underlying hu]
            rw [if_pos i0]
            simp [hlt]
          · have eg : (show List Int from bytesOf B).getD i.toNat 0 = (B[i.toNat].toNat : Int) := bytesOf_getD B hlt
            rw [eg]
            refine mk_int ⟨by omega, ?_⟩
            have := B[i.toNat].toNat_lt
            omega
        | _ => exact h.elim
      | _ => exact h.elim
    | _ => cases v <;> exact h.elim

theorem listOk_get {l : List AV} {vs : List Value} (h : listOk cx σ α F w l vs) {i : Nat} {x : AV} (hi : l[i]? = some x) : ∃ v, vs[i]? = some v ∧ AVok cx σ α F w x v := by
  induction l generalizing vs i with
  | nil => simp at hi
  | cons b l ih =>
    cases vs with
    | nil => exact h.elim
    | cons u vs =>
      cases i with
      | zero => simp only [List.getElem?_cons_zero, Option.some.injEq] at hi; subst hi; exact ⟨u, rfl, h.1⟩
      | succ i => simp only [List.getElem?_cons_succ] at hi; obtain ⟨v, h1, h2⟩ := ih h.2 hi; exact ⟨v, by simpa using h1, h2⟩

theorem did_extract (H : Rel cx σ α F a w) (hd : o.dst = some d) (hdn : d < cx.nt) {x : Operand} {i : Nat} (ho : o.op = .extract x i)
    (h : (evalO1 x fun
      | .tup l => match l[i]? with
        | some u => .ret [Wr.s d (.one u)]
        | none => .fail
      | _ => (.fail : Prog (List Wr))).ends σ ws) : Did P cx o a w (appAll ws σ) := by
  obtain ⟨v, h1, h2, h⟩ := evalO1_inv H h
  cases v with
  | one u => exact h.elim
  | tup l =>
    simp only at h
    cases hi : l[i]? with
    | none => rw [hi] at h; exact h.elim
    | some u =>
      rw [hi] at h
      rw [ends_ret h]
      obtain ⟨vs, e1, e2⟩ := h1
      obtain ⟨v, g1, g2⟩ := listOk_get e2 hi
      refine did_put (x := .one u) (v := v) H hd hdn ?_ g2 (h2 u (List.mem_of_getElem? hi))
      simp [execOp, ho, e1, Instr.extract, g1]

end
end Go.Proofs.YtcelknaomealbaaDoor.Ow

/- The framework, part 21: operators. Own work of this seat. -/
namespace Go.Proofs.YtcelknaomealbaaDoor.Ow
open Go

variable [Fr]

theorem rng_wrap (ik : IntKind) (n : Int) : rng ik (ik.wrap n) := by
  cases ik <;> simp only [rng]
  simp only [IntKind.wrap, IntKind.bits, IntKind.signed]
  simp
  omega

theorem ikBeq_iff {a b : IntKind} (h : ikBeq a b = true) : a = b := ikBeq_eq h

section
variable {P : Program} {cx : Cx} {σ : St} {α : Asg} {F : List Nat} {a : Act} {w : World} {o : Oper} {d : Nat} {ws : List Wr}

theorem v1_int (ik : IntKind) {n : Int} (h : rng ik n) : AV1ok cx σ α F w (v1 (.int ik) n) (.int ik n) := mk_int h
theorem v1_bool (b : Bool) : AV1ok cx σ α F w (v1 .bool b) (.bool b) := mk_bool
theorem v1_W {k : K} {x : El k} : av1W σ (v1 k x) := fun t ht => by simp at ht

/-- What an operator on integers comes to. -/
theorem intOp_run {op : BinOp} {ik : IntKind} {x y : Int} {z : List Wr} (hx : rng ik x) (hy : rng ik y) (ht : TypeId) {k : AV1 → Prog (List Wr)} (hk : ∀ v, k v = .ret [Wr.s d v]) (h : (intOp op ik x y k).ends σ z) :
    ∃ kk y', (∃ v, (Go.binOp op ht (.int ik x) (.int ik y)).run P w = .ok v w ∧ AV1ok cx σ α F w (v1 kk y') v) ∧ z = [Wr.s d (v1 kk y')] := by
  unfold intOp at h
  cases op <;> simp only [hk] at h
  case add => exact ⟨.int ik, _, ⟨_, by simp [Go.binOp, Op.intArith], v1_int ik (rng_wrap ik _)⟩, ends_ret h⟩
  case sub => exact ⟨.int ik, _, ⟨_, by simp [Go.binOp, Op.intArith], v1_int ik (rng_wrap ik _)⟩, ends_ret h⟩
  case mul => exact ⟨.int ik, _, ⟨_, by simp [Go.binOp, Op.intArith], v1_int ik (rng_wrap ik _)⟩, ends_ret h⟩
  case quo =>
    obtain ⟨h0, h⟩ := h
    exact ⟨.int ik, _, ⟨_, by simp [Go.binOp, Op.intDiv, h0], v1_int ik (rng_wrap ik _)⟩, ends_ret h⟩
  case rem =>
    obtain ⟨h0, h⟩ := h
    refine ⟨.int ik, _, ⟨_, by simp [Go.binOp, Op.intDiv, h0], v1_int ik ?_⟩, ends_ret h⟩
    cases ik <;> simp only [rng] at hx hy ⊢
    have h1 := Int.tmod_nonneg y hx.1
    have h2 : x.tmod y < y := by
      rw [Int.tmod_eq_emod_of_nonneg hx.1]
      exact Int.emod_lt_of_pos x (by omega)
    omega
  case and => exact ⟨.int ik, _, ⟨_, by simp [Go.binOp, Op.intBits], v1_int ik (rng_wrap ik _)⟩, ends_ret h⟩
  case or => exact ⟨.int ik, _, ⟨_, by simp [Go.binOp, Op.intBits], v1_int ik (rng_wrap ik _)⟩, ends_ret h⟩
  case xor => exact ⟨.int ik, _, ⟨_, by simp [Go.binOp, Op.intBits], v1_int ik (rng_wrap ik _)⟩, ends_ret h⟩
  case andNot => exact ⟨.int ik, _, ⟨_, by simp [Go.binOp, Op.intBits], v1_int ik (rng_wrap ik _)⟩, ends_ret h⟩
  case eql => exact ⟨.bool, _, ⟨.bool (decide (x = y)), by simp only [Go.binOp, ne_eq, not_true_eq_false, ↓reduceIte]; rfl, v1_bool _⟩, ends_ret h⟩
  case neq => exact ⟨.bool, _, ⟨.bool (!decide (x = y)), by simp only [Go.binOp, ne_eq, not_true_eq_false, ↓reduceIte]; rfl, v1_bool _⟩, ends_ret h⟩
  case lss => exact ⟨.bool, _, ⟨_, by simp [Go.binOp, Op.intCmp], v1_bool _⟩, ends_ret h⟩
  case leq => exact ⟨.bool, _, ⟨_, by simp [Go.binOp, Op.intCmp], v1_bool _⟩, ends_ret h⟩
  case gtr => exact ⟨.bool, _, ⟨_, by simp [Go.binOp, Op.intCmp], v1_bool _⟩, ends_ret h⟩
  case geq => exact ⟨.bool, _, ⟨_, by simp [Go.binOp, Op.intCmp], v1_bool _⟩, ends_ret h⟩
  all_goals exact h.elim

theorem lessL_ok : ∀ (x y : List UInt8), lessL (x.map fun b => (b.toNat : Int)) (y.map fun b => (b.toNat : Int)) = Op.bytesLess x y := by
  intro x
  induction x with
  | nil => intro y; cases y <;> rfl
  | cons a x ih =>
    intro y
    cases y with
    | nil => rfl
    | cons b y =>
      simp only [List.map_cons, lessL, Op.bytesLess, ih]
      have h1 : decide ((a.toNat : Int) < (b.toNat : Int)) = decide (a < b) := by
        apply decide_eq_decide.2
        rw [UInt8.lt_iff_toNat_lt]
        omega
      have h2 : decide ((a.toNat : Int) = (b.toNat : Int)) = (a == b) := by
        rw [show (a == b) = decide (a = b) from rfl]
        apply decide_eq_decide.2
        rw [← UInt8.toNat_inj]
        omega
      rw [h1, h2]

theorem map_nat_inj : ∀ {x y : List UInt8}, x.map (fun b => (b.toNat : Int)) = y.map (fun b => (b.toNat : Int)) ↔ x = y := by
  intro x
  induction x with
  | nil => intro y; cases y <;> simp
  | cons a x ih =>
    intro y
    cases y with
    | nil => simp
    | cons b y =>
      simp only [List.map_cons, List.cons.injEq, ih]
      have : (a.toNat : Int) = (b.toNat : Int) ↔ a = b := by rw [← UInt8.toNat_inj]; omega
      rw [this]

theorem bytesOf_inj {A B : ByteArray} : bytesOf A = bytesOf B ↔ A.toList = B.toList := by
  unfold bytesOf
  rw [map_nat_inj, ByteArray.toList_eq, ByteArray.toList_eq]

theorem bytesOf_eq {A B : ByteArray} : (A.toList == B.toList) = decide (bytesOf A = bytesOf B) := by
  rw [show (A.toList == B.toList) = decide (A.toList = B.toList) from by
    cases h : (A.toList == B.toList) with
    | true => simp [eq_of_beq h]
    | false => simp [ne_of_beq_false h]]
  exact decide_eq_decide.2 bytesOf_inj.symm

theorem bytesOf_less {A B : ByteArray} : Op.bytesLess A.toList B.toList = lessL (bytesOf A) (bytesOf B) := by
  unfold bytesOf
  rw [lessL_ok, ByteArray.toList_eq, ByteArray.toList_eq]

theorem bytesOf_append (A B : ByteArray) : bytesOf (A ++ B) = bytesOf A ++ bytesOf B := by
  unfold bytesOf
  rw [← List.map_append]
  congr 1

/-- What an operator on strings comes to. -/
theorem strOp_run {op : BinOp} {A B : ByteArray} {z : List Wr} (ht : TypeId) {k : AV1 → Prog (List Wr)} (hk : ∀ v, k v = .ret [Wr.s d v]) (h : (strOp op (bytesOf A) (bytesOf B) k).ends σ z) :
    ∃ kk y', (∃ v, (Go.binOp op ht (.string A) (.string B)).run P w = .ok v w ∧ AV1ok cx σ α F w (v1 kk y') v) ∧ z = [Wr.s d (v1 kk y')] := by
  unfold strOp at h
  cases op <;> simp only [hk] at h
  case add =>
    obtain ⟨h0, h⟩ := h
    rw [bytesOf_len, bytesOf_len] at h0
    refine ⟨.str, bytesOf A ++ bytesOf B, ⟨.string (A ++ B), ?_, ?_⟩, ends_ret h⟩
    · have : ¬ (((A.size + B.size : Nat) : Int) > IntKind.i64.max) := by
        simp only [IntKind.max, IntKind.signed, IntKind.bits]
        simp
        omega
      simp only [Go.binOp, Op.stringOp]
      rw [if_neg this]
      rfl
    · rw [← bytesOf_append]; exact mk_str
  case eql => exact ⟨.bool, _, ⟨.bool (decide (bytesOf A = bytesOf B)), by simp only [Go.binOp, Op.stringOp]; rw [bytesOf_eq]; rfl, v1_bool _⟩, ends_ret h⟩
  case neq => exact ⟨.bool, _, ⟨.bool (!decide (bytesOf A = bytesOf B)), by simp only [Go.binOp, Op.stringOp]; rw [bytesOf_eq]; rfl, v1_bool _⟩, ends_ret h⟩
  case lss => exact ⟨.bool, _, ⟨.bool (lessL (bytesOf A) (bytesOf B)), by simp only [Go.binOp, Op.stringOp]; rw [bytesOf_less]; rfl, v1_bool _⟩, ends_ret h⟩
  case leq => exact ⟨.bool, _, ⟨.bool (lessL (bytesOf A) (bytesOf B) || decide (bytesOf A = bytesOf B)), by simp only [Go.binOp, Op.stringOp]; rw [bytesOf_less, bytesOf_eq]; rfl, v1_bool _⟩, ends_ret h⟩
  case gtr => exact ⟨.bool, _, ⟨.bool (!(lessL (bytesOf A) (bytesOf B) || decide (bytesOf A = bytesOf B))), by simp only [Go.binOp, Op.stringOp]; rw [bytesOf_less, bytesOf_eq]; rfl, v1_bool _⟩, ends_ret h⟩
  case geq => exact ⟨.bool, _, ⟨.bool (!lessL (bytesOf A) (bytesOf B)), by simp only [Go.binOp, Op.stringOp]; rw [bytesOf_less]; rfl, v1_bool _⟩, ends_ret h⟩
  all_goals exact h.elim

theorem did_unOp (H : Rel cx σ α F a w) (hd : o.dst = some d) (hdn : d < cx.nt) {t : TypeId} {x : Operand} {op : UnOp} (ho : o.op = .unOp op t x)
    (h : (evalO x fun a => unP op a fun v => (.ret [Wr.s d v] : Prog (List Wr))).ends σ ws) : Did P cx o a w (appAll ws σ) := by
  obtain ⟨v, h1, h2, h⟩ := evalO_inv H h
  unfold unP at h
  split at h
  · obtain ⟨e1, e2⟩ := val_int h1
    rw [ends_ret h]
    exact did_put H hd hdn (by simp [execOp, ho, e1, Op.unary, Op.intArith]) (v1_int _ (rng_wrap _ _)) v1_W
  · obtain ⟨e1, e2⟩ := val_int h1
    rw [ends_ret h]
    exact did_put H hd hdn (by simp [execOp, ho, e1, Op.unary, Op.intBits]) (v1_int _ (rng_wrap _ _)) v1_W
  · have e1 := val_bool h1
    rw [ends_ret h]
    exact did_put H hd hdn (by simp [execOp, ho, e1, Op.unary]) (v1_bool _) v1_W
  · exact h.elim

end
end Go.Proofs.YtcelknaomealbaaDoor.Ow

/- The framework, part 22: two operands. Own work of this seat. -/
namespace Go.Proofs.YtcelknaomealbaaDoor.Ow
open Go

variable [Fr]

section
variable {P : Program} {T : Tab} {cx : Cx} {σ : St} {α : Asg} {F : List Nat} {a : Act} {w : World} {o : Oper} {d : Nat} {ws : List Wr}

theorem run_eqGuard_val {op : BinOp} {t : TypeId} {x y : Operand} {u v : Value} (h : (∀ c, u ≠ .agg c) ∧ u ≠ .nilIface) : (eqGuard op t x y u v).run P w = .ok () w := by
  unfold eqGuard
  cases op <;> simp only [Bool.not_true, Bool.not_false, Bool.false_eq_true, ↓reduceIte] <;> first | rfl | skip
  all_goals (cases u <;> first | rfl | exact absurd rfl (h.1 _) | exact absurd rfl h.2)

theorem maxDepth_pos : ∃ n, Op.maxDepth = n + 1 := ⟨Op.maxDepth - 1, by unfold Op.maxDepth; rfl⟩

theorem run_equal_bool {t : TypeId} (h : P.underlying t = some .bool) (x y : Bool) : (Op.equal t (.bool x) (.bool y)).run P w = .ok (x == y) w := by
  obtain ⟨n, e⟩ := maxDepth_pos
  unfold Op.equal
  rw [e]
  simp [Op.equalIn, run_underlying h]

theorem run_equal_ptr {t e : TypeId} (h : P.underlying t = some (.pointer e)) {u v : Option Addr} (hn : u = none ∨ v = none) : (Op.equal t (.pointer u) (.pointer v)).run P w = .ok (u.isNone && v.isNone) w := by
  obtain ⟨n, e⟩ := maxDepth_pos
  unfold Op.equal
  rw [e]
  rcases hn with rfl | rfl
  · simp [Op.equalIn, run_underlying h]
  · cases u <;> simp [Op.equalIn, run_underlying h]

theorem nilEq_run {x y : AV} {u v : Value} {b : Bool} (hx : AVok cx σ α F w x u) (hy : AVok cx σ α F w y v) (h : nilEq x y = some b) : ∃ p q, u = .pointer p ∧ v = .pointer q ∧ (p = none ∨ q = none) ∧ (p.isNone && q.isNone) = b := by
  unfold nilEq at h
  split at h <;> simp only [Option.some.injEq, reduceCtorEq] at h <;> subst h
  · exact ⟨none, none, hx, hy, .inl rfl, rfl⟩
  · obtain ⟨b, q, e⟩ := hy.1; exact ⟨none, _, hx, e, .inl rfl, rfl⟩
  · obtain ⟨b, q, e⟩ := hx.1; exact ⟨_, none, e, hy, .inr rfl, rfl⟩
  · obtain ⟨b, q, e⟩ := hy.1; exact ⟨none, _, hx, e, .inl rfl, rfl⟩
  · obtain ⟨b, q, e⟩ := hx.1; exact ⟨_, none, e, hy, .inr rfl, rfl⟩

/-- Structs are compared as flatEq does. -/
def StEq (P : Program) (T : Tab) : Prop := ∀ (t : TypeId) (c : K) (x y : El c) (u v : Array Value) (w : World) (hp1 hp2 : Heap) (ok1 ok2 : Nat → Prop), T.ty t = some (.st c) → T.eq t = true → c.flat = true →
  Vw hp1 ok1 c x u.toList → Vw hp2 ok2 c y v.toList → (Op.equal t (.agg u) (.agg v)).run P w = .ok (flatEq c x y) w ∧ ∀ x y op, (eqGuard op t x y (.agg u) (.agg v)).run P w = .ok () w

theorem binP_cases {A : Type} {z : A} {t : TypeId} {op : BinOp} {u v : AV} {k : AV1 → Prog A} (h : (binP T t op u v k).ends σ z) :
    (∃ ik x T1 jk y T2, u = .val (.int ik) x T1 ∧ v = .val (.int jk) y T2) ∨ (∃ x T1 y T2, u = .val .bool x T1 ∧ v = .val .bool y T2) ∨ (∃ x T1 y T2, u = .val .str x T1 ∧ v = .val .str y T2) ∨
    (∃ c x T1 e y T2, u = .val (.st c) x T1 ∧ v = .val (.st e) y T2) ∨ (T.ptr t = true ∧ ∃ b, nilEq u v = some b ∧ ((op = .eql ∧ (k (v1 .bool b)).ends σ z) ∨ (op = .neq ∧ (k (v1 .bool (!b))).ends σ z))) := by
  unfold binP at h
  split at h
  · exact .inl ⟨_, _, _, _, _, _, rfl, rfl⟩
  · exact .inr (.inl ⟨_, _, _, _, rfl, rfl⟩)
  · exact .inr (.inr (.inl ⟨_, _, _, _, rfl, rfl⟩))
  · exact .inr (.inr (.inr (.inl ⟨_, _, _, _, _, _, rfl, rfl⟩)))
  · rcases cond_ends h with ⟨hp, h5⟩ | ⟨_, h5⟩
    · cases hn : nilEq u v with
      | none => rw [hn] at h5; exact h5.elim
      | some b =>
        rw [hn] at h5
        cases op with
        | eql => exact .inr (.inr (.inr (.inr ⟨hp, b, rfl, .inl ⟨rfl, h5⟩⟩)))
        | neq => exact .inr (.inr (.inr (.inr ⟨hp, b, rfl, .inr ⟨rfl, h5⟩⟩)))
        | _ => exact h5.elim
    · exact h5.elim

theorem run_equal_nil {t e : TypeId} (h : P.underlying t = some (.slice e)) (p : Option Addr) (n c : Nat) : (Go.binOp .eql t (.slice p n c) (.slice none 0 0)).run P w = .ok (.bool p.isNone) w := by
  obtain ⟨m, em⟩ := maxDepth_pos
  have : (Op.equal t (.slice p n c) (.slice none 0 0)).run P w = .ok p.isNone w := by
    unfold Op.equal
    rw [em]
    cases p <;> simp [Op.equalIn, run_underlying h]
  simp only [Go.binOp]
  simp [this, Result.andThen]

theorem did_binOp0 (hT : TabOk P T) (hSt : StEq P T) (H : Rel cx σ α F a w) (hd : o.dst = some d) (hdn : d < cx.nt) {t t2 : TypeId} {x y : Operand} {op : BinOp} (ho : o.op = .binOp op t x y t2)
    (h : (evalO x fun a => evalO y fun b => binP T t op a b fun v => (.ret [Wr.s d v] : Prog (List Wr))).ends σ ws) : Did P cx o a w (appAll ws σ) := by
  obtain ⟨u, h1, hu1, h5⟩ := evalO_inv H h
  obtain ⟨v, h3, hu3, h6⟩ := evalO_inv H h5
  clear h h5
  have h := h6
  clear h6
  -- what is run
  have hrun : ∀ {z : Value}, ((∀ c, a.eval x ≠ .agg c) ∧ a.eval x ≠ .nilIface) → (Go.binOp op t (a.eval x) (a.eval y)).run P w = .ok z w → (execOp a.eval o).run P w = .ok (.value z) w := by
    intro z hz h
    have hg := run_eqGuard_val (P := P) (w := w) (op := op) (t := t) (x := x) (y := y) (v := a.eval y) hz
    simp only [execOp, ho, Sem.run_bind, hg, h, Result.andThen_ok, Sem.run_pure]
  rcases binP_cases h with ⟨ik, x1, T1, jk, y1, T2, rfl, rfl⟩ | ⟨x1, T1, y1, T2, rfl, rfl⟩ | ⟨x1, T1, y1, T2, rfl, rfl⟩ | ⟨c, x1, T1, dd, y1, T2, rfl, rfl⟩ | ⟨hp, b, hne, hop⟩
  · obtain ⟨e1, r1⟩ := val_int h1
    obtain ⟨e2, r2⟩ := val_int h3
    have hag : (∀ c, a.eval x ≠ .agg c) ∧ a.eval x ≠ .nilIface := by rw [e1]; simp
    have hplain : (bif ikBeq ik jk then intOp op ik x1 y1 fun v => (.ret [Wr.s d v] : Prog (List Wr)) else .fail).ends σ ws → Did P cx o a w (appAll ws σ) := by
      intro h
      rcases cond_ends h with ⟨hik, h⟩ | ⟨_, h⟩
      · have := ikBeq_eq hik
        subst this
        obtain ⟨kk, y', ⟨z, g1, g2⟩, g3⟩ := intOp_run (P := P) (cx := cx) (σ := σ) (α := α) (F := F) (w := w) (d := d) r1 r2 t (fun v => rfl) h
        rw [g3]
        exact did_put H hd hdn (hrun hag (by rw [e1, e2]; exact g1)) g2 v1_W
      · exact h.elim
    cases op with
    | shl =>
      obtain ⟨h0, h⟩ := h
      rw [ends_ret h]
      refine did_put H hd hdn (hrun hag (z := .int ik (ik.wrap (x1 * 2 ^ min y1.toNat ik.bits))) ?_) (v1_int ik (rng_wrap _ _)) v1_W
      rw [e1, e2]
      simp only [Go.binOp, Op.shift]
      rw [if_neg (Int.not_lt.2 h0)]
      rfl
    | shr =>
      obtain ⟨h0, h⟩ := h
      rw [ends_ret h]
      refine did_put H hd hdn (hrun hag (z := .int ik (x1.fdiv (2 ^ min y1.toNat ik.bits))) ?_) (v1_int ik ?_) v1_W
      · rw [e1, e2]
        simp only [Go.binOp, Op.shift]
        rw [if_neg (Int.not_lt.2 h0)]
        rfl
      · cases ik <;> simp only [rng] at r1 ⊢
        have hp : (0 : Int) < 2 ^ min y1.toNat IntKind.u8.bits := Int.pow_pos (by omega)
        have g1 : 0 ≤ x1.fdiv (2 ^ min y1.toNat IntKind.u8.bits) := Int.fdiv_nonneg r1.1 (Int.le_of_lt hp)
        have g2 : x1.fdiv (2 ^ min y1.toNat IntKind.u8.bits) ≤ x1 := by
          rw [Int.fdiv_eq_ediv_of_nonneg _ (Int.le_of_lt hp)]
          exact Int.ediv_le_self _ r1.1
        omega
    | _ => exact hplain h
  · have e1 := val_bool h1
    have e2 := val_bool h3
    have hag : (∀ c, a.eval x ≠ .agg c) ∧ a.eval x ≠ .nilIface := by rw [e1]; simp
    have hub : T.ty t = some .bool → P.underlying t = some .bool := fun hty => by
      have := hT.ty t .bool hty
      unfold TyOk TyOk2 at this
      exact this.1
    cases hty : T.ty t with
    | none => simp only [binP, hty] at h; exact h.elim
    | some k0 =>
      cases k0 with
      | bool =>
        have hu := hub hty
        simp only [binP, hty] at h
        cases op with
        | eql =>
          rw [ends_ret h]
          refine did_put H hd hdn (hrun hag (z := .bool (x1 == y1)) ?_) (v1_bool _) v1_W
          rw [e1, e2]
          simp only [Go.binOp, Sem.run_bind, run_equal_bool hu, Result.andThen_ok, Sem.run_pure]
        | neq =>
          rw [ends_ret h]
          refine did_put H hd hdn (hrun hag (z := .bool (!(x1 == y1))) ?_) (v1_bool _) v1_W
          rw [e1, e2]
          simp only [Go.binOp, Sem.run_bind, run_equal_bool hu, Result.andThen_ok, Sem.run_pure]
        | _ => exact h.elim
      | _ => simp only [binP, hty] at h; exact h.elim
  · obtain ⟨A, e1, f1⟩ := val_str h1
    obtain ⟨B, e2, f2⟩ := val_str h3
    subst f1
    subst f2
    have hag : (∀ c, a.eval x ≠ .agg c) ∧ a.eval x ≠ .nilIface := by rw [e1]; simp
    obtain ⟨kk, y', ⟨z, g1, g2⟩, g3⟩ := strOp_run (P := P) (cx := cx) (σ := σ) (α := α) (F := F) (w := w) (d := d) t (fun v => rfl) h
    rw [g3]
    exact did_put H hd hdn (hrun hag (by rw [e1, e2]; exact g1)) g2 v1_W
  · simp only [binP] at h
    cases hck : castK (.st dd) (.st c) y1 with
    | none => rw [hck] at h; exact h.elim
    | some y2 =>
      rw [hck] at h
      obtain ⟨ek, ey⟩ := castK_some hck
      simp only [K.st.injEq] at ek
      subst ek
      simp only at ey
      subst ey
      simp only at h
      rcases cond_ends h with ⟨hc, h5⟩ | ⟨_, h5⟩
      · simp only [Bool.and_eq_true] at hc
        have hty : T.ty t = some (.st dd) := by
          have h2 := hc.2
          cases ht : T.ty t with
          | none => rw [ht] at h2; simp at h2
          | some kk => rw [ht] at h2; rw [K.eq_of_beq h2]
        obtain ⟨cs1, e1, V1⟩ := h1 (.inl hc.1.1)
        obtain ⟨cs2, e2, V2⟩ := h3 (.inl hc.1.1)
        have e1' : a.eval x = .agg cs1.toArray := e1
        have e2' : a.eval y = .agg cs2.toArray := e2
        obtain ⟨r1, r2⟩ := hSt t dd x1 y2 cs1.toArray cs2.toArray w _ _ _ _ hty hc.1.2 hc.1.1 (show Vw _ _ dd x1 cs1 from V1) (show Vw _ _ dd y2 cs2 from V2)
        have hrun2 : ∀ {z : Value}, (Go.binOp op t (a.eval x) (a.eval y)).run P w = .ok z w → (execOp a.eval o).run P w = .ok (.value z) w := by
          intro z h
          have hg := r2 x y op
          rw [← e1', ← e2'] at hg
          simp only [execOp, ho, Sem.run_bind, hg, h, Result.andThen_ok, Sem.run_pure]
        cases op with
        | eql =>
          rw [ends_ret h5]
          refine did_put H hd hdn (hrun2 (z := .bool (flatEq dd x1 y2)) ?_) (v1_bool _) v1_W
          rw [e1', e2']
          simp only [Go.binOp, Sem.run_bind, r1, Result.andThen_ok, Sem.run_pure]
        | neq =>
          rw [ends_ret h5]
          refine did_put H hd hdn (hrun2 (z := .bool (!flatEq dd x1 y2)) ?_) (v1_bool _) v1_W
          rw [e1', e2']
          simp only [Go.binOp, Sem.run_bind, r1, Result.andThen_ok, Sem.run_pure]
        | _ => exact h5.elim
      · exact h5.elim
  · obtain ⟨e, hu⟩ := hT.ptr t hp
    obtain ⟨p, q, e1, e2, hn, hb⟩ := nilEq_run h1 h3 hne
    have hag : (∀ c, a.eval x ≠ .agg c) ∧ a.eval x ≠ .nilIface := by rw [e1]; simp
    rcases hop with ⟨rfl, h5⟩ | ⟨rfl, h5⟩
    · rw [ends_ret h5]
      refine did_put H hd hdn (hrun hag (z := .bool b) ?_) (v1_bool _) v1_W
      rw [e1, e2]
      simp only [Go.binOp, Sem.run_bind, run_equal_ptr hu hn, hb, Result.andThen_ok, Sem.run_pure]
    · rw [ends_ret h5]
      refine did_put H hd hdn (hrun hag (z := .bool (!b)) ?_) (v1_bool _) v1_W
      rw [e1, e2]
      simp only [Go.binOp, Sem.run_bind, run_equal_ptr hu hn, hb, Result.andThen_ok, Sem.run_pure]

theorem did_binOp (hT : TabOk P T) (hSt : StEq P T) (H : Rel cx σ α F a w) (hd : o.dst = some d) (hdn : d < cx.nt) {t t2 : TypeId} {x y : Operand} {op : BinOp} (ho : o.op = .binOp op t x y t2)
    (h : (binOpP T t op x y fun v => (.ret [Wr.s d v] : Prog (List Wr))).ends σ ws) : Did P cx o a w (appAll ws σ) := by
  unfold binOpP at h
  rcases cond_ends h with ⟨hc, h⟩ | ⟨_, h⟩
  · simp only [Bool.and_eq_true] at hc
    have ey : y = .const (.slice none 0 0) := by
      have := hc.1
      unfold isNilC at this
      split at this
      · rfl
      · simp at this
    have eop : op = .eql := by
      have := hc.2
      unfold isEql at this
      split at this
      · rfl
      · simp at this
    subst ey eop
    obtain ⟨u, h1, hu1, h5⟩ := evalO_inv H h
    unfold nilP at h5
    split at h5
    · rename_i e kk hty
      obtain ⟨kk', z, Tg, cs, g1, g2, g3, h6⟩ := asVal_inv H h1 hu1 h5
      cases kk' with
      | sl e' kk' =>
        simp only at h6
        rw [ends_ret h6]
        obtain ⟨p, n, c, rfl, g5, g6, g7⟩ := g2
        have ev : a.eval x = .slice p n c := by
          have := g1.cells
          obtain ⟨g8, g9⟩ := g1
          first
            | exact (List.cons.inj g8.symm).1
            | (simp only [List.cons.injEq, and_true] at g8; exact g8.symm)
            | exact g8
        have hu := (TyOk.sl (hT.ty t _ hty)).1
        have hag : (∀ c, a.eval x ≠ .agg c) ∧ a.eval x ≠ .nilIface := by rw [ev]; simp
        have hg := run_eqGuard_val (P := P) (w := w) (op := .eql) (t := t) (x := x) (y := .const (.slice none 0 0)) (v := a.eval (.const (.slice none 0 0))) hag
        have hr := run_equal_nil (w := w) hu p n c
        refine did_put (v := .bool p.isNone) H hd hdn ?_ (show AVok cx σ α F w (.nilq _) _ from ⟨_, rfl, fun hp => ?_⟩) trivial
        · have e2 : a.eval (.const (.slice none 0 0)) = .slice none 0 0 := rfl
          have hr' : (Go.binOp .eql t (a.eval x) (a.eval (.const (.slice none 0 0)))).run P w = .ok (.bool p.isNone) w := by rw [ev, e2]; exact hr
          simp only [execOp, ho, Sem.run_bind, hg, hr', Result.andThen_ok, Sem.run_pure]
        · cases p with
          | some q => simp at hp
          | none =>
            have hn : n = 0 := by
              refine Classical.byContradiction fun hne => ?_
              obtain ⟨b, o, e1, _⟩ := g7 (by omega)
              simp at e1
            have g5' : n = @List.length (El kk') z := g5
            rw [List.isEmpty_iff_length_eq_zero, ← g5', hn]
      | _ => exact h6.elim
    · exact h5.elim
  · exact did_binOp0 hT hSt H hd hdn ho h

end
end Go.Proofs.YtcelknaomealbaaDoor.Ow

/- The framework, part 23: lengths, function values, numbers turned. Own work of this seat. -/
namespace Go.Proofs.YtcelknaomealbaaDoor.Ow
open Go

variable [Fr]

section
variable {P : Program} {T : Tab} {cx : Cx} {σ : St} {α : Asg} {F : List Nat} {a : Act} {w : World} {o : Oper} {d : Nat} {ws : List Wr}

theorem run_call_builtin {c : Call} {b : Builtin} (ho : o.op = .call c) (hb : c.callee = .builtin b) : ∃ cs, (execOp a.eval o).run P w = (builtin b c.argTypes o.type cs (c.args.map a.eval)).run P w :=
  ⟨_, by simp only [execOp, ho, resolve, hb, Sem.run_bind, Sem.run_pure, Result.andThen_ok, invoke]; rfl⟩

theorem TyOk.str {t : TypeId} (h : TyOk P T t .str) : P.underlying t = some .string := by
  unfold TyOk TyOk2 at h
  exact h.1

theorem ty_arg (hT : TabOk P T) {c : Call} {i : Nat} {k : K} (h : (c.argTypes[i]?).bind T.ty = some k) : ∃ t, c.argTypes[i]? = some t ∧ TyOk P T t k := by
  cases ht : c.argTypes[i]? with
  | none => rw [ht] at h; simp at h
  | some t => rw [ht] at h; exact ⟨t, rfl, hT.ty t k h⟩

theorem run_len {ats : Array TypeId} {ty t : TypeId} {v : Value} {n : Nat} {args : Array Value} (ha : ats[0]? = some t) (hv : args[0]? = some v) (h : (P.underlying t = some .string ∧ ∃ B : ByteArray, v = .string B ∧ B.size = n) ∨ ((∃ e, P.underlying t = some (.slice e)) ∧ ∃ b c, v = .slice b n c)) :
    (Builtin.len_ ats ty args).run P w = .ok (.int .i64 (n : Int)) w := by
  unfold Builtin.len_
  simp only [ha, hv]
  rcases h with ⟨hu, B, rfl, rfl⟩ | ⟨⟨e, hu⟩, b, c, rfl⟩
  · simp [run_underlying hu, goInt]
  · simp [run_underlying hu, goInt]

theorem did_len (hT : TabOk P T) (H : Rel cx σ α F a w) (hd : o.dst = some d) (hdn : d < cx.nt) {c : Call} (ho : o.op = .call c) (hb : c.callee = .builtin .len)
    (h : (evalAll c.args.toList fun
      | [.nils] => match (c.argTypes[0]?).bind T.ty with
        | some (.sl _ _) => (.ret [Wr.s d (.one (.val (.int .i64) 0 []))] : Prog (List Wr))
        | _ => .fail
      | [.val .str s _] => match (c.argTypes[0]?).bind T.ty with
        | some .str => .ret [Wr.s d (.one (.val (.int .i64) ((show List Int from s).length : Int) []))]
        | _ => .fail
      | [a] => match (c.argTypes[0]?).bind T.ty with
        | some (.sl _ _) => asVal a fun kk x _ => match kk, x with
          | .sl _ kk, xs => .ret [Wr.s d (.one (.val (.int .i64) ((show List (El kk) from xs).length : Int) []))]
          | _, _ => .fail
        | _ => .fail
      | _ => .fail).ends σ ws) : Did P cx o a w (appAll ws σ) := by
  obtain ⟨vs, h1, h2, h⟩ := evalAll_inv H h
  have hfin : ∀ {t : TypeId} {n : Nat} {v : Value} {x : Operand}, c.args.toList = [x] → c.argTypes[0]? = some t → a.eval x = v → ((P.underlying t = some .string ∧ ∃ B : ByteArray, v = .string B ∧ B.size = n) ∨ ((∃ e, P.underlying t = some (.slice e)) ∧ ∃ b c, v = .slice b n c)) →
      Did P cx o a w (appAll [Wr.s d (.one (.val (.int .i64) (n : Int) []))] σ) := by
    intro t n v x hx ht hv hs
    have ha : (c.args.map a.eval)[0]? = some v := by
      rw [← Array.getElem?_toList, Array.toList_map, hx]
      simp [hv]
    refine did_put H hd hdn ?_ (v1_int .i64 (n := (n : Int)) trivial) v1_W
    obtain ⟨cc, hcc⟩ := run_call_builtin (P := P) (a := a) (w := w) ho hb
    rw [hcc]
    simp only [builtin, Sem.run_bind, run_len (ty := o.type) (w := w) ht ha hs, Result.andThen_ok, Sem.run_pure]
  -- one argument
  have hone : ∀ {u : AV}, vs = [u] → ∃ x, c.args.toList = [x] ∧ AVok cx σ α F w u (a.eval x) := by
    intro u e
    subst e
    cases hl : c.args.toList with
    | nil => rw [hl] at h1; exact h1.elim
    | cons x l =>
      rw [hl] at h1
      cases l with
      | nil => exact ⟨x, rfl, h1.1⟩
      | cons y l => exact h1.2.elim
  split at h
  · obtain ⟨x, hx, hu⟩ := hone rfl
    split at h
    · rename_i hty
      obtain ⟨t, ht, hk⟩ := ty_arg hT hty
      rw [ends_ret h]
      obtain ⟨b, e⟩ := hu
      exact hfin (n := 0) hx ht rfl (.inr ⟨⟨_, hk.sl.1⟩, b, 0, e⟩)
    · exact h.elim
  · obtain ⟨x, hx, hu⟩ := hone rfl
    split at h
    · rename_i hty
      obtain ⟨t, ht, hk⟩ := ty_arg hT hty
      rw [ends_ret h]
      obtain ⟨B, e1, e2⟩ := val_str hu
      subst e2
      have e : (show List Int from bytesOf B).length = B.size := bytesOf_len B
      rw [e]
      exact hfin (n := B.size) hx ht rfl (.inl ⟨hk.str, B, e1, rfl⟩)
    · exact h.elim
  · obtain ⟨x, hx, hu⟩ := hone rfl
    split at h
    · rename_i hty
      obtain ⟨t, ht, hk⟩ := ty_arg hT hty
      obtain ⟨kk, y, Tg, cs, g1, g2, g3, g4⟩ := asVal_inv H hu (h2 _ (by simp)) h
      cases kk with
      | sl e kk =>
        rw [ends_ret g4]
        obtain ⟨b, n, cc, f1, f2, f3, f4, f5⟩ := sl_val g1 g2
        have e : ((@List.length (El kk) y : Nat) : Int) = (n : Int) := by rw [f3]
        have e' : (show List (El kk) from y).length = n := f3.symm
        rw [e']
        exact hfin (n := n) hx ht rfl (.inr ⟨⟨_, hk.sl.1⟩, b, cc, f1⟩)
      | _ => exact g4.elim
    · exact h.elim
  · exact h.elim

theorem base_view (H : Rel cx σ α F a w) {r : Nat} {R : Root} (hr : liveR σ r R) {b : Nat} (hb : b ∈ blk α R r) (hnb : ¬ isBase cx b) : okT cx σ α F w ((r, lenN R.w) :: R.tags) b := by
  have hm := (H.roots r R hr).mine b hb
  refine ⟨hm.1, H.fdis r R hr b hb, hnb, fun q Q hq hbq => ?_, fun h0 => ?_⟩
  · by_cases e : q = r
    · subst e; exact ⟨lenN R.w, by simp⟩
    · exact absurd hb (H.dis q Q r R hq hr e b hbq)
  · rcases hm.2 with h | ⟨j, pi, h1, h2⟩
    · omega
    · exact .inr ⟨j, pi, h1, h2⟩

theorem capL_inv {A : Type} {z : A} (H : Rel cx σ α F a w) : ∀ {l : List AV} {vs : List Value} {k : List (TypeId × Dat × List Tag) → Prog A}, listOk cx σ α F w l vs → (∀ v ∈ l, avW σ v) → (capL l k).ends σ z →
    ∃ cs, capsOk cx σ α F w cs vs ∧ (∀ c ∈ cs, tagsW σ c.2.2) ∧ (k cs).ends σ z := by
  intro l
  induction l with
  | nil =>
    intro vs k h1 _ h
    cases vs with
    | nil => exact ⟨[], trivial, by simp, h⟩
    | cons v vs => exact h1.elim
  | cons x l ih =>
    intro vs k h1 h2 h
    cases vs with
    | nil => exact h1.elim
    | cons v vs =>
      simp only [capL] at h
      rcases addrOf_inv H h1.1 (h2 x (by simp)) h with ⟨r, R, p, dd, cs, b, q, hr, hv, hg, hpin, hown, hn, e, h5⟩ | ⟨bt, dd, Tg, b, q, cs, hw, e, hcs, hV, hok, hb, h5⟩
      · rcases cond_ends h5 with ⟨_, h6⟩ | ⟨hne, h6⟩
        · exact h6.elim
        · obtain ⟨cs2, g1, g2, g3⟩ := ih h1.2 (fun v hv => h2 v (by simp [hv])) h6
          obtain ⟨hC, ⟨fo1, hO, hf⟩, hbb, ⟨arr, te, lo, hi, m1, m2, m3, m4⟩, _⟩ := placeMem H hr hv hg hpin hown hn
          have hbase : lastTy R p = te ∧ ¬ isBase cx b := by
            rcases m4 with m4 | ⟨_, m4⟩
            · exact m4
            · rw [m4] at hne; simp at hne
          refine ⟨(lastTy R p, dd, (r, lenN R.w) :: R.tags) :: cs2, ⟨⟨⟨b, q, e⟩, fun _ => ⟨b, q, cs, e, hC, ?_, (base_view H hr hbb hbase.2).q, .inr ⟨.inl (by rw [hbase.1]; unfold elTy; rw [m1]), hbase.2⟩⟩⟩, g1⟩, ?_, g3⟩
          · exact Ow_view _ (fun b hb => okT_tags hb (fun t ht => by simp [ht])) (fun b hb => base_view H hr (List.mem_append_right _ (hf b hb)) (fo_notBase H hr (hf b hb))) hO
          · intro c hc
            rcases List.mem_cons.1 hc with h | h
            · subst h
              intro t ht
              rcases List.mem_cons.1 ht with h | h
              · subst h; exact .inr ⟨R, hr.1, .inr (Nat.le_refl _)⟩
              · exact (H.wroots r R hr.1).1 t h
            · exact g2 c h
      · obtain ⟨cs2, g1, g2, g3⟩ := ih h1.2 (fun v hv => h2 v (by simp [hv])) h5
        refine ⟨(bt, dd, Tg) :: cs2, ⟨⟨⟨b, q, e⟩, fun _ => ⟨b, q, cs, e, hcs, hV, hok, hb⟩⟩, g1⟩, ?_, g3⟩
        intro c hc
        rcases List.mem_cons.1 hc with h | h
        · subst h; exact hw
        · exact g2 c h

theorem did_makeFunc (H : Rel cx σ α F a w) (hd : o.dst = some d) (hdn : d < cx.nt) {f : Nat} {first caps : Array Operand} (ho : o.op = .makeFunc (.func f) first caps)
    (h : (bif first.isEmpty then evalAll caps.toList fun l => capL l fun cs => .ret [Wr.s d (.one (.fn f cs))] else (.fail : Prog (List Wr))).ends σ ws) : Did P cx o a w (appAll ws σ) := by
  rcases cond_ends h with ⟨he, h5⟩ | ⟨_, h5⟩
  · obtain ⟨vs, h1, h2, h6⟩ := evalAll_inv H h5
    obtain ⟨cs, g1, g2, g3⟩ := capL_inv H h1 h2 h6
    rw [ends_ret g3]
    have hf : first = #[] := by simpa using he
    refine did_put (x := .one (.fn f cs)) (v := .func (.func f) #[] (caps.map a.eval)) H hd hdn ?_ ⟨(caps.map a.eval).toList, rfl, by rw [Array.toList_map]; exact g1⟩ g2
    simp [execOp, ho, Instr.makeFunc, hf]
  · exact h5.elim

end
end Go.Proofs.YtcelknaomealbaaDoor.Ow

/- The framework, part 24: parts of slices and strings. Own work of this seat. -/
namespace Go.Proofs.YtcelknaomealbaaDoor.Ow
open Go

variable [Fr]

section
variable {P : Program} {T : Tab} {cx : Cx} {σ : St} {α : Asg} {F : List Nat} {a : Act} {w : World} {o : Oper} {d : Nat} {ws : List Wr}

theorem optI_inv {A : Type} {z : A} (H : Rel cx σ α F a w) {x : Option Operand} {k : Option Int → Prog A} (h : (optI x k).ends σ z) :
    ∃ i : Option Int, (k i).ends σ z ∧ (i = none ↔ x = none) ∧ ∀ j, i = some j → ∃ ik, x.map a.eval = some (.int ik j) := by
  cases x with
  | none => exact ⟨none, h, by simp, fun j hj => by simp at hj⟩
  | some y =>
    simp only [optI] at h
    obtain ⟨v, h1, _, h⟩ := evalO_inv H h
    obtain ⟨ik, n, e, _, h⟩ := asInt_inv h1 h
    exact ⟨some n, h, by simp, fun j hj => by simp only [Option.some.injEq] at hj; subst hj; exact ⟨ik, by simp [e]⟩⟩

theorem run_bounds {isS : Bool} {len cap : Nat} {lo hi : Option Int} {l h : Option Value} (hlc : len ≤ cap) (hl : lo = none → l = none) (hl' : ∀ j, lo = some j → ∃ ik, l = some (.int ik j)) (hh : hi = none → h = none) (hh' : ∀ j, hi = some j → ∃ ik, h = some (.int ik j))
    (h1 : ∀ j, hi = some j → 0 ≤ j ∧ j ≤ (len : Int)) (h2 : ∀ j, lo = some j → 0 ≤ j ∧ j ≤ hi.getD (len : Int)) :
    (Instr.sliceBounds isS len cap l h none).run P w = .ok ((lo.getD 0).toNat, (hi.getD (len : Int)).toNat, cap) w := by
  unfold Instr.sliceBounds
  cases hi with
  | none =>
    rw [hh rfl]
    cases lo with
    | none => rw [hl rfl]; simp
    | some j =>
      obtain ⟨ik, e⟩ := hl' j rfl
      obtain ⟨g1, g2⟩ := h2 j rfl
      simp only [Option.getD_none] at g2
      rw [e]
      simp [Instr.sliceBound, asIntOf, g1, g2]
  | some i =>
    obtain ⟨ik, e⟩ := hh' i rfl
    obtain ⟨f1, f2⟩ := h1 i rfl
    have f3 : i ≤ (cap : Int) := by omega
    rw [e]
    cases lo with
    | none => rw [hl rfl]; simp [Instr.sliceBound, asIntOf, f1, f3]
    | some j =>
      obtain ⟨ik2, e2⟩ := hl' j rfl
      obtain ⟨g1, g2⟩ := h2 j rfl
      simp only [Option.getD_some] at g2
      have g3 : j ≤ max i 0 := by omega
      rw [e2]
      simp [Instr.sliceBound, asIntOf, f1, f3, g1]
      omega

theorem Vw_part {h : Heap} {ok : Nat → Prop} {e : TypeId} {k : K} {xs : List (El k)} {b : Option Addr} {n c l m : Nat} (H : Vw h ok (.sl e k) xs [.slice b n c]) (hl : l ≤ m) (hm : m ≤ n) :
    Vw h ok (.sl e k) (show List (El k) from (xs.take m).drop l) [.slice (if c = l then b else b.map (·.add (l * k.size))) (m - l) (c - l)] := by
  obtain ⟨b', n', c', e1, e2, e3, e4⟩ := H
  simp only [List.cons.injEq, Value.slice.injEq, and_true] at e1
  obtain ⟨rfl, rfl, rfl⟩ := e1
  have hxl : xs.length = n := e2.symm
  have hlen : ((xs.take m).drop l).length = m - l := by simp; omega
  refine ⟨_, _, _, rfl, hlen.symm, by omega, fun h0 => ?_⟩
  obtain ⟨bb, q, rfl, hok, hel, hes⟩ := e4 (by omega)
  have hc : ¬ c = l := by omega
  refine ⟨bb, q + l * k.size, by rw [if_neg hc]; simp [addr_add], hok, hel, fun i hi => ?_⟩
  have hi' : i < ((xs.take m).drop l).length := hi
  obtain ⟨ds, h1, h2⟩ := hes (l + i) (by show l + i < xs.length; omega)
  refine ⟨ds, ?_, ?_⟩
  · rw [Nat.add_assoc, ← Nat.add_mul]
    exact h1
  · have : (show List (El k) from (xs.take m).drop l)[i]'hi = xs[l + i]'(by omega) := by
      show ((xs.take m).drop l)[i] = _
      simp
    rw [this]
    exact h2

theorem bytesOf_part (B : ByteArray) (l m : Nat) : bytesOf (B.extract l m) = ((bytesOf B).take m).drop l := by
  unfold bytesOf
  rw [← List.map_take, ← List.map_drop]
  congr 1
  simp [ByteArray.data_extract, List.extract_eq_take_drop, List.drop_take]

def loN (lo : Option Int) : Nat := (lo.getD 0).toNat
def hiN (hi : Option Int) (n : Nat) : Nat := (hi.getD (n : Int)).toNat

theorem run_slice_sl {t e : TypeId} {k : K} (ht : TyOk P T t (.sl e k)) {b : Option Addr} {n c : Nat} {lo hi : Option Int} {l h : Option Value} (hlc : n ≤ c) (hl : lo = none → l = none) (hl' : ∀ j, lo = some j → ∃ ik, l = some (.int ik j)) (hh : hi = none → h = none) (hh' : ∀ j, hi = some j → ∃ ik, h = some (.int ik j))
    (h1 : ∀ j, hi = some j → 0 ≤ j ∧ j ≤ (n : Int)) (h2 : ∀ j, lo = some j → 0 ≤ j ∧ j ≤ hi.getD (n : Int)) :
    (Instr.sliceAt t (.slice b n c) l h none).run P w = .ok (.slice (if c = loN lo then b else b.map (·.add (loN lo * k.size))) (hiN hi n - loN lo) (c - loN lo)) w := by
  obtain ⟨hu, he, _, _⟩ := ht.sl
  unfold Instr.sliceAt Instr.slice
  simp only [Sem.run_bind, run_underlying hu, Result.andThen, run_bounds (isS := true) (w := w) hlc hl hl' hh hh' h1 h2, he.info.sizeOf w, Sem.run_pure]
  rfl

theorem run_slice_str {t : TypeId} (ht : TyOk P T t .str) {B : ByteArray} {lo hi : Option Int} {l h : Option Value} (hl : lo = none → l = none) (hl' : ∀ j, lo = some j → ∃ ik, l = some (.int ik j)) (hh : hi = none → h = none) (hh' : ∀ j, hi = some j → ∃ ik, h = some (.int ik j))
    (h1 : ∀ j, hi = some j → 0 ≤ j ∧ j ≤ (B.size : Int)) (h2 : ∀ j, lo = some j → 0 ≤ j ∧ j ≤ hi.getD (B.size : Int)) :
    (Instr.sliceAt t (.string B) l h none).run P w = .ok (.string (B.extract (loN lo) (hiN hi B.size))) w := by
  have hu := ht.str
  unfold Instr.sliceAt Instr.slice
  simp [Sem.run_bind, run_underlying hu, Result.andThen, run_bounds (isS := false) (w := w) (Nat.le_refl B.size) hl hl' hh hh' h1 h2, Sem.run_pure, loN, hiN]

theorem isZero_inv {x : Option Operand} (h : isZero x = true) : ∃ ik, x = some (.const (.int ik 0)) := by
  unfold isZero at h
  split at h
  · exact ⟨_, rfl⟩
  · simp at h

theorem did_slice (hT : TabOk P T) (H : Rel cx σ α F a w) (hd : o.dst = some d) (hdn : d < cx.nt) {t : TypeId} {x : Operand} {lo hi mx : Option Operand}
    (h : (match T.ty t with
      | some kk => bif isZero lo && isZero hi && isZero mx then match kk with
          | .sl _ _ => evalO x fun
            | .nils => .ret [Wr.s d (.one .nils)]
            | a => asVal a fun k' _ _ => bif k'.beq kk then .ret [Wr.s d (.one .nils)] else .fail
          | _ => .fail
        else match mx with
          | none => evalO x fun a => optI lo fun lo => optI hi fun hi => sliceP kk a lo hi fun u => .ret [Wr.s d (.one u)]
          | some _ => .fail
      | none => (.fail : Prog (List Wr))).ends σ ws) (ho : o.op = .slice t x lo hi mx) : Did P cx o a w (appAll ws σ) := by
  cases hty : T.ty t with
  | none => rw [hty] at h; exact h.elim
  | some kk =>
    rw [hty] at h
    have ht := hT.ty t kk hty
    rcases cond_ends h with ⟨hz, h5⟩ | ⟨_, h5⟩
    · simp only [Bool.and_eq_true] at hz
      obtain ⟨ik1, rfl⟩ := isZero_inv hz.1.1
      obtain ⟨ik2, rfl⟩ := isZero_inv hz.1.2
      obtain ⟨ik3, rfl⟩ := isZero_inv hz.2
      cases kk with
      | sl e k =>
        obtain ⟨u, h1, h2, h6⟩ := evalO_inv H h5
        have hfin : (∃ b n c, a.eval x = .slice b n c) → ws = [Wr.s d (.one .nils)] → Did P cx o a w (appAll ws σ) := by
          rintro ⟨b, n, c, e⟩ hws
          rw [hws]
          obtain ⟨hu, he, _, _⟩ := ht.sl
          refine did_put (x := .one .nils) (v := .slice b 0 0) H hd hdn ?_ ⟨b, rfl⟩ trivial
          have hcv : ∀ v, a.eval (.const v) = v := fun _ => rfl
          simp [execOp, ho, e, Instr.sliceAt, Instr.slice, run_underlying hu, Instr.sliceBounds, Instr.sliceBound, asIntOf, he.info.sizeOf w, hcv]
        cases u with
        | nils =>
          obtain ⟨b, e⟩ := h1
          exact hfin ⟨b, 0, 0, e⟩ (ends_ret h6)
        | _ =>
          obtain ⟨k', y, Tg, cs, g1, g2, g3, g4⟩ := asVal_inv H h1 h2 h6
          rcases beq_true g4 with ⟨ek, g5⟩ | ⟨_, g5⟩
          · subst ek
            obtain ⟨b, n, c, f1, _⟩ := sl_val g1 g2
            exact hfin ⟨b, n, c, f1⟩ (ends_ret g5)
          · exact g5.elim
      | _ => exact h5.elim
    · cases mx with
      | some m => exact h5.elim
      | none =>
        obtain ⟨u, h1, h2, h6⟩ := evalO_inv H h5
        obtain ⟨l, h7, l1, l2⟩ := optI_inv H h6
        obtain ⟨m, h8, m1, m2⟩ := optI_inv H h7
        have hl : l = none → lo.map a.eval = none := fun e => by rw [l1.1 e]; rfl
        have hm : m = none → hi.map a.eval = none := fun e => by rw [m1.1 e]; rfl
        have hstr : ∀ {s : List Int} {Tg : List Tag}, u = .val .str s Tg → Did P cx o a w (appAll ws σ) := by
          intro s Tg e
          subst e
          obtain ⟨B, e1, e2⟩ := val_str h1
          subst e2
          simp only [sliceP] at h8
          rcases cond_ends h8 with ⟨_, h9⟩ | ⟨hk, h9⟩
          · exact h9.elim
          · have ek : kk = .str := K.eq_of_beq (by simpa using hk)
            subst ek
            have hln := bytesOf_len B
            have hgo : ∀ {p : List Int}, (∀ j, m = some j → 0 ≤ j ∧ j ≤ (B.size : Int)) → (∀ j, l = some j → 0 ≤ j ∧ j ≤ m.getD (B.size : Int)) → p = ((bytesOf B).take (hiN m B.size)).drop (loN l) → ws = [Wr.s d (.one (.val .str p []))] → Did P cx o a w (appAll ws σ) := by
              intro p g1 g2 hp hws
              rw [hws, hp]
              have hrun := run_slice_str (w := w) ht (B := B) hl l2 hm m2 g1 g2
              refine did_put (v := .string (B.extract (loN l) (hiN m B.size))) H hd hdn ?_ ?_ (fun t ht => by simp at ht)
              · simp only [execOp, ho, e1, Sem.run_bind]
                rw [show (none : Option Operand).map a.eval = none from rfl, hrun]
                rfl
              · rw [← bytesOf_part]
                exact mk_str
            cases l with
            | none =>
              cases m with
              | none => exact hgo (by simp) (by simp) (by simp [loN, hiN, ← hln]) (ends_ret h9)
              | some j =>
                obtain ⟨hc, h9⟩ := h9
                exact hgo (fun i hi => by simp only [Option.some.injEq] at hi; subst hi; rw [← hln]; exact hc) (by simp) (by simp [loN, hiN]) (ends_ret h9)
            | some i =>
              cases m with
              | none =>
                obtain ⟨hc, h9⟩ := h9
                exact hgo (by simp) (fun i hi => by simp only [Option.some.injEq] at hi; subst hi; simp only [Option.getD_none]; rw [← hln]; exact hc) (by simp [loN, hiN, ← hln]) (ends_ret h9)
              | some j =>
                obtain ⟨hc, h9⟩ := h9
                have hc' : 0 ≤ i ∧ i ≤ j ∧ j ≤ ((bytesOf B).length : Int) := hc
                exact hgo (fun i' hi => by simp only [Option.some.injEq] at hi; subst hi; rw [← hln]; exact ⟨by omega, hc'.2.2⟩) (fun i' hi => by simp only [Option.some.injEq] at hi; subst hi; exact ⟨hc'.1, hc'.2.1⟩) (by simp [loN, hiN]) (ends_ret h9)
        have hsl : (asVal u fun k2 y Tg => match k2, y with
            | .sl e k3, xs => bif !kk.beq (.sl e k3) then .fail else
              match l, m with
              | none, none => (.ret [Wr.s d (.one (.val (.sl e k3) xs Tg))] : Prog (List Wr))
              | some l, none => .chk (0 ≤ l ∧ l ≤ ((show List (El k3) from xs).length : Int)) inferInstance (.ret [Wr.s d (.one (.val (.sl e k3) ((show List (El k3) from xs).drop l.toNat) Tg))])
              | none, some h => .chk (0 ≤ h ∧ h ≤ ((show List (El k3) from xs).length : Int)) inferInstance (.ret [Wr.s d (.one (.val (.sl e k3) ((show List (El k3) from xs).take h.toNat) Tg))])
              | some l, some h => .chk (0 ≤ l ∧ l ≤ h ∧ h ≤ ((show List (El k3) from xs).length : Int)) inferInstance (.ret [Wr.s d (.one (.val (.sl e k3) (((show List (El k3) from xs).take h.toNat).drop l.toNat) Tg))])
            | _, _ => .fail).ends σ ws → Did P cx o a w (appAll ws σ) := by
          intro h9
          obtain ⟨k2, y, Tg, cs, g1, g2, g3, g4⟩ := asVal_inv H h1 h2 h9
          cases k2 with
          | sl e k3 =>
            simp only at g4
            rcases cond_ends g4 with ⟨_, g5⟩ | ⟨hk, g5⟩
            · exact g5.elim
            · have ek : kk = .sl e k3 := K.eq_of_beq (by simpa using hk)
              subst ek
              have hln : (show List (El k3) from y).length = @List.length (El k3) y := rfl
              obtain ⟨b, n, c, f1, f2, f3, f4, f5⟩ := sl_val g1 g2
              have hgo : ∀ {p : List (El k3)}, (∀ j, m = some j → 0 ≤ j ∧ j ≤ (n : Int)) → (∀ j, l = some j → 0 ≤ j ∧ j ≤ m.getD (n : Int)) → p = ((show List (El k3) from y).take (hiN m n)).drop (loN l) → ws = [Wr.s d (.one (.val (.sl e k3) p Tg))] → Did P cx o a w (appAll ws σ) := by
                intro p q1 q2 hp hws
                rw [hws, hp]
                have hrun := run_slice_sl (w := w) ht (b := b) f4 hl l2 hm m2 q1 q2
                have hlm : loN l ≤ hiN m n ∧ hiN m n ≤ n := by
                  unfold loN hiN
                  cases l with
                  | none =>
                    cases m with
                    | none => simp
                    | some j => have := q1 j rfl; simp; omega
                  | some i =>
                    have h3 := q2 i rfl
                    cases m with
                    | none => simp at h3 ⊢; omega
                    | some j => have := q1 j rfl; simp at h3 ⊢; omega
                have hV := Vw_part (xs := (show List (El k3) from y)) (by rw [f2] at g2; exact g2) hlm.1 hlm.2
                refine did_put H hd hdn ?_ (show AVok cx σ α F w (.val (.sl e k3) _ Tg) (.slice (if c = loN l then b else b.map (·.add (loN l * k3.size))) (hiN m n - loN l) (c - loN l)) from fun _ => ⟨_, ⟨rfl, by simp⟩, hV⟩) g3
                simp only [execOp, ho, f1, Sem.run_bind]
                rw [show (none : Option Operand).map a.eval = none from rfl, hrun]
                rfl
              have f3' : ((show List (El k3) from y).length : Int) = (n : Int) := by rw [f3]
              cases l with
              | none =>
                cases m with
                | none => exact hgo (by simp) (by simp) (by simp only [loN, hiN, Option.getD_none, Int.toNat_natCast, Int.toNat_zero, List.drop_zero]; rw [f3, List.take_length]) (ends_ret g5)
                | some j =>
                  obtain ⟨hc, h9⟩ := g5
                  exact hgo (fun i hi => by simp only [Option.some.injEq] at hi; subst hi; rw [← f3']; exact hc) (by simp) (by simp [loN, hiN]) (ends_ret h9)
              | some i =>
                cases m with
                | none =>
                  obtain ⟨hc, h9⟩ := g5
                  exact hgo (by simp) (fun i hi => by simp only [Option.some.injEq] at hi; subst hi; simp only [Option.getD_none]; rw [← f3']; exact hc) (by simp only [loN, hiN, Option.getD_none, Option.getD_some, Int.toNat_natCast]; rw [f3, List.take_length]) (ends_ret h9)
                | some j =>
                  obtain ⟨hc, h9⟩ := g5
                  have hc' : 0 ≤ i ∧ i ≤ j ∧ j ≤ ((show List (El k3) from y).length : Int) := hc
                  exact hgo (fun i' hi => by simp only [Option.some.injEq] at hi; subst hi; rw [← f3']; exact ⟨by omega, hc'.2.2⟩) (fun i' hi => by simp only [Option.some.injEq] at hi; subst hi; exact ⟨hc'.1, hc'.2.1⟩) (by simp [loN, hiN]) (ends_ret h9)
          | _ => exact g4.elim
        cases u with
        | val k1 s Tg =>
          cases k1 with
          | str => exact hstr rfl
          | _ => exact hsl h8
        | _ => exact hsl h8

end
end Go.Proofs.YtcelknaomealbaaDoor.Ow

/- The framework, part 26: a new row. Own work of this seat. -/
namespace Go.Proofs.YtcelknaomealbaaDoor.Ow
open Go

variable [Fr]

section
variable {cx : Cx} {σ : St} {α : Asg} {F : List Nat} {a : Act} {w : World} {r : Nat}

theorem flatten_nodup_sub {fos : List (List Nat)} {i : Nat} {b : Nat} (h : b ∈ fos.getD i []) : b ∈ fos.flatten := mem_fos h

/-- A new row, its elements being held. -/
theorem rowRoot (H : Rel cx σ α F a w) (hn : σ.roots r = none) (hx : isExt r = false) {e : TypeId} {k : K} {xs : List (El k)} {own : List TypeId} {tags : List Tag} {arr : Array Value} {lo hi n c : Nat} {fos : List (List Nat)} {F1 : List Nat}
    (hwt : tagsW σ tags) (hown : memN e own = true) (hfr : ∀ i, i < arr.size → ¬ (lo ≤ i ∧ i < hi)) (hnx : n = xs.length) (hnc : n ≤ c) (hca : c * k.size ≤ arr.size)
    (hfl : fos.length = xs.length) (hfF : ∀ b ∈ fos.flatten, b ∈ F) (hfnd : fos.flatten.Nodup) (hF1 : ∀ b ∈ F1, b ∈ F ∧ b ∉ fos.flatten) (hF1nd : F1.Nodup)
    (hel : ∀ (i : Nat) (hi : i < xs.length), ∃ ds, ds.length = k.size ∧ (∀ j, j < ds.length → arr[i * k.size + j]? = ds[j]?) ∧ Ow (hp w) own (fun b => okT cx σ α F w tags b ∨ (b ∈ F ∧ b ∉ F1 ∧ b ∉ fos.flatten)) k xs[i] ds (fos.getD i [])) (kp : Bool) (dr : Nat) :
    ∃ α' F', Rel cx (setRoot σ r (newRoot (.sl e k) xs own tags .anon kp)) α' F' a ((dw w dr).alloc (.cells arr e (lo, hi))) ∧
      AVok cx (setRoot σ r (newRoot (.sl e k) xs own tags .anon kp)) α' F' ((dw w dr).alloc (.cells arr e (lo, hi))) (.ref r 0) (.slice (some ⟨w.heap.size, 0, none⟩) n c) := by
  have H0 := H.drawn dr
  obtain ⟨H1, T1⟩ := H0.alloc (.cells arr e (lo, hi))
  have hsz : (dw w dr).heap.size = w.heap.size := rfl
  have hnew : hp ((dw w dr).alloc (.cells arr e (lo, hi))) w.heap.size = some (.cells arr e (lo, hi)) := hp_alloc_new (dw w dr) _
  have hold : ∀ b, b < w.heap.size → hp ((dw w dr).alloc (.cells arr e (lo, hi))) b = hp w b := fun b hb => hp_alloc_old (dw w dr) _ hb
  have hbF : w.heap.size ∉ F := fun h => by have := (H.fl _ h).1; omega
  have hv : vtysK own (.sl e k) = vtysK own k := by simp [vtysK, hown]
  obtain ⟨α', k1, k2⟩ := anonHeld (k := .sl e k) (x := (xs : El (.sl e k))) (own := own) (tags := tags) (v := .slice (some ⟨w.heap.size, 0, none⟩) n c) (cs := [.slice (some ⟨w.heap.size, 0, none⟩) n c]) (fo := w.heap.size :: fos.flatten) (r := r) (F' := F1) H1 hn hx
    (fun b hb => by
      rcases List.mem_cons.1 hb with h | h
      · subst h; exact List.mem_cons_self
      · exact List.mem_cons_of_mem _ (hfF b h))
    (List.nodup_cons.2 ⟨fun h => hbF (hfF _ h), hfnd⟩) hwt
    (fun b hb => ⟨List.mem_cons_of_mem _ (hF1 b hb).1, fun h => by
      rcases List.mem_cons.1 h with h | h
      · subst h; exact hbF (hF1 _ hb).1
      · exact (hF1 b hb).2 h⟩) hF1nd rfl
    (fun hc => by
      rw [hv] at hc
      obtain ⟨_, hV, _⟩ := T1.views H0 tags _ hwt hc
      unfold Ow
      rw [if_pos hown]
      refine ⟨_, _, _, rfl, hnx, hnc, .inr ⟨w.heap.size, 0, arr, lo, hi, rfl, hnew, hfr, by omega, fos, hfl, .refl _, fun i hi => ?_⟩⟩
      obtain ⟨ds, h1, h2, h3⟩ := hel i hi
      refine ⟨ds, fun j hj => ?_, ?_⟩
      · unfold cellAt
        rw [hnew]
        simp only [Nat.zero_add]
        exact h2 j hj
      · refine Ow_mono ?_ ?_ (fun b hb => hold b (H.fl b (hfF b (mem_fos hb))).1) (Ow_tys _ (fun _ h => h) h3)
        · rintro b ⟨hb | ⟨hb, _⟩, _⟩
          · exact hold b hb.1
          · exact hold b (H.fl b hb).1
        · rintro b ⟨hb | ⟨g1, g2, g3⟩, hty⟩
          · exact .inl (hV b hb (.inl hty)).1
          · refine .inr ⟨List.mem_cons_of_mem _ g1, g2, fun h => ?_⟩
            rcases List.mem_cons.1 h with h | h
            · subst h; exact hbF g1
            · exact g3 h) ⟨rfl, by simp⟩ kp
  exact ⟨α', F1, k1, k2⟩

/-- A new row of plain elements. -/
theorem rowFlat (H : Rel cx σ α F a w) (hn : σ.roots r = none) (hx : isExt r = false) {e : TypeId} {k : K} {xs : List (El k)} {own : List TypeId} {arr : Array Value} {lo hi n c : Nat}
    (hown : memN e own = true) (hfr : ∀ i, i < arr.size → ¬ (lo ≤ i ∧ i < hi)) (hnx : n = xs.length) (hnc : n ≤ c) (hca : c * k.size ≤ arr.size)
    (hel : ∀ (i : Nat) (hi : i < xs.length), ∃ ds, ds.length = k.size ∧ (∀ j, j < ds.length → arr[i * k.size + j]? = ds[j]?) ∧ ∀ h ok, Ow h own ok k xs[i] ds []) (kp : Bool) (dr : Nat) :
    ∃ α' F', Rel cx (setRoot σ r (newRoot (.sl e k) xs own [] .anon kp)) α' F' a ((dw w dr).alloc (.cells arr e (lo, hi))) ∧
      AVok cx (setRoot σ r (newRoot (.sl e k) xs own [] .anon kp)) α' F' ((dw w dr).alloc (.cells arr e (lo, hi))) (.ref r 0) (.slice (some ⟨w.heap.size, 0, none⟩) n c) := by
  have hfl : (List.replicate xs.length ([] : List Nat)).flatten = [] := by simp
  refine rowRoot H hn hx (fos := List.replicate xs.length []) (F1 := F) (fun t ht => by simp at ht) hown hfr hnx hnc hca (by simp) (by rw [hfl]; simp) (by rw [hfl]; exact List.nodup_nil) (by rw [hfl]; exact fun b hb => ⟨hb, by simp⟩) H.fnd ?_ kp dr
  intro i hi
  obtain ⟨ds, h1, h2, h3⟩ := hel i hi
  refine ⟨ds, h1, h2, ?_⟩
  have : (List.replicate xs.length ([] : List Nat)).getD i [] = [] := by
    rw [getElem_getD (by simpa using hi)]; simp
  rw [this]
  exact h3 _ _

end
end Go.Proofs.YtcelknaomealbaaDoor.Ow

/- The framework, part 27: numbers and texts turned. Own work of this seat. -/
namespace Go.Proofs.YtcelknaomealbaaDoor.Ow
open Go

variable [Fr]

section
variable {P : Program} {T : Tab} {cx : Cx} {σ : St} {α : Asg} {F : List Nat} {a : Act} {w : World} {o : Oper} {d : Nat} {ws : List Wr}

theorem TyOk.int {t : TypeId} {ik : IntKind} (h : TyOk P T t (.int ik)) : P.underlying t = some (.int ik) := by
  unfold TyOk TyOk2 at h
  exact h.1

theorem TyOk.und {t : TypeId} {k : K} (h : TyOk P T t k) : ∃ u, P.underlying t = some u := by
  unfold TyOk TyOk2 at h
  cases k with
  | int ik => exact ⟨_, h.1⟩
  | bool => exact ⟨_, h.1⟩
  | str => exact ⟨_, h.1⟩
  | sl e k => exact ⟨_, h.1⟩
  | unit => exact h.elim
  | pair a b => exact h.elim
  | st c => obtain ⟨⟨fs, h1, _⟩, _⟩ := h; exact ⟨_, h1⟩
  | gap n => exact h.elim

theorem push_bytes (ns : List Int) : ∀ (s : ByteArray), (∀ n ∈ ns, 0 ≤ n ∧ n < 256) → bytesOf (ns.foldl (fun r n => r.push (UInt8.ofNat n.toNat)) s) = bytesOf s ++ ns := by
  induction ns with
  | nil => intro s _; simp
  | cons n ns ih =>
    intro s h
    rw [List.foldl_cons, ih _ (fun m hm => h m (by simp [hm]))]
    have h1 := h n (by simp)
    have : bytesOf (s.push (UInt8.ofNat n.toNat)) = bytesOf s ++ [n] := by
      unfold bytesOf
      simp only [ByteArray.push, Array.toList_push, List.map_append, List.map_cons, List.map_nil]
      congr 2
      simp
      omega
    rw [this]
    simp

/-- The bytes of a view. -/
theorem byte_view {h : Heap} {ok : Nat → Prop} {xs : List Int} {bb q : Nat} (hes : ∀ (i : Nat) (hi : i < xs.length), ∃ ds, Cells h bb (q + i * 1) ds ∧ Vw h ok (.int .u8) xs[i] ds) :
    Cells h bb q (xs.map (Value.int .u8)) ∧ ∀ n ∈ xs, 0 ≤ n ∧ n < 256 := by
  refine ⟨fun i hi => ?_, fun n hn => ?_⟩
  · simp only [List.length_map] at hi
    obtain ⟨ds, h1, h2, _⟩ := hes i hi
    have := h1 0 (by rw [h2]; simp)
    rw [h2] at this
    simp only [Nat.add_zero, Nat.mul_one, List.getElem?_cons_zero] at this
    rw [this]
    simp [hi]
  · obtain ⟨i, hi, rfl⟩ := List.mem_iff_getElem.1 hn
    obtain ⟨ds, _, _, h3⟩ := hes i hi
    exact h3

theorem did_convert (hT : TabOk P T) (H : Rel cx σ α F a w) (hd : o.dst = some d) (hdn : d < cx.nt) {s t : TypeId} {x : Operand} (ho : o.op = .convert s t x)
    (h : (evalO x fun a => convP T d s t a fun ws => (.ret ws : Prog (List Wr))).ends σ ws) : Did P cx o a w (appAll ws σ) := by
  obtain ⟨u, h1, h2, h5⟩ := evalO_inv H h
  have hrun : ∀ {v : Value} {w' : World}, (convert s t (a.eval x)).run P w = .ok v w' → (execOp a.eval o).run P w = .ok (.value v) w' := by
    intro v w' h
    simp only [execOp, ho, Sem.run_bind, h, Result.andThen_ok, Sem.run_pure]
  have hstr : ∀ {B : ByteArray}, (convert s t (a.eval x)).run P w = .ok (.string B) w → Did P cx o a w (appAll [Wr.s d (v1 .str (bytesOf B))] σ) := by
    intro B hr
    exact did_put H hd hdn (hrun hr) (show AVok cx σ α F w (.val .str (bytesOf B) []) _ from mk_str) v1_W
  unfold convP at h5
  cases hs : T.ty s with
  | none => rw [hs] at h5; exact h5.elim
  | some ks =>
    have hks := hT.ty s ks hs
    cases ht : T.ty t with
    | none => rw [hs, ht] at h5; cases ks <;> exact h5.elim
    | some kt =>
      have hkt := hT.ty t kt ht
      rw [hs, ht] at h5
      obtain ⟨us, hus⟩ := hks.und
      cases kt with
      | int ik =>
        have h6 : (match u with
          | .val (.int _) n _ => (.ret [Wr.s d (v1 (.int ik) (ik.wrap n))] : Prog (List Wr))
          | _ => .fail).ends σ ws := by cases ks <;> exact h5
        split at h6
        · obtain ⟨e1, e2⟩ := val_int h1
          rw [ends_ret h6]
          refine did_put H hd hdn (hrun ?_) (v1_int ik (rng_wrap _ _)) v1_W
          rw [e1]
          unfold convert
          simp only [Sem.run_bind, run_underlying hus, run_underlying hkt.int, Result.andThen]
          rfl
        · exact h6.elim
      | str =>
        cases ks with
        | str =>
          simp only at h5
          split at h5
          · obtain ⟨B, e1, e2⟩ := val_str h1
            subst e2
            rw [ends_ret h5]
            refine hstr ?_
            rw [e1]
            unfold convert
            simp only [Sem.run_bind, run_underlying hks.str, run_underlying hkt.str, Result.andThen]
            rfl
          · exact h5.elim
        | sl e k1 =>
          cases k1 with
          | int ik1 =>
            cases ik1 with
            | u8 =>
              obtain ⟨hu, he, _, _⟩ := hks.sl
              have hgo : ∀ {b : Option Addr} {n c : Nat} {xs : List Int}, a.eval x = .slice b n c → n = xs.length → (0 < n → ∃ bb q, b = some ⟨bb, q, none⟩ ∧ ∀ (i : Nat) (hi : i < xs.length), ∃ ds, Cells (hp w) bb (q + i * 1) ds ∧ Vw (hp w) (fun _ => True) (.int .u8) xs[i] ds) →
                  ws = [Wr.s d (v1 .str xs)] → Did P cx o a w (appAll ws σ) := by
                intro b n c xs e hn hes hws
                have hcv : (convert s t (a.eval x)).run P w = (Conv.bytesToString (.slice b n c)).run P w := by
                  rw [e]
                  unfold convert
                  simp only [Sem.run_bind, run_underlying hu, run_underlying hkt.str, run_underlying he.int, Result.andThen]
                cases b with
                | none =>
                  have hx0 : xs = [] := by
                    cases xs with
                    | nil => rfl
                    | cons y ys =>
                      obtain ⟨bb, q, h0, _⟩ := hes (by rw [hn]; simp)
                      simp at h0
                  subst hx0
                  rw [hws]
                  exact hstr (B := ByteArray.empty) (hcv.trans rfl)
                | some ad =>
                  by_cases h0 : 0 < n
                  · obtain ⟨bb, q, e0, hes'⟩ := hes h0
                    simp only [Option.some.injEq] at e0
                    subst e0
                    obtain ⟨g1, g2⟩ := byte_view hes'
                    have hl : (loadCells ⟨bb, q, none⟩ n).run P w = .ok (xs.map (Value.int .u8)).toArray w := by
                      have := run_loadCells_list (P := P) w ⟨bb, q, none⟩ (xs.map (Value.int .u8)) (fun j v hj => by
                        rw [addr_add, cell_hp, g1 j (List.getElem?_eq_some_iff.1 hj).1]
                        exact hj)
                      simpa [hn] using this
                    have hb := run_bytesToString w ⟨bb, q, none⟩ n c xs hl
                    have hbe := push_bytes xs ByteArray.empty g2
                    have : xs = bytesOf (xs.foldl (fun r n => r.push (UInt8.ofNat n.toNat)) ByteArray.empty) := by rw [hbe]; rfl
                    rw [hws, this]
                    exact hstr (hcv.trans hb)
                  · have hx0 : xs = [] := List.eq_nil_of_length_eq_zero (by omega)
                    subst hx0
                    have hn0 : n = 0 := by omega
                    subst hn0
                    have hl : (loadCells ad 0).run P w = .ok (([] : List Int).map (Value.int .u8)).toArray w := rfl
                    have hb := run_bytesToString w ad 0 c [] hl
                    rw [hws]
                    exact hstr (B := ByteArray.empty) (hcv.trans hb)
              cases u with
              | nils =>
                obtain ⟨b, e⟩ := h1
                exact hgo (xs := []) e rfl (fun h => by omega) (ends_ret h5)
              | _ =>
                obtain ⟨k', y, Tg, cs, g1, g2, g3, g4⟩ := asVal_inv H h1 h2 h5
                cases k' with
                | sl e' k2 =>
                  cases k2 with
                  | int ik2 =>
                    cases ik2 with
                    | u8 =>
                      obtain ⟨b, n, c, f1, f2, f3, f4, f5⟩ := sl_val g1 g2
                      refine hgo (xs := y) f1 f3 (fun h0 => ?_) (ends_ret g4)
                      obtain ⟨bb, q, e0, _, _, hes⟩ := f5 h0
                      exact ⟨bb, q, e0, fun i hi => by
                        obtain ⟨ds, m1, m2⟩ := hes i hi
                        exact ⟨ds, m1, m2⟩⟩
                    | _ => exact g4.elim
                  | _ => exact g4.elim
                | _ => exact g4.elim
            | _ => exact h5.elim
          | _ => exact h5.elim
        | _ => exact h5.elim
      | sl e k1 =>
        cases ks with
        | str =>
          cases k1 with
          | int ik1 =>
            cases ik1 with
            | u8 =>
              simp only at h5
              split at h5
              · obtain ⟨B, e1, e2⟩ := val_str h1
                subst e2
                obtain ⟨g1, g2⟩ := freshR_inv h5
                rw [ends_ret g2]
                obtain ⟨hu, he, _, _⟩ := hkt.sl
                have hr := run_bytes_of_string w s t e B hks.str hu he.int
                have hcap := grownCap_ge w B.size 0 e
                have hsz : (bytesRow B (grownCap w B.size 0 e)).size = grownCap w B.size 0 e := by
                  simp [bytesRow]
                  show B.data.size + _ = _
                  have : B.data.size = B.size := rfl
                  omega
                obtain ⟨α', F', r1, r2⟩ := rowFlat (r := locR d 0) (e := e) (k := .int .u8) (xs := bytesOf B) (own := [e]) (arr := bytesRow B (grownCap w B.size 0 e)) (lo := (bytesRow B (grownCap w B.size 0 e)).size) (hi := (bytesRow B (grownCap w B.size 0 e)).size + 1) (n := B.size) (c := grownCap w B.size 0 e) H g1 (isExt_locR d 0)
                  (by simp [memN]) (fun i hi => by omega) (bytesOf_len B).symm hcap (by simp [K.size, hsz])
                  (fun i hi => by
                    have hi' : i < B.size := by rw [← bytesOf_len B]; exact hi
                    refine ⟨[Value.int .u8 (bytesOf B)[i]], rfl, fun j hj => ?_, fun h ok => ⟨rfl, rfl, ?_⟩⟩
                    · simp only [List.length_singleton] at hj
                      have hj0 : j = 0 := by omega
                      subst hj0
                      have hid : i < B.data.size := hi'
                      simp only [K.size, Nat.mul_one, Nat.add_zero, List.getElem?_cons_zero]
                      unfold bytesRow
                      rw [Array.getElem?_append_left (by simpa using hid)]
                      simp [bytesOf]
                      exact ⟨B.data[i], Array.getElem?_eq_getElem hid, rfl⟩
                    · have := (bytesOf B)[i]
                      have hm : (bytesOf B)[i] ∈ bytesOf B := List.getElem_mem hi
                      unfold bytesOf at hm
                      obtain ⟨y, _, hy⟩ := List.mem_map.1 hm
                      show (0 : Int) ≤ (bytesOf B)[i] ∧ (bytesOf B)[i] < 256
                      have hy' : (y.toNat : Int) = (bytesOf B)[i] := hy
                      rw [← hy']
                      have := y.toNat_lt
                      omega) false (w.drawn + 1)
                exact did_put2 (x := .one (.ref (locR d 0) 0)) r1 hd hdn (hrun (by rw [e1]; exact hr)) r2 ⟨_, setRoot_same .., .inr (Nat.zero_le _)⟩
              · exact h5.elim
            | _ => exact h5.elim
          | _ => exact h5.elim
        | _ =>
          cases k1 with
          | int ik1 => cases ik1 <;> exact h5.elim
          | _ => exact h5.elim
      | _ => cases ks <;> exact h5.elim

end
end Go.Proofs.YtcelknaomealbaaDoor.Ow

/- The framework, part 28: a made slice. Own work of this seat. -/
namespace Go.Proofs.YtcelknaomealbaaDoor.Ow
open Go

variable [Fr]

section
variable {P : Program} {T : Tab} {cx : Cx} {σ : St} {α : Asg} {F : List Nat} {a : Act} {w : World} {o : Oper} {d : Nat} {ws : List Wr}

theorem zval_cells {k : K} (h : (∀ a b, k ≠ .pair a b) ∧ k ≠ .unit ∧ ∀ n, k ≠ .gap n) : (zval k).cells = (zcells k).toArray := by
  have := (zval_VC h.1 h.2.1 h.2.2).cells
  apply Array.ext'
  simpa using this

theorem madeCells_at {z : Array Value} {n j : Nat} (h : j < n) (hz : 0 < z.size) : (madeCells z n)[j]? = z[j % z.size]? := by
  unfold madeCells
  have : j % z.size < z.size := Nat.mod_lt _ hz
  simp [h, this]

theorem did_makeSlice (hT : TabOk P T) (H : Rel cx σ α F a w) (hd : o.dst = some d) (hdn : d < cx.nt) {t : TypeId} {x y : Operand}
    (h : (match T.ty t with
      | some (.sl e kk) => evalO x fun a => evalO y fun b => asInt a fun ik i => asInt b fun jk j => bif ikBeq ik .i64 && ikBeq jk .i64 then
          .chk (i = j ∧ 0 ≤ i ∧ i * T.bytes e ≤ 140737488355328) inferInstance (freshR (locR d 0)
            (.ret [Wr.r (locR d 0) (some (newRoot (.sl e kk) (List.replicate i.toNat kk.zero) (e :: kk.tys) [] .anon)), Wr.s d (.one (.ref (locR d 0) 0))]))
        else (.fail : Prog (List Wr))
      | _ => .fail).ends σ ws) (ho : o.op = .makeSlice t x y) : Did P cx o a w (appAll ws σ) := by
  cases hty : T.ty t with
  | none => rw [hty] at h; exact h.elim
  | some k0 =>
    rw [hty] at h
    cases k0 with
    | sl e kk =>
      have ht := hT.ty t _ hty
      simp only at h
      obtain ⟨u, h1, _, h2⟩ := evalO_inv H h
      obtain ⟨v, h3, _, h4⟩ := evalO_inv H h2
      obtain ⟨ik, i, e1, _, h5⟩ := asInt_inv h1 h4
      obtain ⟨jk, j, e2, _, h6⟩ := asInt_inv h3 h5
      rcases cond_ends h6 with ⟨_, h7⟩ | ⟨_, h7⟩
      · obtain ⟨⟨hij, h0, hb⟩, h8⟩ := h7
        obtain ⟨g1, g2⟩ := freshR_inv h8
        rw [ends_ret g2]
        obtain ⟨hu, he, hk, ii, hi, hby, hpos⟩ := ht.sl
        obtain ⟨i', hi', hs', hz'⟩ := he.info
        rw [hi] at hi'
        simp only [Option.some.injEq] at hi'
        subst hi'
        obtain ⟨n, rfl⟩ : ∃ n : Nat, i = n := ⟨i.toNat, by omega⟩
        subst hij
        have hbn : n * T.bytes e ≤ 140737488355328 := by
          have : ((n * T.bytes e : Nat) : Int) ≤ 140737488355328 := by simpa using hb
          omega
        have hn : n ≤ 140737488355328 := by
          have : n * 1 ≤ n * T.bytes e := Nat.mul_le_mul_left _ (by omega)
          omega
        have hbi : (ii.bytes : Int) * (n : Int) ≤ 281474976710656 := by
          rw [hby]
          have : ((T.bytes e * n : Nat) : Int) ≤ 281474976710656 := by rw [Nat.mul_comm]; omega
          simpa using this
        have hr := run_make (P := P) w t e ii (zval kk) hu hi hz' ik jk (n : Int) (n : Int) (by omega) (Int.le_refl _) hbi (by omega)
        simp only [Int.toNat_natCast, hs'] at hr
        have hsh := he.shape
        have hzc := zval_cells hsh
        have hzO : ∀ h ok, Ow h (e :: kk.tys) ok kk kk.zero (zcells kk) [] := fun h ok => zero_Ow he.noGap (fun t ht => memN_iff.2 (by simp [ht]))
        have hzl : (zcells kk).length = kk.size := Ow_len (hzO (hp w) (fun _ => True))
        have hms : (madeCells (zval kk).cells (n * kk.size)).size = n * kk.size := by simp [madeCells]
        obtain ⟨α', F', r1, r2⟩ := rowFlat (r := locR d 0) (e := e) (k := kk) (xs := List.replicate n kk.zero) (own := e :: kk.tys) (arr := madeCells (zval kk).cells (n * kk.size)) (lo := 0) (hi := 0) (n := n) (c := n) H g1 (isExt_locR d 0)
          (memN_iff.2 (by simp)) (fun i hi => by omega) (by simp) (Nat.le_refl _) (by rw [hms]; exact Nat.le_refl _)
          (fun i hi => by
            have hi' : i < n := by simpa using hi
            refine ⟨zcells kk, hzl, fun j hj => ?_, fun h ok => ?_⟩
            · have hlt : i * kk.size + j < n * kk.size := by
                have : (i + 1) * kk.size ≤ n * kk.size := Nat.mul_le_mul_right _ (by omega)
                rw [Nat.add_mul, Nat.one_mul] at this
                omega
              rw [madeCells_at hlt (by rw [hzc]; simp; omega), hzc]
              simp only [List.size_toArray, hzl, List.getElem?_toArray]
              congr 1
              rw [Nat.mul_comm, Nat.mul_add_mod]
              exact Nat.mod_eq_of_lt (by omega)
            · have : (List.replicate n kk.zero)[i]'hi = kk.zero := by simp
              rw [this]
              exact hzO h ok) false w.drawn
        refine did_put2 (x := .one (.ref (locR d 0) 0)) r1 hd hdn ?_ r2 ⟨_, setRoot_same .., .inr (Nat.zero_le _)⟩
        simp only [execOp, ho, e1, e2, Sem.run_bind, hr, Result.andThen_ok, Sem.run_pure]
        rfl
      · exact h7.elim
    | _ => exact h.elim

end
end Go.Proofs.YtcelknaomealbaaDoor.Ow

/- The framework, part 29: least and greatest. Own work of this seat. -/
namespace Go.Proofs.YtcelknaomealbaaDoor.Ow
open Go

variable [Fr]

section
variable {P : Program} {T : Tab} {cx : Cx} {σ : St} {α : Asg} {F : List Nat} {a : Act} {w : World} {o : Oper} {d : Nat} {ws : List Wr}

def mm2 (mx : Bool) : Value → Value → Sem Value := if mx then Builtin.max2 else Builtin.min2

theorem minL_inv {A : Type} {z : A} {mx : Bool} {ik : IntKind} {k : Int → Prog A} : ∀ {l : List AV} {vs : List Value} {x : Int}, listOk cx σ α F w l vs → rng ik x → (minL mx ik x l k).ends σ z →
    ∃ y, (vs.foldlM (mm2 mx) (.int ik x)).run P w = .ok (.int ik y) w ∧ rng ik y ∧ (k y).ends σ z := by
  intro l
  induction l with
  | nil =>
    intro vs x h1 hr h
    cases vs with
    | nil => exact ⟨x, rfl, hr, h⟩
    | cons v vs => exact h1.elim
  | cons u l ih =>
    intro vs x h1 hr h
    cases vs with
    | nil => exact h1.elim
    | cons v vs =>
      cases u with
      | val k1 y Tg =>
        cases k1 with
        | int jk =>
          simp only [minL] at h
          rcases cond_ends h with ⟨hk, h5⟩ | ⟨_, h5⟩
          · have := ikBeq_eq hk
            subst this
            obtain ⟨e1, e2⟩ := val_int h1.1
            subst e1
            have hr' : rng ik (if mx = true then (if (show Int from y) > x then y else x) else (if (show Int from y) < x then y else x)) := by
              split <;> split <;> assumption
            obtain ⟨y', g1, g2, g3⟩ := ih h1.2 hr' h5
            refine ⟨y', ?_, g2, g3⟩
            rw [List.foldlM_cons, Sem.run_bind]
            have hstep : (mm2 mx (.int ik x) (.int ik y)).run P w = .ok (.int ik (if mx = true then (if (show Int from y) > x then y else x) else (if (show Int from y) < x then y else x))) w := by
              cases mx <;> rfl
            rw [hstep]
            exact g1
          · exact h5.elim
        | _ => exact h.elim
      | _ => exact h.elim

theorem did_minmax (H : Rel cx σ α F a w) (hd : o.dst = some d) (hdn : d < cx.nt) {c : Call} {mx : Bool} (ho : o.op = .call c) (hb : c.callee = .builtin (if mx then .max else .min))
    (h : (evalAll c.args.toList fun
      | .val (.int ik) x _ :: l => minL mx ik x l fun z => .ret [Wr.s d (.one (.val (.int ik) z []))]
      | _ => (.fail : Prog (List Wr))).ends σ ws) : Did P cx o a w (appAll ws σ) := by
  obtain ⟨vs, h1, h2, h5⟩ := evalAll_inv H h
  split at h5
  · rename_i ik x Tg l
    cases hl : c.args.toList with
    | nil => rw [hl] at h1; exact h1.elim
    | cons y l' =>
      rw [hl] at h1
      obtain ⟨e1, e2⟩ := val_int h1.1
      obtain ⟨z, g1, g2, g3⟩ := minL_inv (P := P) (w := w) h1.2 e2 h5
      rw [ends_ret g3]
      refine did_put (v := .int ik z) H hd hdn ?_ (mk_int g2) (fun t ht => by simp at ht)
      obtain ⟨cc, hcc⟩ := run_call_builtin (P := P) (a := a) (w := w) ho hb
      rw [hcc]
      have hargs : (c.args.map a.eval).toList = .int ik x :: l'.map a.eval := by rw [Array.toList_map, hl, List.map_cons, e1]
      cases mx with
      | true =>
        have g1' : (List.foldlM Builtin.max2 (Value.int ik x) (l'.map a.eval)).run P w = .ok (.int ik z) w := g1
        simp only [if_true, builtin, Builtin.max_, hargs, Sem.run_bind, g1', Result.andThen_ok, Sem.run_pure]
      | false =>
        have g1' : (List.foldlM Builtin.min2 (Value.int ik x) (l'.map a.eval)).run P w = .ok (.int ik z) w := g1
        simp only [Bool.false_eq_true, if_false, builtin, Builtin.min_, hargs, Sem.run_bind, g1', Result.andThen_ok, Sem.run_pure]
  · exact h5.elim

end
end Go.Proofs.YtcelknaomealbaaDoor.Ow

/- The framework, part 30: a struct is built. Own work of this seat. -/
namespace Go.Proofs.YtcelknaomealbaaDoor.Ow
open Go

variable [Fr]

theorem fold_at : ∀ (vs : List Value) (k off : Nat) (cells : Array Value), off + k + vs.length ≤ cells.size →
    ((vs.zipIdx k).foldl (fun cs (p : Value × Nat) => cs.setIfInBounds (off + p.2) p.1) cells).size = cells.size ∧
    ∀ i, ((vs.zipIdx k).foldl (fun cs (p : Value × Nat) => cs.setIfInBounds (off + p.2) p.1) cells)[i]? = if off + k ≤ i ∧ i < off + k + vs.length then vs[i - (off + k)]? else cells[i]? := by
  intro vs
  induction vs with
  | nil => intro k off cells h; exact ⟨rfl, fun i => by simp; omega⟩
  | cons v vs ih =>
    intro k off cells h
    simp only [List.length_cons] at h
    simp only [List.zipIdx_cons, List.foldl_cons]
    obtain ⟨g1, g2⟩ := ih (k + 1) off (cells.setIfInBounds (off + k) v) (by simp; omega)
    refine ⟨by rw [g1]; simp, fun i => ?_⟩
    rw [g2 i]
    simp only [List.length_cons]
    by_cases h1 : off + (k + 1) ≤ i ∧ i < off + (k + 1) + vs.length
    · rw [if_pos h1, if_pos (by omega)]
      have : i - (off + k) = (i - (off + (k + 1))) + 1 := by omega
      rw [this, List.getElem?_cons_succ]
    · rw [if_neg h1]
      by_cases h2 : i = off + k
      · subst h2
        rw [if_pos (by omega), Array.getElem?_setIfInBounds_self_of_lt (by omega), Nat.sub_self]
        rfl
      · rw [if_neg (by omega), Array.getElem?_setIfInBounds_ne (by omega)]

theorem fold_set (vs : List Value) (off : Nat) (cells : Array Value) (h : off + vs.length ≤ cells.size) :
    (vs.zipIdx.foldl (fun cs (p : Value × Nat) => cs.setIfInBounds (off + p.2) p.1) cells) = (cells.toList.take off ++ (vs ++ cells.toList.drop (off + vs.length))).toArray := by
  obtain ⟨g1, g2⟩ := fold_at vs 0 off cells (by omega)
  apply Array.ext_getElem?
  intro i
  rw [g2 i]
  simp only [Nat.add_zero, List.getElem?_toArray]
  by_cases h1 : i < off
  · rw [if_neg (by omega), List.getElem?_append_left (by simp; omega), List.getElem?_take_of_lt h1]
    simp
  · by_cases h2 : i < off + vs.length
    · rw [if_pos (by omega), List.getElem?_append_right (by simp; omega), List.getElem?_append_left (by simp; omega)]
      congr 1
      simp
      omega
    · rw [if_neg (by omega), List.getElem?_append_right (by simp; omega), List.getElem?_append_right (by simp; omega), List.getElem?_drop]
      rw [Array.getElem?_toList]
      congr 1
      simp
      omega

/-- One part is set. -/
theorem fill_step {place : Nat → Option (Nat × Nat)} {cells : Array Value} {i off : Nat} {v : Value} {vs : List Value} {rest : List (Nat × Value)} (hp : place i = some (off, vs.length)) (hv : v.cells = vs.toArray) (hl : off + vs.length ≤ cells.size) :
    Instr.fill place cells ((i, v) :: rest) = Instr.fill place (cells.toList.take off ++ (vs ++ cells.toList.drop (off + vs.length))).toArray rest := by
  rw [← fold_set vs off cells hl]
  conv => lhs; unfold Instr.fill
  rw [hp]
  simp only [hv, List.size_toArray, ne_eq, not_true_eq_false, decide_false, Bool.false_or, decide_eq_true_eq]
  rw [if_neg (by omega)]
  simp

/-- What buildP does, the parts being taken. -/
def buildFold : List (Nat × Took) → Built → Option Built
  | [], b => some b
  | (n, tk) :: l, b => match b.k, b.x with
    | .st c, x => match chGet n c x with
      | some d => bif tk.k.beq d.1 then
          match chPut n c x ⟨tk.k, tk.x⟩ with
          | some z => buildFold l { k := .st z.1, x := z.2, bad := tk.bad ++ b.bad, tags := mergeT tk.tags0 b.tags, ws := b.ws ++ tk.ws, keep := tk.keep || b.keep, all := tk.tags ++ b.all }
          | none => none
        else none
      | none => none
    | _, _ => none

section
variable {P : Program} {T : Tab} {cx : Cx} {σ : St} {α : Asg} {F : List Nat} {a : Act} {w : World}

theorem buildP_inv {A : Type} {z : A} (H : Rel cx σ α F a w) {k : Built → Prog A} : ∀ {l : List (Nat × AV)} {vs : List Value} {b : Built}, listOk cx σ α F w (l.map (·.2)) vs → (∀ v ∈ l, avW σ v.2) → (buildP l b k).ends σ z →
    ∃ (tks : List Took) (b' : Built), tks.length = l.length ∧ vs.length = l.length ∧ (∀ it ∈ vs.zip tks, TakeI cx σ α F w it.1 it.2) ∧ buildFold ((l.map (·.1)).zip tks) b = some b' ∧ (k b').ends σ z := by
  intro l
  induction l with
  | nil =>
    intro vs b h1 _ h
    cases vs with
    | nil => exact ⟨[], b, rfl, rfl, by simp, rfl, h⟩
    | cons v vs => exact h1.elim
  | cons p l ih =>
    obtain ⟨n, x⟩ := p
    intro vs b h1 h2 h
    cases vs with
    | nil => exact h1.elim
    | cons v vs =>
      obtain ⟨bk, bx, bbad, btags, bws, bkeep, ball⟩ := b
      cases bk with
      | st c =>
        simp only [buildP] at h
        cases hg : chGet n c bx with
        | none => rw [hg] at h; exact h.elim
        | some d =>
          rw [hg] at h
          simp only at h
          obtain ⟨tk, htk, h5⟩ := takeV_inv H h1.1 (h2 (n, x) (by simp)) h
          rcases cond_ends h5 with ⟨hk, h6⟩ | ⟨_, h6⟩
          · cases hp : chPut n c bx ⟨tk.k, tk.x⟩ with
            | none => rw [hp] at h6; exact h6.elim
            | some zz =>
              rw [hp] at h6
              obtain ⟨tks, b', g1, g2, g3, g4, g5⟩ := ih h1.2 (fun v hv => h2 v (by simp [hv])) h6
              refine ⟨tk :: tks, b', by simp [g1], by simp [g2], ?_, ?_, g5⟩
              · intro it hit
                rw [List.zip_cons_cons] at hit
                rcases List.mem_cons.1 hit with h | h
                · subst h; exact htk
                · exact g3 it h
              · rw [List.map_cons, List.zip_cons_cons]
                unfold buildFold
                simp only [hg, hk, cond_true, hp]
                exact g4
          · exact h6.elim
      | _ => exact h.elim

end

end Go.Proofs.YtcelknaomealbaaDoor.Ow

/- The framework, part 31: the cells of what is built. Own work of this seat. -/
namespace Go.Proofs.YtcelknaomealbaaDoor.Ow
open Go

variable [Fr]

/-- The parts, as the whole will own them. -/
def PartsOk (h : Heap) (own : List TypeId) (ok : Nat → Prop) : List (Nat × Took) → List Value → List (List Nat) → Prop
  | [], [], [] => True
  | p :: l, v :: vs, ft :: fts => (∃ cs, VC p.2.k v cs ∧ Ow h own ok p.2.k p.2.x cs ft) ∧ PartsOk h own ok l vs fts
  | _, _, _ => False

theorem buildCells {h : Heap} {own : List TypeId} {ok : Nat → Prop} {place : Nat → Option (Nat × Nat)} {c : K} (hpl : ∀ n off k, chOff n c = some (off, k) → place n = some (off, k.size)) :
    ∀ (l : List (Nat × Took)) {vs : List Value} {fts : List (List Nat)} {x : El c} {cs : List Value} {fo : List Nat} {bad : List TypeId} {tags : List Tag} {ws : List Wr} {kp : Bool} {all : List Tag} {b' : Built},
      Ow h own ok c x cs fo → PartsOk h own ok l vs fts → buildFold l ⟨.st c, x, bad, tags, ws, kp, all⟩ = some b' →
      ∃ (x' : El c) (cs' : List Value) (fo' rest : List Nat) (bad' : List TypeId) (tags' : List Tag) (ws' : List Wr) (kp' : Bool) (all' : List Tag), b' = ⟨.st c, x', bad', tags', ws', kp', all'⟩ ∧ Ow h own ok c x' cs' fo' ∧ (fo ++ fts.flatten).Perm (fo' ++ rest) ∧
        Instr.fill place cs.toArray ((l.map (·.1)).zip vs) = some cs'.toArray := by
  intro l
  induction l with
  | nil =>
    intro vs fts x cs fo bad tags ws kp all b' H hP hb
    cases vs with
    | nil =>
      cases fts with
      | nil =>
        simp only [buildFold, Option.some.injEq] at hb
        exact ⟨x, cs, fo, [], bad, tags, ws, kp, all, hb.symm, H, by simp, rfl⟩
      | cons f fs => exact hP.elim
    | cons v vs => cases fts <;> exact hP.elim
  | cons p l ih =>
    obtain ⟨n, tk⟩ := p
    intro vs fts x cs fo bad tags ws kp all b' H hP hb
    cases vs with
    | nil => cases fts <;> exact hP.elim
    | cons v vs =>
      cases fts with
      | nil => exact hP.elim
      | cons ft fts =>
        obtain ⟨⟨cst, hv, hO⟩, hP'⟩ := hP
        unfold buildFold at hb
        simp only at hb
        cases hg : chGet n c x with
        | none => rw [hg] at hb; simp at hb
        | some d =>
          rw [hg] at hb
          simp only at hb
          cases hk : tk.k.beq d.1 with
          | false => rw [hk] at hb; simp at hb
          | true =>
            rw [hk] at hb
            simp only [cond_true] at hb
            cases hp : chPut n c x ⟨tk.k, tk.x⟩ with
            | none => rw [hp] at hb; simp at hb
            | some z =>
              rw [hp] at hb
              simp only at hb
              have ek := K.eq_of_beq hk
              have ez := chPut_kind n hg hp ek
              obtain ⟨off, pre, cs1, post, fo1, fr, ho, ec, hl, hpf, hd, hu, _⟩ := chFocus n H hg
              have r := hu h ok ⟨tk.k, tk.x⟩ cst ft z hp hO (fun b hb => ⟨hb, rfl⟩) (fun _ _ => rfl)
              obtain ⟨zk, zx⟩ := z
              simp only at ez
              subst ez
              obtain ⟨x', cs', fo', rest, bad', tags', ws', kp', all', g1, g2, g3, g4⟩ := ih r hP' hb
              refine ⟨x', cs', fo', fo1 ++ rest, bad', tags', ws', kp', all', g1, g2, ?_, ?_⟩
              · simp only [List.flatten_cons]
                have s1 : (fo ++ (ft ++ fts.flatten)).Perm ((fo1 ++ fr) ++ (ft ++ fts.flatten)) := List.Perm.append_right _ hpf
                have s2 : ((fo1 ++ fr) ++ (ft ++ fts.flatten)).Perm (fo1 ++ ((ft ++ fr) ++ fts.flatten)) := by
                  rw [List.append_assoc]
                  refine List.Perm.append_left _ ?_
                  rw [← List.append_assoc]
                  exact List.Perm.append_right _ List.perm_append_comm
                exact s1.trans (s2.trans ((List.Perm.append_left _ g3).trans perm_mid))
              · rw [List.map_cons, List.zip_cons_cons]
                have hcl : cst.length = d.1.size := by rw [Ow_len hO, ek]
                have hvc : v.cells = cst.toArray := by
                  have := hv.cells
                  apply Array.ext'
                  simpa using this
                rw [fill_step (off := off) (vs := cst) (by rw [hcl]; exact hpl n off d.1 ho) hvc (by rw [ec]; simp; have := Ow_len hd; omega)]
                have e2 : (cs.toArray.toList.take off ++ (cst ++ cs.toArray.toList.drop (off + cst.length))) = pre ++ (cst ++ post) := by
                  have hd1 := Ow_len hd
                  simp only
                  rw [ec, ← hl]
                  simp [hcl, ← hd1]
                rw [e2]
                exact g4

end Go.Proofs.YtcelknaomealbaaDoor.Ow

/- The framework, part 32: what is built, joined. Own work of this seat. -/
namespace Go.Proofs.YtcelknaomealbaaDoor.Ow
open Go

variable [Fr]

theorem buildFold_facts : ∀ (l : List (Nat × Took)) {b b' : Built}, buildFold l b = some b' →
    b'.ws = b.ws ++ l.flatMap (fun p => p.2.ws) ∧ (∀ p ∈ l, ∀ t ∈ p.2.tags, t ∈ b'.all) ∧ (∀ t ∈ b.all, t ∈ b'.all) ∧ (∀ p ∈ l, ∀ t ∈ p.2.bad, t ∈ b'.bad) ∧ (∀ t ∈ b.bad, t ∈ b'.bad) ∧
    (∀ p ∈ l, ∀ t ∈ p.2.tags0, t ∈ b'.tags) ∧ (∀ t ∈ b.tags, t ∈ b'.tags) ∧ (∀ t ∈ b'.tags, t ∈ b.tags ∨ ∃ p ∈ l, t ∈ p.2.tags0) := by
  intro l
  induction l with
  | nil =>
    intro b b' h
    simp only [buildFold, Option.some.injEq] at h
    subst h
    simp
  | cons p l ih =>
    obtain ⟨n, tk⟩ := p
    intro b b' h
    obtain ⟨bk, bx, bbad, btags, bws, bkeep, ball⟩ := b
    cases bk with
    | st c =>
      unfold buildFold at h
      simp only at h
      cases hg : chGet n c bx with
      | none => rw [hg] at h; simp at h
      | some d =>
        rw [hg] at h
        simp only at h
        cases hk : tk.k.beq d.1 with
        | false => rw [hk] at h; simp at h
        | true =>
          rw [hk] at h
          simp only [cond_true] at h
          cases hp : chPut n c bx ⟨tk.k, tk.x⟩ with
          | none => rw [hp] at h; simp at h
          | some z =>
            rw [hp] at h
            simp only at h
            obtain ⟨g1, g2, g3, g4, g5, g6, g7, g8⟩ := ih h
            refine ⟨by rw [g1]; simp, ?_, fun t ht => g3 t (by simp [ht]), ?_, fun t ht => g5 t (by simp [ht]), ?_, fun t ht => g7 t (mem_mergeT.2 (.inr ht)), ?_⟩
            · intro p hp t ht
              rcases List.mem_cons.1 hp with h | h
              · subst h; exact g3 t (by simp [ht])
              · exact g2 p h t ht
            · intro p hp t ht
              rcases List.mem_cons.1 hp with h | h
              · subst h; exact g5 t (by simp [ht])
              · exact g4 p h t ht
            · intro p hp t ht
              rcases List.mem_cons.1 hp with h | h
              · subst h; exact g7 t (mem_mergeT.2 (.inl ht))
              · exact g6 p h t ht
            · intro t ht
              rcases g8 t ht with h | ⟨p, h1, h2⟩
              · rcases mem_mergeT.1 h with h | h
                · exact .inr ⟨(n, tk), by simp, h⟩
                · exact .inl h
              · exact .inr ⟨p, by simp [h1], h2⟩
    | _ => simp [buildFold] at h

theorem PartsOk.mono {h : Heap} {own : List TypeId} {ok ok' : Nat → Prop} (hk : ∀ b, ok b → ok' b) : ∀ {l : List (Nat × Took)} {vs : List Value} {fts : List (List Nat)}, PartsOk h own ok l vs fts → PartsOk h own ok' l vs fts
  | [], [], [], _ => trivial
  | _ :: _, _ :: _, _ :: _, hP => ⟨by obtain ⟨cs, h1, h2⟩ := hP.1; exact ⟨cs, h1, Ow_mono (fun _ _ => rfl) hk (fun _ _ => rfl) h2⟩, PartsOk.mono hk hP.2⟩
  | [], [], _ :: _, hP => hP.elim
  | [], _ :: _, _, hP => hP.elim
  | _ :: _, [], _, hP => hP.elim
  | _ :: _, _ :: _, [], hP => hP.elim

section
variable {cx : Cx} {σ : St} {α : Asg} {F : List Nat} {w : World}

theorem parts_of_held {own' : List TypeId} {T : List Tag} : ∀ (items : List (Nat × Value × Took)) {hs : List (List Value × List Nat)}, HeldAll cx σ α F w (items.map (·.2)) hs → (∀ it ∈ items, ∀ t ∈ it.2.2.bad, memN t own' = false) → (∀ it ∈ items, ∀ t ∈ it.2.2.tags0, t ∈ T) →
    ∃ (fts : List (List Nat)) (fdts : List Nat), (hs.flatMap (·.2)).Perm (fts.flatten ++ fdts) ∧ PartsOk (hp w) own' (fun b => okT cx σ α F w T b ∨ b ∈ fdts) (items.map fun p => (p.1, p.2.2)) (items.map (·.2.1)) fts := by
  intro items
  induction items with
  | nil =>
    intro hs h _ _
    cases hs with
    | nil => exact ⟨[], [], by simp, trivial⟩
    | cons _ _ => exact h.elim
  | cons it items ih =>
    obtain ⟨n, v, tk⟩ := it
    intro hs h hbad htag
    cases hs with
    | nil => exact h.elim
    | cons hd hs =>
      obtain ⟨cs, fo⟩ := hd
      obtain ⟨⟨h1, h2, h3⟩, h4⟩ := h
      obtain ⟨fts, fdts, g1, g2⟩ := ih h4 (fun it hit => hbad it (by simp [hit])) (fun it hit => htag it (by simp [hit]))
      have hO := h2.ow h3
      have hO2 : Ow (hp w) tk.own (fun b => okT cx σ α F w T b) tk.k tk.x cs fo := by
        cases hb : tk.bad with
        | nil => exact Ow_own hb hO
        | cons t0 l =>
          have e : tk.tags0 = tk.tags := by unfold Took.tags0; rw [hb]
          exact Ow_mono (fun _ _ => rfl) (fun b hb => okT_tags hb (fun t ht => htag (n, v, tk) (by simp) t (by show t ∈ tk.tags0; rw [e]; exact ht))) (fun _ _ => rfl) hO
      obtain ⟨ft, fdt, p1, p2⟩ := Ow_less (own' := own') (fun t ht hm => by
        rcases vtysK_or (own := tk.own) ht with h | h
        · have := hbad (n, v, tk) (by simp) t h
          rw [hm] at this
          simp at this
        · exact h) hO2
      refine ⟨ft :: fts, fdt ++ fdts, ?_, ⟨cs, h1, Ow_mono (fun _ _ => rfl) (fun b hb => ?_) (fun _ _ => rfl) p2⟩, g2.mono (fun b hb => ?_)⟩
      · simp only [List.flatMap_cons, List.flatten_cons]
        refine (p1.append g1).trans ?_
        simp only [List.append_assoc]
        refine List.Perm.append_left _ ?_
        exact perm_mid
      · rcases hb with hb | hb
        · exact .inl hb
        · exact .inr (by simp [hb])
      · rcases hb with hb | hb
        · exact .inl hb
        · exact .inr (by simp [hb])

end

end Go.Proofs.YtcelknaomealbaaDoor.Ow

/- The framework, part 33: a struct is built, the operation. Own work of this seat. -/
namespace Go.Proofs.YtcelknaomealbaaDoor.Ow
open Go

variable [Fr]

theorem places_of {P : Program} {T : Tab} : ∀ {c : K} {fs : List Field} {off0 : Nat}, (TyOk2 P T c).2 fs off0 →
    ∃ places, fs.mapM (fun f => (P.info? f.type).map fun i => (f.offset, i.size)) = some places ∧ ∀ n off k, chOff n c = some (off, k) → places[n]? = some (off0 + off, k.size) := by
  intro c
  induction c with
  | unit =>
    intro fs off0 h
    have h' : fs = [] := h
    subst h'
    exact ⟨[], rfl, fun n off k ho => by cases n <;> simp [chOff] at ho⟩
  | pair a b iha ihb =>
    intro fs off0 h
    cases fs with
    | nil => exact h.elim
    | cons f fs =>
      obtain ⟨h1, h2, h3, h4⟩ := h
      obtain ⟨pl, g1, g2⟩ := ihb h4
      obtain ⟨i, i1, i2, _⟩ := TyOk.info (show TyOk P T f.type a from h2)
      refine ⟨(off0, a.size) :: pl, ?_, ?_⟩
      · rw [List.mapM_cons, i1, g1]
        simp [h1, i2]
      · intro n off k ho
        cases n with
        | zero =>
          simp only [chOff, Option.some.injEq, Prod.mk.injEq] at ho
          obtain ⟨rfl, rfl⟩ := ho
          rfl
        | succ n =>
          simp only [chOff] at ho
          cases h5 : chOff n b with
          | none => rw [h5] at ho; simp at ho
          | some q =>
            rw [h5] at ho
            simp only [Option.some.injEq, Prod.mk.injEq] at ho
            rw [List.getElem?_cons_succ, g2 n q.1 q.2 (by rw [h5]), ← ho.1, ← ho.2]
            congr 2
            omega
  | _ => intro fs off0 h; exact h.elim

theorem built_of {P : Program} {T : Tab} {t : TypeId} {c : K} (ht : TyOk P T t (.st c)) : ∃ place : Nat → Option (Nat × Nat), (∀ n off k, chOff n c = some (off, k) → place n = some (off, k.size)) ∧
    ∀ parts, P.built t parts = Instr.fill place (zcells c).toArray parts := by
  obtain ⟨fs, hu, hf⟩ := ht.st
  obtain ⟨i, i1, i2, i3⟩ := ht.info
  obtain ⟨pl, g1, g2⟩ := places_of hf
  refine ⟨(pl.toArray[·]?), fun n off k ho => ?_, fun parts => ?_⟩
  · have := g2 n off k ho
    simpa using this
  · unfold Program.built
    rw [i1, hu]
    simp only [i3, g1]
    rfl

theorem zero_any {h : Heap} {own : List TypeId} {ok : Nat → Prop} : ∀ {k : K}, noGap k = true → Ow h own ok k k.zero (zcells k) [] := by
  intro k
  induction k with
  | int ik => intro _; exact ⟨rfl, rfl, by cases ik <;> simp [rng, K.zero]⟩
  | bool => intro _; exact ⟨rfl, rfl⟩
  | str => intro _; exact ⟨rfl, ByteArray.empty, rfl, rfl⟩
  | sl e k ih => intro _; exact nil_held
  | unit => intro _; exact ⟨rfl, rfl⟩
  | pair a b iha ihb =>
    intro hg
    simp [noGap] at hg
    exact ⟨zcells a, zcells b, [], [], rfl, .refl _, iha hg.1, ihb hg.2⟩
  | st f ih => intro hg; exact ih hg
  | gap n => intro hg; simp [noGap] at hg

theorem takes_notr {cx : Cx} {σ : St} {α : Asg} {F : List Nat} {w : World} {r : Nat} (hn : σ.roots r = none) : ∀ {l : List (Value × Took)}, (∀ it ∈ l, TakeI cx σ α F w it.1 it.2) → r ∉ (tws l).flatMap Wr.rid := by
  intro l h hm
  simp only [tws, List.mem_flatMap] at hm
  obtain ⟨wr, ⟨it, hit, hw⟩, hr⟩ := hm
  cases h it hit with
  | held hws cs hv hh hc => rw [hws] at hw; simp at hw
  | ref q R hlr hv e hk hd =>
    rw [e] at hw
    simp only [List.mem_singleton] at hw
    subst hw
    simp only [Wr.rid, List.mem_singleton] at hr
    rw [hr, hlr.1] at hn
    simp at hn
  | gap q R p dd z hlr hv hg hz hpin hown hpv e hnn =>
    rw [e] at hw
    simp only [List.mem_singleton] at hw
    subst hw
    simp only [Wr.rid, List.mem_singleton] at hr
    rw [hr, hlr.1] at hn
    simp at hn

theorem zip_items : ∀ (ns : List Nat) (vs : List Value) (ts : List Took), ns.length = ts.length → vs.length = ts.length →
    ((ns.zip (vs.zip ts)).map (·.2) = vs.zip ts) ∧ ((ns.zip (vs.zip ts)).map (fun p => (p.1, p.2.2)) = ns.zip ts) ∧ ((ns.zip (vs.zip ts)).map (·.2.1) = vs) ∧ (tws (vs.zip ts) = (ns.zip ts).flatMap (fun p => p.2.ws)) := by
  intro ns
  induction ns with
  | nil =>
    intro vs ts h1 h2
    cases ts with
    | nil => cases vs with
      | nil => exact ⟨rfl, rfl, rfl, rfl⟩
      | cons _ _ => simp at h2
    | cons _ _ => simp at h1
  | cons n ns ih =>
    intro vs ts h1 h2
    cases ts with
    | nil => simp at h1
    | cons t ts =>
      cases vs with
      | nil => simp at h2
      | cons v vs =>
        obtain ⟨g1, g2, g3, g4⟩ := ih vs ts (by simpa using h1) (by simpa using h2)
        refine ⟨by simp [g1], by simp [g2], by simp [g3], ?_⟩
        unfold tws at g4 ⊢
        simp [g4]

end Go.Proofs.YtcelknaomealbaaDoor.Ow

/- The framework, part 34: did_build. Own work of this seat. -/
namespace Go.Proofs.YtcelknaomealbaaDoor.Ow
open Go

variable [Fr]

section
variable {P : Program} {T : Tab} {cx : Cx} {σ : St} {α : Asg} {F : List Nat} {a : Act} {w : World} {o : Oper} {d : Nat} {ws : List Wr}

theorem heldAll_sub : ∀ {l : List (Value × Took)} {hs : List (List Value × List Nat)}, HeldAll cx σ α F w l hs → ∀ b ∈ hs.flatMap (·.2), b ∈ F
  | [], [], _, b, hb => by simp at hb
  | _ :: _, hd :: hs, h, b, hb => by
    simp only [List.flatMap_cons, List.mem_append] at hb
    rcases hb with hb | hb
    · exact h.1.2.1.sub b hb
    · exact heldAll_sub h.2 b hb
  | [], _ :: _, h, _, _ => h.elim
  | _ :: _, [], h, _, _ => h.elim

theorem heldAll_wt : ∀ {l : List (Value × Took)} {hs : List (List Value × List Nat)}, HeldAll cx σ α F w l hs → ∀ it ∈ l, tagsW σ it.2.tags
  | [], [], _, it, hi => by simp at hi
  | _ :: _, hd :: hs, h, it, hi => by
    rcases List.mem_cons.1 hi with hi | hi
    · subst hi; exact h.1.2.1.wt
    · exact heldAll_wt h.2 it hi
  | [], _ :: _, h, _, _ => h.elim
  | _ :: _, [], h, _, _ => h.elim

theorem did_build (hT : TabOk P T) (H : Rel cx σ α F a w) (hd : o.dst = some d) (hdn : d < cx.nt) {t : TypeId} {ps : Array (Nat × Operand)}
    (h : (match T.ty t with
      | some (.st c) => evalL ps.toList fun l => buildP l ⟨.st c, (K.st c).zero, [], [], [], false, []⟩ fun b => bif !wsOk b.ws b.all then .fail else bif b.k.tys.all fun t => memN t b.bad then
          .ret (b.ws ++ [Wr.s d (.one (.val b.k b.x b.tags))])
        else freshR (locR d 0) (.ret (b.ws ++ [Wr.r (locR d 0) (some (newRoot b.k b.x (ownLess b.k.tys b.bad) b.tags .anon b.keep)), Wr.s d (.one (.ref (locR d 0) 0))]))
      | _ => (.fail : Prog (List Wr))).ends σ ws) (ho : o.op = .build t ps) : Did P cx o a w (appAll ws σ) := by
  cases hty : T.ty t with
  | none => rw [hty] at h; exact h.elim
  | some k0 =>
    rw [hty] at h
    cases k0 with
    | st c =>
      have ht := hT.ty t _ hty
      simp only at h
      obtain ⟨vs, e1, h1, h2, h3⟩ := evalL_inv H h
      obtain ⟨tks, b', l1, l2, hTk, hfold, h4⟩ := buildP_inv H h1 h2 h3
      have hlen : vs.length = tks.length := l1.symm
      have hnames : (vs.map (·.1)).length = tks.length := by rw [List.length_map]; exact hlen
      have hvals : ((evs a ps.toList).map (·.2)).length = tks.length := by rw [l2]; exact hlen
      generalize hns : vs.map (·.1) = ns at *
      generalize hvv : (evs a ps.toList).map (·.2) = vals at *
      obtain ⟨z1, z2, z3, z4⟩ := zip_items ns vals tks hnames hvals
      obtain ⟨f1, f2, f3, f4, f5, f6, f7, f8⟩ := buildFold_facts _ hfold
      simp only [List.nil_append] at f1
      rcases cond_ends h4 with ⟨_, h5⟩ | ⟨hws, h5⟩
      · exact h5.elim
      · have hws' : wsOk b'.ws b'.all = true := by simpa using hws
        unfold wsOk at hws'
        simp only [Bool.and_eq_true] at hws'
        have hw1 := apartN_iff.1 hws'.1
        have hw2 := apartW_iff.1 hws'.2
        rw [f1, ← z4] at hw1 hw2
        obtain ⟨α', F', hs, H', hA, hnd, hnF, hFF, hS, _⟩ := takes (vals.zip tks) H hTk hw1 (fun tg htg => hw2 tg (by
          obtain ⟨it, hit, h6⟩ := List.mem_flatMap.1 htg
          have : it ∈ (ns.zip (vals.zip tks)).map (·.2) := by rw [z1]; exact hit
          obtain ⟨q, hq, rfl⟩ := List.mem_map.1 this
          exact f2 (q.1, q.2.2) (by rw [← z2]; exact List.mem_map.2 ⟨q, hq, rfl⟩) tg h6))
        have hA0 := hA
        rw [← z1] at hA
        obtain ⟨fts, fdts, p1, p2⟩ := parts_of_held (own' := ownLess (K.st c).tys b'.bad) (T := b'.tags) (ns.zip (vals.zip tks)) hA
          (fun it hit tg htg => by
            cases hm : memN tg (ownLess (K.st c).tys b'.bad) with
            | false => rfl
            | true => exact absurd (f4 (it.1, it.2.2) (by rw [← z2]; exact List.mem_map.2 ⟨it, hit, rfl⟩) tg htg) (memN_ownLess.1 hm).2)
          (fun it hit tg htg => f6 (it.1, it.2.2) (by rw [← z2]; exact List.mem_map.2 ⟨it, hit, rfl⟩) tg htg)
        rw [z2, z3, z1] at p2
        obtain ⟨place, q1, q2⟩ := built_of ht
        obtain ⟨x', cs', fo', rest, bad', tags', ws2, kp', all', r1, r2, r3, r4⟩ := buildCells q1 (ns.zip tks) (x := (K.st c).zero) (cs := zcells c) (fo := []) (zero_any (k := c) ht.noGap) p2 hfold
        subst r1
        simp only at hws' f1 f2 f3 f4 f5 f6 f7 f8 h5 p2 r2 r3
        have hzn : (ns.zip tks).map (·.1) = ns := by rw [List.map_fst_zip (by omega)]
        have hparts : ((ps.map fun (p : Nat × Operand) => (p.1, a.eval p.2)).toList) = ns.zip vals := by
          rw [Array.toList_map, ← hvv, e1]
          have : ∀ l : List (Nat × Operand), l.map (fun p => (p.1, a.eval p.2)) = (l.map (·.1)).zip ((evs a l).map (·.2)) := by
            intro l
            induction l with
            | nil => rfl
            | cons p l ih => simp [evs] at ih ⊢; exact ih
          exact this _
        have hrun : (execOp a.eval o).run P w = .ok (.value (.agg cs'.toArray)) w := by
          have hb := run_build (P := P) w t (ps.map fun (p : Nat × Operand) => (p.1, a.eval p.2)) cs'.toArray (by rw [hparts, q2, ← r4, hzn])
          simp only [execOp, ho, Sem.run_bind, hb, Result.andThen_ok, Sem.run_pure]
        have hperm : (hs.flatMap (·.2)).Perm (fo' ++ (rest ++ fdts)) := by
          refine p1.trans ?_
          rw [← List.append_assoc]
          exact List.Perm.append_right _ (by simpa using r3)
        have hnd2 := hperm.nodup hnd
        have hin : ∀ b ∈ hs.flatMap (·.2), b ∈ F' := heldAll_sub hA0
        have hfoF : ∀ b ∈ fo', b ∈ F' := fun b hb => hin b (hperm.mem_iff.2 (by simp [hb]))
        have hfdF : ∀ b ∈ fdts, b ∈ F' ∧ b ∉ fo' := fun b hb => ⟨hin b (hperm.mem_iff.2 (by simp [hb])), fun h => (List.nodup_append.1 hnd2).2.2 b h b (by simp [hb]) rfl⟩
        have hV : VC (.st c) (.agg cs'.toArray) cs' := rfl
        have hwt : tagsW (appAll (tws (vals.zip tks)) σ) tags' := by
          intro tg htg
          rcases f8 tg htg with h | ⟨q, hq, hq2⟩
          · simp at h
          · rw [← z2] at hq
            obtain ⟨it, hit, rfl⟩ := List.mem_map.1 hq
            have hit2 : it.2 ∈ vals.zip tks := by rw [← z1]; exact List.mem_map.2 ⟨it, hit, rfl⟩
            exact tags0_W (heldAll_wt hA0 it.2 hit2) tg hq2
        have hws3 : ws2 = tws (vals.zip tks) := by rw [f1, z4]
        rcases cond_ends h5 with ⟨hall, h6⟩ | ⟨_, h6⟩
        · rw [ends_ret h6]
          have hnone : ∀ tg ∈ c.tys, memN tg (ownLess (K.st c).tys bad') = false := by
            intro tg htg
            cases hm : memN tg (ownLess (K.st c).tys bad') with
            | false => rfl
            | true =>
              have := List.all_eq_true.1 hall tg htg
              exact absurd (memN_iff.1 this) (memN_ownLess.1 hm).2
          have hfo0 : fo' = [] := by
            cases hf : fo' with
            | nil => rfl
            | cons b l =>
              obtain ⟨e, g1, g2, _⟩ := Ow_fo_ty (k := c) r2 b (by rw [hf]; simp)
              rw [hnone e g1] at g2
              simp at g2
          have T2 := memTurn (w' := w) (F' := F'.filter fun b => !memN b fdts) H' ⟨rfl, rfl, rfl⟩ (Nat.le_refl _) (fun _ _ h => absurd rfl h) (fun b hb => .inl (List.mem_filter.1 hb).1) (H'.fnd.filter _)
          have H2 := H'.mem T2
          have hok : ∀ b, (okT cx (appAll (tws (vals.zip tks)) σ) α' F' w tags' b ∨ b ∈ fdts) → okT cx (appAll (tws (vals.zip tks)) σ) α' (F'.filter fun b => !memN b fdts) w tags' b := by
            rintro b (hb | hb)
            · exact ⟨hb.1, fun h => hb.2.1 (List.mem_filter.1 h).1, hb.2.2⟩
            · have hbF := (hfdF b hb).1
              have hm := H'.fl b hbF
              refine ⟨hm.1, fun h => ?_, F_notBase H' hbF, fun q Q hq hbq => absurd hbF (H'.fdis q Q hq b hbq), fun h0 => ?_⟩
              · have := (List.mem_filter.1 h).2
                simp only [Bool.not_eq_true', memN_false] at this
                exact this hb
              · rcases hm.2 with h | ⟨j, pi, h1, h2⟩
                · omega
                · exact .inr ⟨j, pi, h1, h2⟩
          have hVw := Ow_view (k := .st c) _ hok (fun b hb => by rw [hfo0] at hb; simp at hb) r2
          rw [hws3, appAll_append]
          exact did_put2 (x := .one (.val (.st c) x' tags')) H2 hd hdn hrun (show AVok cx _ α' _ w (.val (.st c) x' tags') _ from fun _ => ⟨cs', hV, hVw⟩) hwt
        · obtain ⟨g1, g2⟩ := freshR_inv h6
          rw [ends_ret g2]
          have hnr := takes_notr g1 hTk
          have hn1 : (appAll (tws (vals.zip tks)) σ).roots (locR d 0) = none := by rw [(hS _ hnr).root]; exact g1
          obtain ⟨α2, k1, k2⟩ := anonHeld (k := .st c) (x := x') (own := ownLess (K.st c).tys bad') (tags := tags') (v := .agg cs'.toArray) (cs := cs') (fo := fo') (r := locR d 0) (F' := F'.filter fun b => !memN b (fo' ++ fdts)) H' hn1 (isExt_locR d 0)
            hfoF (List.nodup_append.1 hnd2).1 hwt (fun b hb => by
              rw [List.mem_filter] at hb
              have := hb.2
              simp only [Bool.not_eq_true', memN_false, List.mem_append, not_or] at this
              exact ⟨hb.1, this.1⟩) (H'.fnd.filter _) (Ow_len (k := c) r2)
            (fun _ => Ow_mono (k := .st c) (fun _ _ => rfl) (fun b hb => by
              rcases hb with hb | hb
              · exact .inl hb
              · refine .inr ⟨(hfdF b hb).1, fun h => ?_, (hfdF b hb).2⟩
                rw [List.mem_filter] at h
                have := h.2
                simp only [Bool.not_eq_true', memN_false, List.mem_append, not_or] at this
                exact this.2 hb) (fun _ _ => rfl) r2) hV kp'
          rw [hws3, appAll_append]
          exact did_put2 (x := .one (.ref (locR d 0) 0)) k1 hd hdn hrun k2 ⟨_, setRoot_same .., .inr (Nat.zero_le _)⟩
    | _ => exact h.elim

end
end Go.Proofs.YtcelknaomealbaaDoor.Ow

/- The framework, part 35: append, as the machine does it. Own work of this seat. -/
namespace Go.Proofs.YtcelknaomealbaaDoor.Ow
open Go

variable [Fr]

section
variable {P : Program} {T : Tab} {w : World}

/-- What is appended: its length and its cells. -/
structure Src (P : Program) (w : World) (size : Nat) (u : TypeId) (x : Value) (m : Nat) (news : List Value) : Prop where
  und : (∃ e', P.underlying u = some (.slice e')) ∨ P.underlying u = some .string
  len : ∀ w', (Builtin.lenOf x).run P w' = .ok m w'
  cells : (Builtin.firstCells size m x).run P w = .ok news.toArray w ∧ (Builtin.firstCells size m x).run P w.drew = .ok news.toArray w.drew
  nl : news.length = m * size
  one : ∀ v ∈ news, v.oneCell' = true

theorem src_slice {size : Nat} {u : TypeId} {b : Option Addr} {m c : Nat} {news : List Value} (hu : (∃ e', P.underlying u = some (.slice e')) ∨ P.underlying u = some .string) (hl : news.length = m * size) (h1 : ∀ v ∈ news, v.oneCell' = true)
    (hc : 0 < m → ∃ bb q, b = some ⟨bb, q, none⟩ ∧ Cells (hp w) bb q news) : Src P w size u (.slice b m c) m news where
  und := hu
  len := fun w' => rfl
  cells := by
    have key : ∀ w', hp w' = hp w → (Builtin.firstCells size m (.slice b m c)).run P w' = .ok news.toArray w' := by
      intro w' hw
      by_cases h0 : 0 < m
      · obtain ⟨bb, q, rfl, hcs⟩ := hc h0
        exact run_firstCells_some (P := P) w' size m ⟨bb, q, none⟩ m c news hl (fun j v hj => by
          rw [addr_add, cell_hp, hw, hcs j (List.getElem?_eq_some_iff.1 hj).1]
          exact hj)
      · have hm : m = 0 := by omega
        subst hm
        have hn : news = [] := List.eq_nil_of_length_eq_zero (by simpa using hl)
        subst hn
        cases b with
        | none => exact run_firstCells_none w' size 0 0 c
        | some ad => exact run_firstCells_some (P := P) w' size 0 ad 0 c [] (by simp) (fun j v hj => by simp at hj)
    exact ⟨key w rfl, key w.drew rfl⟩
  nl := hl
  one := h1

theorem src_string {u : TypeId} {B : ByteArray} (hu : (∃ e', P.underlying u = some (.slice e')) ∨ P.underlying u = some .string) : Src P w 1 u (.string B) B.size (B.data.toList.map fun b => .int .u8 b.toNat) where
  und := hu
  len := fun w' => rfl
  cells := by
    have h : B.extract 0 B.size = B := by
      apply ByteArray.ext
      simp
    constructor <;> (simp [Builtin.firstCells, h]; apply Array.ext'; simp)
  nl := by simp
  one := by intro v hv; simp only [List.mem_map] at hv; obtain ⟨b, _, rfl⟩ := hv; rfl

/-- Append where there is room: in place. -/
theorem run_append_in {t u ty e : TypeId} {k : K} (ht : TyOk P T t (.sl e k)) {b : Option Addr} {n c m : Nat} {x : Value} {news : List Value} (hs : Src P w k.size u x m news) (hr : n + m ≤ c) :
    (Builtin.append_ #[t, u] ty #[.slice b n c, x]).run P w = (match b with
      | some a => (storeCells (a.add (n * k.size)) news).run P w
      | none => .ok () w).andThen fun _ w' => .ok (.slice b (n + m) c) w' := by
  obtain ⟨hu, he, _, _⟩ := ht.sl
  have e1 := hs.len w
  have e2 := hs.cells.1
  rcases hs.und with ⟨e', hd⟩ | hd <;> cases b <;> simp [Builtin.append_, run_underlying hu, he.info.sizeOf w, run_underlying hd, e1, e2, hr, Result.andThen]

end
end Go.Proofs.YtcelknaomealbaaDoor.Ow

/- The framework, part 36: append that grows. Own work of this seat. -/
namespace Go.Proofs.YtcelknaomealbaaDoor.Ow
open Go

variable [Fr]

section
variable {P : Program} {T : Tab} {w : World}

theorem run_append_out {t u ty e : TypeId} {k : K} (ht : TyOk P T t (.sl e k)) {b : Option Addr} {n c m : Nat} {x : Value} {news olds : List Value} (hs : Src P w k.size u x m news)
    (hold : (Builtin.firstCells k.size n (.slice b n c)).run P w.drew = .ok olds.toArray w.drew) (hr : ¬ n + m ≤ c) (hb : (n + m) * T.bytes e ≤ 140737488355328) :
    ∃ nc, n + m ≤ nc ∧ (Builtin.append_ #[t, u] ty #[.slice b n c, x]).run P w =
      .ok (.slice (some ⟨w.heap.size, 0, none⟩) (n + m) nc) (w.drew.alloc (.cells (olds.toArray ++ news.toArray ++ Builtin.zeroCells (zval k).cells (nc - (n + m))) e)) := by
  obtain ⟨hu, he, _, i, hi, hby, hpos⟩ := ht.sl
  obtain ⟨i', hi', hs', hz'⟩ := he.info
  rw [hi] at hi'
  simp only [Option.some.injEq] at hi'
  subst hi'
  have e1 := hs.len w
  have e2 := hs.cells.2
  have h2 : ¬ (281474976710656 < Builtin.nextslicecap (n + m) c * i.bytes) := by
    have := growslice_fits (need := n + m) (old := c) (bytes := i.bytes) (by omega) (by rw [hby]; exact hb)
    omega
  have h3 : i.bytes ≠ 0 := by omega
  refine ⟨grownCap w (n + m) c e, grownCap_ge w (n + m) c e, ?_⟩
  rw [← hs'] at hold e2
  rcases hs.und with ⟨e', hd⟩ | hd
  · simp [Builtin.append_, run_underlying hu, run_underlying hd, sizeOf, typeInfo, zeroValue, hi, hz', e1, hr, h2, h3, Question.forced, hold, e2, newRow, grownCap]
    congr 2
    apply Array.ext'
    simp [List.append_assoc]
  · simp [Builtin.append_, run_underlying hu, run_underlying hd, sizeOf, typeInfo, zeroValue, hi, hz', e1, hr, h2, h3, Question.forced, hold, e2, newRow, grownCap]
    congr 2
    apply Array.ext'
    simp [List.append_assoc]

end
end Go.Proofs.YtcelknaomealbaaDoor.Ow
