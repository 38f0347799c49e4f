/- strings.FieldsFunc, as a function that is known by its contract. -/
import Derived.Test.YtcelknaomealbaaDoorOwF
import Derived.Shelf.Strings.FieldsFuncGrows
import Derived.Lib.SpaceUEq
import Derived.Lib.MapLaws
import Derived.Lib.DecodeN
set_option linter.unusedSectionVars false
set_option linter.unusedVariables false
set_option linter.unusedSimpArgs false
namespace Go.Proofs.YtcelknaomealbaaDoor.FieldsLib
open Go Go.Proofs.YtcelknaomealbaaDoor.Ow Go.RowKit

section
variable [Fr] {P : Program} {W : World}

/-- What a call over arguments that are only read gives, where it gives a truth. -/
theorem bool_call (hfr : ∀ b, Fr.free b → b < W.heap.size ∧ hp W b = Fr.obj b) {f : FuncId} {ps : List PSh} {F : Nat → Cont (kin ps) → Option (Cont (kres [.val .bool [] []] ++ kout ps))} {n : Nat} (hE : EntryOk P n ⟨f, ps, [.val .bool [] []], F⟩)
    {c : Cont (kin ps)} {out : Cont (kres [.val .bool [] []] ++ kout ps)} (hF : F n c = some out) {args : Array Value} (hV : ValL W ps c args.toList) (hcall : (callFunc f args).run P W = .ok (.enter f args) W) :
    Calls P f args W fun e W' => e = .returned (.bool out.1) ∧ Below W.heap.size W W' := by
  have h := hE c out hF (lawCx W) noAsg args W rfl rfl (by rw [← Array.length_toList, (hV.roots (i := 0)).2]) ⟨fun j pi h => by simp [lawCx] at h, fun j p ts v h => h.elim, fun j v h => h.elim⟩ (lawRel hfr hV)
  rcases h with ⟨_, h⟩ | ⟨v, w', h, _⟩
  · refine h.mono ?_
    rintro e W' ⟨v, rfl, σ, α, F', a, vs, fos, H, rfl, hR, _⟩
    refine ⟨?_, H.frame.1, H.frame.2.1, H.frame.2.2.1, H.frame.2.2.2.1, fun b hb => H.frame.2.2.2.2.1 b hb (fun j pi h => by simp [lawCx] at h)⟩
    cases vs with
    | nil => exact hR.elim
    | cons v vs =>
      cases fos with
      | nil => exact hR.elim
      | cons fo fos =>
        obtain ⟨⟨_, T, cs, _, hv, hw⟩, hr⟩ := hR
        cases vs with
        | cons _ _ => exact hr.elim
        | nil =>
          obtain ⟨e1, _⟩ := hv
          have e2 : cs = [.bool out.1] := hw
          rw [e1] at e2
          simp only [List.cons.injEq, and_true] at e2
          subst e2
          rfl
  · rw [hcall] at h
    simp at h
end

/-- A predicate on characters. -/
theorem pred_of {P : Program} {g : FuncId} {F : Nat → Cont (kin [.val (.int .i32) []]) → Option (Cont (kres [.val .bool [] []] ++ kout [.val (.int .i32) []]))} {n : Nat} {p : Nat → Bool}
    (hE : ∀ [Fr], EntryOk P n ⟨g, [.val (.int .i32) []], [.val .bool [] []], F⟩) (hF : ∀ x : Nat, F n ((x : Int), ()) = some (p x, ())) (hcall : ∀ args w, (callFunc g args).run P w = .ok (.enter g args) w) (w : World) : Go.Proofs.PredGrows P g #[] p w := by
  intro W x hx _
  letI : Fr := ⟨fun _ => False, fun _ => none⟩
  have h := bool_call (P := P) (W := W) (fun b h => False.elim h) (hE) (c := ((x : Int), ())) (hF x) (args := #[.int .i32 x]) ⟨⟨[.int .i32 x], ⟨rfl, by simp⟩, rfl, trivial⟩, trivial⟩ (hcall _ _)
  exact h

def baOf (s : List Int) : ByteArray := ⟨(s.map fun n => UInt8.ofNat n.toNat).toArray⟩
theorem baOf_bytes (B : ByteArray) : baOf (bytesOf B) = B := by
  unfold baOf bytesOf
  obtain ⟨d⟩ := B
  congr 1
  apply Array.ext'
  show (List.map _ (List.map _ d.toList)) = d.toList
  rw [List.map_map]
  conv => rhs; rw [← List.map_id d.toList]
  refine List.map_congr_left fun x _ => ?_
  show UInt8.ofNat ((x.toNat : Int)).toNat = x
  rw [Int.toNat_natCast]
  exact UInt8.ofNat_toNat

theorem bytes_baOf {s : List Int} (h : ∀ b ∈ s, 0 ≤ b ∧ b < 256) : bytesOf (baOf s) = s := by
  unfold bytesOf baOf
  show List.map _ (List.map _ s) = s
  rw [List.map_map]
  conv => rhs; rw [← List.map_id s]
  refine List.map_congr_left fun x hx => ?_
  obtain ⟨h1, h2⟩ := h x hx
  show ((UInt8.ofNat x.toNat).toNat : Int) = x
  have : (UInt8.ofNat x.toNat).toNat = x.toNat := by
    show x.toNat % 256 = _
    omega
  rw [this]
  omega

def fieldsL (p : Nat → Bool) (s : List Int) : List (List Int) := (Go.Lib.goFieldsP p (baOf s)).map bytesOf

theorem bytesOf_len (B : ByteArray) : (bytesOf B).length = B.size := by
  unfold bytesOf
  rw [List.length_map]
  rfl

/-- The entry of a call of FieldsFunc. -/
theorem fields_entry [Fr] {P : Program} {n : Nat} {f g : FuncId} {t : TypeId} {p : Nat → Bool}
    (hC : ∀ (s : ByteArray) (w : World), s.size ≤ 4294967296 → Go.Proofs.PredGrows P g #[] p w → Calls P f #[.string s, .func (.func g) #[] #[]] w fun e w' => ∃ A, e = .returned (.slice (some ⟨A, 0, none⟩) (Go.Lib.goFieldsP p s).length (Go.Lib.goFieldsP p s).length) ∧ w.heap.size ≤ A ∧
      w'.ownsRow w.heap.size t 1 (.slice (some ⟨A, 0, none⟩) (Go.Lib.goFieldsP p s).length (Go.Lib.goFieldsP p s).length) (Go.Lib.goFieldsP p s).length ((Go.Lib.goFieldsP p s).map Value.string) ∧ Below w.heap.size w w')
    (hcall : ∀ args w, (callFunc f args).run P w = .ok (.enter f args) w) (hp : ∀ w, Go.Proofs.PredGrows P g #[] p w) :
    EntryOk P n ⟨f, [.val .str [], .fn g []], [.own (.sl t .str) [t] [] []], fun _ c => if (show List Int from c.1).length ≤ 1048576 then some (fieldsL p c.1, ()) else none⟩ := by
  refine contract_own (k := .str) rfl rfl ?_
  intro c out hout args w _ hA
  have hlen : (show List Int from c.1).length ≤ 1048576 ∧ out = (fieldsL p c.1, ()) := by
    split at hout
    · rename_i h; exact ⟨h, (Option.some.inj hout).symm⟩
    · simp at hout
  obtain ⟨hl, rfl⟩ := hlen
  obtain ⟨a⟩ := args
  match a, hA with
  | [v1, v2], ⟨⟨cs, h1, h2⟩, hv2, _⟩ =>
    subst hv2
    obtain ⟨B, rfl, hB⟩ := h2
    obtain ⟨e1, _⟩ := h1
    simp only [List.cons.injEq, and_true] at e1
    subst e1
    have hsz : B.size ≤ 1048576 := by
      have : (show List Int from c.1).length = B.size := by rw [hB, bytesOf_len]
      omega
    refine .inl ⟨hcall _ _, (hC B w (by omega) (hp w)).mono ?_⟩
    rintro e w' ⟨A, rfl, hA1, hown, hb⟩
    refine ⟨_, rfl, ⟨hb.os, hb.output, hb.size, fun b hb' => hb.block b hb'⟩, hb.tape, ?_⟩
    have hx : fieldsL p c.1 = (Go.Lib.goFieldsP p B).map bytesOf := by
      have e : baOf c.1 = B := (congrArg baOf hB).trans (baOf_bytes B)
      unfold fieldsL
      rw [e]
    obtain ⟨hl0, hown⟩ := hown
    rcases hown with ⟨he, _⟩ | ⟨gg, cap, cur, he, hg1, hg2, hg3, hg4, hg5, hg6⟩
    · simp at he
    · simp only [Value.slice.injEq, Option.some.injEq, Addr.mk.injEq, and_true, true_and] at he
      obtain ⟨rfl, rfl⟩ := he
      have hlx : (fieldsL p c.1).length = (Go.Lib.goFieldsP p B).length := by rw [hx, List.length_map]
      refine .inr ⟨A, (Go.Lib.goFieldsP p B).length, cur, by rw [show (fieldsL p c.1, ()).1.length = (fieldsL p c.1).length from rfl, hlx], hA1, hg2, Nat.le_of_eq hlx, by show _ * 1 ≤ _; omega, fun i hi => ?_⟩
      have hi' : i < (Go.Lib.goFieldsP p B).length := by
        have : i < (fieldsL p c.1).length := hi
        rw [hx] at this
        simpa using this
      refine ⟨[.string ((Go.Lib.goFieldsP p B)[i])], ?_, ?_⟩
      · intro j hj
        have hj0 : j = 0 := by simpa using hj
        subst hj0
        unfold cellAt Ow.hp
        rw [hg2]
        have h6 : cur.toList[i]? = some (.string ((Go.Lib.goFieldsP p B)[i])) := by
          have := congrArg (fun l => l[i]?) hg6
          simp only [List.getElem?_map, List.getElem?_eq_getElem hi', Option.map_some] at this
          rw [List.getElem?_take_of_lt (by omega)] at this
          exact this
        simpa [K.size] using h6
      · refine ⟨_, rfl, ?_⟩
        have : (fieldsL p c.1)[i]'hi = bytesOf ((Go.Lib.goFieldsP p B)[i]) := by simp [hx]
        exact this

/-! ### At the character 32 -/
def fb : List Int → List Int → List (List Int)
  | [], cur => if cur = [] then [] else [cur]
  | b :: l, cur => if b = 32 then (if cur = [] then fb l [] else cur :: fb l []) else fb l (cur ++ [b])

theorem fb_skip : ∀ (xs l cur : List Int), (∀ x ∈ xs, x ≠ 32) → fb (xs ++ l) cur = fb l (cur ++ xs)
  | [], l, cur, _ => by simp
  | x :: xs, l, cur, h => by
    simp only [List.cons_append, fb]
    rw [if_neg (h x (by simp)), fb_skip xs l (cur ++ [x]) (fun y hy => h y (by simp [hy]))]
    simp

def is32 (x : Nat) : Bool := decide (x = 32)

theorem bytesOf_get (s : ByteArray) (i : Nat) (h : i < s.size) : (bytesOf s)[i]? = some ((s.get! i).toNat : Int) := by
  have hi : i < s.data.size := h
  have e : s.get! i = s.data[i] := by
    show s.data[i]! = _
    exact getElem!_pos s.data i hi
  rw [e]
  unfold bytesOf
  rw [List.getElem?_map, Array.getElem?_toList, Array.getElem?_eq_getElem hi]
  rfl

theorem extract_bytes (s : ByteArray) (a b : Nat) : bytesOf (s.extract a b) = ((bytesOf s).take b).drop a := by
  unfold bytesOf
  simp [List.map_drop, List.map_take, List.extract_eq_take_drop, List.take_drop]
  by_cases h : a ≤ b
  · rw [show a + (b - a) = b by omega]
  · rw [show b - a = 0 by omega]
    simp
    omega

/-- One character: the space by itself, or bytes none of which is a space. -/
theorem step32 (s : ByteArray) (pos : Nat) (h : pos < s.size) :
    ((s.get! pos).toNat = 32 ∧ Utf8.decode s pos = (32, 1)) ∨
    ((Utf8.decode s pos).1 ≠ 32 ∧ 1 ≤ (Utf8.decode s pos).2 ∧ pos + (Utf8.decode s pos).2 ≤ s.size ∧ ∀ j, j < (Utf8.decode s pos).2 → (s.get! (pos + j)).toNat ≠ 32) := by
  rw [Go.Lib.decode_at]
  rcases Go.Lib.decodeN_shape (s.size - pos) (s.get! pos).toNat (s.get! (pos + 1)).toNat (s.get! (pos + 2)).toNat (s.get! (pos + 3)).toNat with ⟨h1, h2⟩ | ⟨h1, h2, h3, h4, h5⟩ | ⟨h1, h2, h3, h4, h5, _, h6⟩ | ⟨h1, h2, h3, h4, h5, h6, _, h7⟩ | h2
  · rw [h2]
    by_cases e : (s.get! pos).toNat = 32
    · exact .inl ⟨e, by rw [e]⟩
    · refine .inr ⟨e, Nat.le_refl _, by simp only; omega, fun j hj => ?_⟩
      have : j = 0 := by simp only at hj; omega
      subst this
      exact e
  · rw [h5]
    refine .inr ⟨by simp only; omega, by simp only; omega, by simp only; omega, fun j hj => ?_⟩
    simp only at hj
    rcases (by omega : j = 0 ∨ j = 1) with e | e <;> subst e
    · rw [Nat.add_zero]; omega
    · omega
  · rw [h6]
    refine .inr ⟨by simp only; omega, by simp only; omega, by simp only; omega, fun j hj => ?_⟩
    simp only at hj
    rcases (by omega : j = 0 ∨ j = 1 ∨ j = 2) with e | e | e <;> subst e
    · rw [Nat.add_zero]; omega
    · omega
    · omega
  · rw [h7]
    refine .inr ⟨by simp only; omega, by simp only; omega, by simp only; omega, fun j hj => ?_⟩
    simp only at hj
    rcases (by omega : j = 0 ∨ j = 1 ∨ j = 2 ∨ j = 3) with e | e | e | e <;> subst e
    · rw [Nat.add_zero]; omega
    · omega
    · omega
    · omega
  · rw [h2]
    by_cases hb : (s.get! pos).toNat < 128
    · exfalso
      unfold Go.Lib.decodeN at h2
      rw [if_pos hb] at h2
      simp only [Prod.mk.injEq] at h2
      omega
    · refine .inr ⟨by simp, by simp, by simp only; omega, fun j hj => ?_⟩
      have : j = 0 := by simp only at hj; omega
      subst this
      rw [Nat.add_zero]
      omega

/-- The word that is open. -/
def openW (s : ByteArray) (pos : Nat) : Option Nat → List Int
  | none => []
  | some a => ((bytesOf s).take pos).drop a

theorem drop_split (L : List Int) (pos w : Nat) : L.drop pos = ((L.take (pos + w)).drop pos) ++ L.drop (pos + w) := by
  rw [List.drop_take]
  rw [show pos + w - pos = w by omega]
  rw [← List.drop_drop]
  exact (List.take_append_drop w (L.drop pos)).symm

theorem take_mid (L : List Int) (a pos w : Nat) (h : a ≤ pos) : (L.take (pos + w)).drop a = (L.take pos).drop a ++ (L.take (pos + w)).drop pos := by
  have : L.take (pos + w) = L.take pos ++ (L.take (pos + w)).drop pos := by
    have h1 := (List.take_append_drop pos (L.take (pos + w))).symm
    rw [List.take_take, Nat.min_eq_left (by omega)] at h1
    exact h1
  by_cases hl : pos ≤ L.length
  · conv => lhs; rw [this]
    rw [List.drop_append_of_le_length (by rw [List.length_take]; omega)]
  · rw [List.take_of_length_le (by omega), List.take_of_length_le (by omega), List.drop_eq_nil_of_le (show L.length ≤ pos by omega)]
    simp

theorem spans_fb (s : ByteArray) : ∀ (f pos : Nat) (st : Option Nat) (acc : List (Nat × Nat)), s.size ≤ pos + f → pos ≤ s.size → (∀ a, st = some a → a < pos) →
    (Go.Lib.closeSpans s (Go.Lib.spansFromP is32 s f pos st acc)).map (fun x => bytesOf (s.extract x.1 x.2)) = acc.map (fun x => bytesOf (s.extract x.1 x.2)) ++ fb ((bytesOf s).drop pos) (openW s pos st) := by
  have hend : ∀ (pos : Nat) (st : Option Nat) (acc : List (Nat × Nat)), pos = s.size → (∀ a, st = some a → a < pos) →
      (Go.Lib.closeSpans s (acc, st)).map (fun x => bytesOf (s.extract x.1 x.2)) = acc.map (fun x => bytesOf (s.extract x.1 x.2)) ++ fb ((bytesOf s).drop pos) (openW s pos st) := by
    intro pos st acc e hst
    subst e
    rw [List.drop_eq_nil_of_le (by rw [bytesOf_len]; exact Nat.le_refl _)]
    cases st with
    | none => simp [Go.Lib.closeSpans, fb, openW]
    | some a =>
      have ha := hst a rfl
      have hne : openW s s.size (some a) ≠ [] := by
        intro h
        have := congrArg List.length h
        simp [openW, bytesOf_len] at this
        omega
      simp only [Go.Lib.closeSpans, fb, if_neg hne, List.map_append, List.map_cons, List.map_nil, extract_bytes]
      rfl
  intro f
  induction f with
  | zero => intro pos st acc hf hp hst; exact hend pos st acc (by omega) hst
  | succ f ih =>
    intro pos st acc hf hp hst
    unfold Go.Lib.spansFromP
    by_cases hlt : pos < s.size
    · rw [if_pos hlt]
      rcases step32 s pos hlt with ⟨h1, h2⟩ | ⟨h1, h2, h3, h4⟩
      · have hd : (bytesOf s).drop pos = (32 : Int) :: (bytesOf s).drop (pos + 1) := by
          have hg := bytesOf_get s pos hlt
          rw [h1] at hg
          have hl : pos < (bytesOf s).length := by rw [bytesOf_len]; exact hlt
          rw [List.getElem?_eq_getElem hl] at hg
          rw [List.drop_eq_getElem_cons hl, Option.some.inj hg]
          rfl
        rw [h2]
        simp only [is32, decide_true, if_true]
        cases st with
        | none =>
          simp only
          rw [ih (pos + 1) none acc (by omega) (by omega) (fun a h => by simp at h), hd]
          simp [fb, openW]
        | some a =>
          have ha := hst a rfl
          simp only
          rw [ih (pos + 1) none (acc ++ [(a, pos)]) (by omega) (by omega) (fun a h => by simp at h), hd]
          have hne : openW s pos (some a) ≠ [] := by
            intro h
            have := congrArg List.length h
            simp [openW, bytesOf_len] at this
            omega
          simp only [fb, if_true, if_neg hne, List.map_append, List.map_cons, List.map_nil, List.append_assoc, List.singleton_append, extract_bytes]
          rfl
      · have hp32 : is32 (Utf8.decode s pos).1 = false := by simp [is32, h1]
        simp only [hp32, Bool.false_eq_true, if_false]
        generalize (Utf8.decode s pos).2 = w at h2 h3 h4
        have hall : ∀ x ∈ ((bytesOf s).take (pos + w)).drop pos, x ≠ 32 := by
          intro x hx
          obtain ⟨i, hi, rfl⟩ := List.mem_iff_getElem.1 hx
          have hi' : i < w := by
            simp only [List.length_drop, List.length_take, bytesOf_len] at hi
            omega
          have hg := bytesOf_get s (pos + i) (by omega)
          have e : (((bytesOf s).take (pos + w)).drop pos)[i]? = some ((s.get! (pos + i)).toNat : Int) := by
            rw [List.getElem?_drop, List.getElem?_take_of_lt (by omega)]
            exact hg
          rw [List.getElem?_eq_getElem hi] at e
          rw [Option.some.inj e]
          have := h4 i hi'
          omega
        have key : ∀ a, a ≤ pos → ∀ cur, cur = ((bytesOf s).take pos).drop a → fb ((bytesOf s).drop pos) cur = fb ((bytesOf s).drop (pos + w)) (((bytesOf s).take (pos + w)).drop a) := by
          intro a ha cur hc
          rw [drop_split (bytesOf s) pos w, fb_skip _ _ _ hall, hc, take_mid _ a pos w ha]
        cases st with
        | none =>
          simp only
          rw [ih (pos + w) (some pos) acc (by omega) h3 (fun a h => by simp only [Option.some.injEq] at h; omega)]
          congr 1
          refine (key pos (Nat.le_refl _) _ ?_).symm
          simp only [openW]
          rw [List.drop_eq_nil_of_le (by rw [List.length_take]; omega)]
        | some a =>
          simp only
          rw [ih (pos + w) (some a) acc (by omega) h3 (fun a' h => by have := hst a' h; omega)]
          congr 1
          exact (key a (Nat.le_of_lt (hst a rfl)) _ rfl).symm
    · rw [if_neg hlt]
      exact hend pos st acc (by omega) hst

/-- The words of a text, as a plain function of its bytes. -/
theorem fields32 (B : ByteArray) : (Go.Lib.goFieldsP is32 B).map bytesOf = fb (bytesOf B) [] := by
  unfold Go.Lib.goFieldsP Go.Lib.spansOfP
  rw [List.map_map]
  have := spans_fb B B.size 0 none [] (by omega) (Nat.zero_le _) (fun a h => by simp at h)
  simpa [openW, Function.comp_def] using this

end Go.Proofs.YtcelknaomealbaaDoor.FieldsLib
