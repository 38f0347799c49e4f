/- What the functions of this law compute, as plain functions, and that the reading comes to them. No condition. -/
import Derived.Test.YtcelknaomealbaaProg
import Derived.Test.YtcelknaomealbaaOwF
import Derived.Test.YtcelknaomealbaaFieldsLib
import Derived.KernelRfl
set_option linter.unusedSectionVars false
set_option linter.unusedVariables false
set_option linter.unusedSimpArgs false
namespace Go.Proofs.Ytcelknaomealbaa.WordsF
open Go Go.Proofs.Ytcelknaomealbaa Go.Proofs.Ytcelknaomealbaa.Ow
def tyL : TyL := ⟨[(2, (.int .i64)), (3, (.int .i64)), (4, .bool), (5, (.int .u8)), (6, (.int .u8)), (7, (.st (.pair (.int .i64) (.pair (.int .i64) (.pair .bool (.pair (.int .u8) .unit)))))), (8, (.st (.pair (.int .i64) (.pair (.int .i64) (.pair .bool (.pair (.int .u8) .unit)))))), (9, .str), (10, .str), (11, .str), (12, (.int .u64)), (13, (.st (.pair .str (.pair (.int .u64) .unit)))), (14, (.st (.pair .str (.pair (.int .u64) .unit)))), (21, (.int .i32)), (22, (.sl 9 .str)), (23, (.st (.pair (.int .i64) (.pair (.sl 9 .str) .unit)))), (24, (.st (.pair (.int .i64) (.pair (.sl 9 .str) .unit)))), (29, (.sl 116 (.st (.pair .str (.pair (.int .i64) (.pair (.int .i64) (.pair (.sl 158 (.st (.pair (.int .i64) (.pair (.int .i64) (.pair (.int .i64) (.pair (.sl 5 (.int .u8)) .unit)))))) .unit))))))), (30, (.st (.pair (.int .i64) (.pair (.sl 116 (.st (.pair .str (.pair (.int .i64) (.pair (.int .i64) (.pair (.sl 158 (.st (.pair (.int .i64) (.pair (.int .i64) (.pair (.int .i64) (.pair (.sl 5 (.int .u8)) .unit)))))) .unit)))))) .unit)))), (31, (.st (.pair (.int .i64) (.pair (.sl 116 (.st (.pair .str (.pair (.int .i64) (.pair (.int .i64) (.pair (.sl 158 (.st (.pair (.int .i64) (.pair (.int .i64) (.pair (.int .i64) (.pair (.sl 5 (.int .u8)) .unit)))))) .unit)))))) .unit)))), (33, (.st (.pair (.int .i64) (.pair (.int .i64) .unit)))), (34, (.st (.pair (.int .i64) (.pair (.int .i64) .unit)))), (36, (.sl 65 (.st (.pair .str (.pair (.int .i64) (.pair (.int .i64) (.pair (.sl 70 (.st (.pair (.int .i64) (.pair (.int .i64) (.pair (.int .i64) (.pair (.sl 5 (.int .u8)) .unit)))))) .unit))))))), (37, (.st (.pair (.int .i64) (.pair (.sl 65 (.st (.pair .str (.pair (.int .i64) (.pair (.int .i64) (.pair (.sl 70 (.st (.pair (.int .i64) (.pair (.int .i64) (.pair (.int .i64) (.pair (.sl 5 (.int .u8)) .unit)))))) .unit)))))) .unit)))), (38, (.st (.pair (.int .i64) (.pair (.sl 65 (.st (.pair .str (.pair (.int .i64) (.pair (.int .i64) (.pair (.sl 70 (.st (.pair (.int .i64) (.pair (.int .i64) (.pair (.int .i64) (.pair (.sl 5 (.int .u8)) .unit)))))) .unit)))))) .unit)))), (43, (.sl 5 (.int .u8))), (44, (.st (.pair .bool (.pair (.sl 5 (.int .u8)) (.pair (.sl 5 (.int .u8)) (.pair (.st (.pair (.int .i64) (.pair (.sl 65 (.st (.pair .str (.pair (.int .i64) (.pair (.int .i64) (.pair (.sl 70 (.st (.pair (.int .i64) (.pair (.int .i64) (.pair (.int .i64) (.pair (.sl 5 (.int .u8)) .unit)))))) .unit)))))) .unit))) .unit)))))), (45, (.st (.pair .bool (.pair (.sl 5 (.int .u8)) (.pair (.sl 5 (.int .u8)) (.pair (.st (.pair (.int .i64) (.pair (.sl 65 (.st (.pair .str (.pair (.int .i64) (.pair (.int .i64) (.pair (.sl 70 (.st (.pair (.int .i64) (.pair (.int .i64) (.pair (.int .i64) (.pair (.sl 5 (.int .u8)) .unit)))))) .unit)))))) .unit))) .unit)))))), (46, (.sl 92 (.st (.pair .str (.pair (.int .i64) (.pair (.sl 2 (.int .i64)) (.pair (.int .i64) .unit))))))), (47, (.st (.pair (.st (.pair .bool (.pair (.sl 5 (.int .u8)) (.pair (.sl 5 (.int .u8)) (.pair (.st (.pair (.int .i64) (.pair (.sl 65 (.st (.pair .str (.pair (.int .i64) (.pair (.int .i64) (.pair (.sl 70 (.st (.pair (.int .i64) (.pair (.int .i64) (.pair (.int .i64) (.pair (.sl 5 (.int .u8)) .unit)))))) .unit)))))) .unit))) .unit))))) (.pair (.sl 92 (.st (.pair .str (.pair (.int .i64) (.pair (.sl 2 (.int .i64)) (.pair (.int .i64) .unit)))))) .unit)))), (48, (.st (.pair (.st (.pair .bool (.pair (.sl 5 (.int .u8)) (.pair (.sl 5 (.int .u8)) (.pair (.st (.pair (.int .i64) (.pair (.sl 65 (.st (.pair .str (.pair (.int .i64) (.pair (.int .i64) (.pair (.sl 70 (.st (.pair (.int .i64) (.pair (.int .i64) (.pair (.int .i64) (.pair (.sl 5 (.int .u8)) .unit)))))) .unit)))))) .unit))) .unit))))) (.pair (.sl 92 (.st (.pair .str (.pair (.int .i64) (.pair (.sl 2 (.int .i64)) (.pair (.int .i64) .unit)))))) .unit)))), (49, (.st (.pair (.int .i64) (.pair (.sl 9 .str) (.pair (.st (.pair (.st (.pair .bool (.pair (.sl 5 (.int .u8)) (.pair (.sl 5 (.int .u8)) (.pair (.st (.pair (.int .i64) (.pair (.sl 65 (.st (.pair .str (.pair (.int .i64) (.pair (.int .i64) (.pair (.sl 70 (.st (.pair (.int .i64) (.pair (.int .i64) (.pair (.int .i64) (.pair (.sl 5 (.int .u8)) .unit)))))) .unit)))))) .unit))) .unit))))) (.pair (.sl 92 (.st (.pair .str (.pair (.int .i64) (.pair (.sl 2 (.int .i64)) (.pair (.int .i64) .unit)))))) .unit))) .unit))))), (50, (.st (.pair (.int .i64) (.pair (.sl 9 .str) (.pair (.st (.pair (.st (.pair .bool (.pair (.sl 5 (.int .u8)) (.pair (.sl 5 (.int .u8)) (.pair (.st (.pair (.int .i64) (.pair (.sl 65 (.st (.pair .str (.pair (.int .i64) (.pair (.int .i64) (.pair (.sl 70 (.st (.pair (.int .i64) (.pair (.int .i64) (.pair (.int .i64) (.pair (.sl 5 (.int .u8)) .unit)))))) .unit)))))) .unit))) .unit))))) (.pair (.sl 92 (.st (.pair .str (.pair (.int .i64) (.pair (.sl 2 (.int .i64)) (.pair (.int .i64) .unit)))))) .unit))) .unit))))), (58, (.st (.pair (.int .i64) (.pair .str .unit)))), (59, (.st (.pair (.int .i64) (.pair .str .unit)))), (63, (.sl 70 (.st (.pair (.int .i64) (.pair (.int .i64) (.pair (.int .i64) (.pair (.sl 5 (.int .u8)) .unit))))))), (64, (.st (.pair .str (.pair (.int .i64) (.pair (.int .i64) (.pair (.sl 70 (.st (.pair (.int .i64) (.pair (.int .i64) (.pair (.int .i64) (.pair (.sl 5 (.int .u8)) .unit)))))) .unit)))))), (65, (.st (.pair .str (.pair (.int .i64) (.pair (.int .i64) (.pair (.sl 70 (.st (.pair (.int .i64) (.pair (.int .i64) (.pair (.int .i64) (.pair (.sl 5 (.int .u8)) .unit)))))) .unit)))))), (69, (.st (.pair (.int .i64) (.pair (.int .i64) (.pair (.int .i64) (.pair (.sl 5 (.int .u8)) .unit)))))), (70, (.st (.pair (.int .i64) (.pair (.int .i64) (.pair (.int .i64) (.pair (.sl 5 (.int .u8)) .unit)))))), (87, (.sl 2 (.int .i64))), (88, (.st (.pair (.int .i64) (.pair (.sl 2 (.int .i64)) (.pair (.st (.pair .bool (.pair (.sl 5 (.int .u8)) (.pair (.sl 5 (.int .u8)) (.pair (.st (.pair (.int .i64) (.pair (.sl 65 (.st (.pair .str (.pair (.int .i64) (.pair (.int .i64) (.pair (.sl 70 (.st (.pair (.int .i64) (.pair (.int .i64) (.pair (.int .i64) (.pair (.sl 5 (.int .u8)) .unit)))))) .unit)))))) .unit))) .unit))))) .unit))))), (89, (.st (.pair (.int .i64) (.pair (.sl 2 (.int .i64)) (.pair (.st (.pair .bool (.pair (.sl 5 (.int .u8)) (.pair (.sl 5 (.int .u8)) (.pair (.st (.pair (.int .i64) (.pair (.sl 65 (.st (.pair .str (.pair (.int .i64) (.pair (.int .i64) (.pair (.sl 70 (.st (.pair (.int .i64) (.pair (.int .i64) (.pair (.int .i64) (.pair (.sl 5 (.int .u8)) .unit)))))) .unit)))))) .unit))) .unit))))) .unit))))), (91, (.st (.pair .str (.pair (.int .i64) (.pair (.sl 2 (.int .i64)) (.pair (.int .i64) .unit)))))), (92, (.st (.pair .str (.pair (.int .i64) (.pair (.sl 2 (.int .i64)) (.pair (.int .i64) .unit)))))), (109, (.sl 111 (.st (.pair (.int .i64) (.pair (.int .i64) .unit))))), (110, (.st (.pair (.int .i64) (.pair (.int .i64) .unit)))), (111, (.st (.pair (.int .i64) (.pair (.int .i64) .unit)))), (114, (.sl 158 (.st (.pair (.int .i64) (.pair (.int .i64) (.pair (.int .i64) (.pair (.sl 5 (.int .u8)) .unit))))))), (115, (.st (.pair .str (.pair (.int .i64) (.pair (.int .i64) (.pair (.sl 158 (.st (.pair (.int .i64) (.pair (.int .i64) (.pair (.int .i64) (.pair (.sl 5 (.int .u8)) .unit)))))) .unit)))))), (116, (.st (.pair .str (.pair (.int .i64) (.pair (.int .i64) (.pair (.sl 158 (.st (.pair (.int .i64) (.pair (.int .i64) (.pair (.int .i64) (.pair (.sl 5 (.int .u8)) .unit)))))) .unit)))))), (127, (.st (.pair (.sl 5 (.int .u8)) (.pair (.int .i64) .unit)))), (128, (.st (.pair (.sl 5 (.int .u8)) (.pair (.int .i64) .unit)))), (129, (.int .u64)), (158, (.st (.pair (.int .i64) (.pair (.int .i64) (.pair (.int .i64) (.pair (.sl 5 (.int .u8)) .unit)))))), (165, (.sl 43 (.sl 5 (.int .u8)))), (190, (.int .u32)), (191, (.int .u8)), (192, (.int .u8)), (194, (.int .i32)), (195, (.int .i32))], [(2, 8), (3, 8), (4, 1), (5, 1), (6, 1), (7, 24), (8, 24), (9, 16), (10, 16), (11, 16), (12, 8), (13, 24), (14, 24), (21, 4), (22, 24), (23, 32), (24, 32), (29, 24), (30, 32), (31, 32), (33, 16), (34, 16), (36, 24), (37, 32), (38, 32), (43, 24), (44, 88), (45, 88), (46, 24), (47, 112), (48, 112), (49, 144), (50, 144), (58, 24), (59, 24), (63, 24), (64, 56), (65, 56), (69, 48), (70, 48), (87, 24), (88, 120), (89, 120), (91, 56), (92, 56), (109, 24), (110, 16), (111, 16), (114, 24), (115, 56), (116, 56), (127, 32), (128, 32), (129, 8), (158, 48), (165, 24), (190, 4), (191, 1), (192, 1), (194, 4), (195, 4)], [15, 16, 17, 80, 96, 105, 137, 147, 163]⟩
def T : Tab := tyL.tab
theorem tabOk : tabChk Go.Proofs.Try.prog tyL = true := by kernel_rfl
theorem mixed : Go.Proofs.Try.prog.follows .mixedOrders = true := by kernel_rfl
/-- loop.example/g00447/spec.l11Cut -/
def F_spec_l11Cut (n : Nat) (a0 : List Int) (a1 : Int) : Option ((List (List Int)) × Unit) := (rounds (fun L1 (v1 : (List Int) × Int × Int × Int × (List (List Int)) × Unit) => (if decide (v1.2.2.2.1 ≤ (v1.1.length : Int)) = true then (if decide (v1.2.2.2.1 = (v1.1.length : Int)) = true then (if 0 ≤ v1.2.2.1 ∧ v1.2.2.1 ≤ v1.2.2.2.1 ∧ v1.2.2.2.1 ≤ (v1.1.length : Int) then (if (v1.2.2.2.2.1.length + [(v1.1.take v1.2.2.2.1.toNat).drop v1.2.2.1.toNat].length) * 16 ≤ 140737488355328 then L1 (v1.1, v1.2.1, IntKind.i64.wrap (v1.2.2.2.1 + (1 : Int)), IntKind.i64.wrap (v1.2.2.2.1 + (1 : Int)), v1.2.2.2.2.1 ++ [(v1.1.take v1.2.2.2.1.toNat).drop v1.2.2.1.toNat], ()) else none) else none) else (if inLen v1.2.2.2.1 v1.1.length then (if decide ((v1.1.getD v1.2.2.2.1.toNat 0) = v1.2.1) = true then (if 0 ≤ v1.2.2.1 ∧ v1.2.2.1 ≤ v1.2.2.2.1 ∧ v1.2.2.2.1 ≤ (v1.1.length : Int) then (if (v1.2.2.2.2.1.length + [(v1.1.take v1.2.2.2.1.toNat).drop v1.2.2.1.toNat].length) * 16 ≤ 140737488355328 then L1 (v1.1, v1.2.1, IntKind.i64.wrap (v1.2.2.2.1 + (1 : Int)), IntKind.i64.wrap (v1.2.2.2.1 + (1 : Int)), v1.2.2.2.2.1 ++ [(v1.1.take v1.2.2.2.1.toNat).drop v1.2.2.1.toNat], ()) else none) else none) else L1 (v1.1, v1.2.1, v1.2.2.1, IntKind.i64.wrap (v1.2.2.2.1 + (1 : Int)), v1.2.2.2.2.1, ())) else none)) else some (v1.2.2.2.2.1, ()))) n (a0, a1, (0 : Int), (0 : Int), ([] : List (List Int)), ()))
def ps_spec_l11Cut : List PSh := [.val .str [], .val (.int .u8) []]
def rs_spec_l11Cut : List RSh := [.own (.sl 9 .str) [9] [] []]
def E_spec_l11Cut : Entry := ⟨71, ps_spec_l11Cut, rs_spec_l11Cut, fun n (c : Cont (kin ps_spec_l11Cut)) => F_spec_l11Cut n c.1 c.2.1⟩
def H_spec_l11Cut : Hint := ⟨0, [], [(0, [0, 1, 5, 6, 7], [258])], [], [], [], []⟩
theorem D_spec_l11Cut : ∀ n (c : Cont (kin ps_spec_l11Cut)), denF T H_spec_l11Cut Go.Proofs.Try.f71 ps_spec_l11Cut rs_spec_l11Cut n c = E_spec_l11Cut.F n c := by intro n c; kernel_rfl
theorem K_spec_l11Cut [Fr] (n : Nat) : EntryOk Go.Proofs.Try.prog n E_spec_l11Cut := fn_entry mixed tabOk (E := E_spec_l11Cut) Go.Proofs.Try.func71 (by kernel_rfl) (hi := H_spec_l11Cut) ca_nil D_spec_l11Cut
/-- loop.example/g00447/spec.l16Words -/
def F_spec_l16Words (n : Nat) (a0 : List Int) : Option ((List (List Int)) × Unit) := ((F_spec_l11Cut n a0 (32 : Int)).bind fun r1 => (rounds (fun L2 (v2 : Int × (List (List Int)) × (List (List Int)) × Unit) => (if decide (v2.1 < (v2.2.2.1.length : Int)) = true then (if inLen v2.1 v2.2.2.1.length then (if (!decide ((v2.2.2.1.getD v2.1.toNat ([] : List Int)) = ([] : List Int))) = true then (if inLen v2.1 v2.2.2.1.length then (if (v2.2.1.length + [v2.2.2.1.getD v2.1.toNat ([] : List Int)].length) * 16 ≤ 140737488355328 then L2 (IntKind.i64.wrap (v2.1 + (1 : Int)), v2.2.1 ++ [v2.2.2.1.getD v2.1.toNat ([] : List Int)], v2.2.2.1, ()) else none) else none) else L2 (IntKind.i64.wrap (v2.1 + (1 : Int)), v2.2.1, v2.2.2.1, ())) else none) else some (v2.2.1, ()))) n ((0 : Int), ([] : List (List Int)), r1.1, ())))
def ps_spec_l16Words : List PSh := [.val .str []]
def rs_spec_l16Words : List RSh := [.own (.sl 9 .str) [9] [] []]
def E_spec_l16Words : Entry := ⟨36, ps_spec_l16Words, rs_spec_l16Words, fun n (c : Cont (kin ps_spec_l16Words)) => F_spec_l16Words n c.1⟩
def H_spec_l16Words : Hint := ⟨0, [], [(0, [3, 4, 5], [194, 258])], [], [(71, some 8, E_spec_l11Cut)], [], []⟩
theorem D_spec_l16Words : ∀ n (c : Cont (kin ps_spec_l16Words)), denF T H_spec_l16Words Go.Proofs.Try.f36 ps_spec_l16Words rs_spec_l16Words n c = E_spec_l16Words.F n c := by intro n c; kernel_rfl
theorem K_spec_l16Words [Fr] (n : Nat) : EntryOk Go.Proofs.Try.prog n E_spec_l16Words := fn_entry mixed tabOk (E := E_spec_l16Words) Go.Proofs.Try.func36 (by kernel_rfl) (hi := H_spec_l16Words) (ca_cons (K_spec_l11Cut n) ca_nil) D_spec_l16Words
/-- loop.example/g00447/spec.WordsOf -/
def F_spec_WordsOf (n : Nat) (a0 : List Int) : Option ((Int × (List (List Int)) × Unit) × Unit) := ((F_spec_l16Words n a0).bind fun r1 => some (((0 : Int), r1.1, ()), ()))
def ps_spec_WordsOf : List PSh := [.val .str []]
def rs_spec_WordsOf : List RSh := [.own (.st (.pair (.int .i64) (.pair (.sl 9 .str) .unit))) [9] [] []]
def E_spec_WordsOf : Entry := ⟨7, ps_spec_WordsOf, rs_spec_WordsOf, fun n (c : Cont (kin ps_spec_WordsOf)) => F_spec_WordsOf n c.1⟩
def H_spec_WordsOf : Hint := ⟨0, [], [], [], [(36, some 4, E_spec_l16Words)], [], []⟩
theorem D_spec_WordsOf : ∀ n (c : Cont (kin ps_spec_WordsOf)), denF T H_spec_WordsOf Go.Proofs.Try.f7 ps_spec_WordsOf rs_spec_WordsOf n c = E_spec_WordsOf.F n c := by intro n c; kernel_rfl
theorem K_spec_WordsOf [Fr] (n : Nat) : EntryOk Go.Proofs.Try.prog n E_spec_WordsOf := fn_entry mixed tabOk (E := E_spec_WordsOf) Go.Proofs.Try.func7 (by kernel_rfl) (hi := H_spec_WordsOf) (ca_cons (K_spec_l16Words n) ca_nil) D_spec_WordsOf
/-- loop.example/g00447/impl.WordsOf$1 -/
def F_impl_WordsOf_1 (n : Nat) (a0 : Int) : Option (Bool × Unit) := some (decide (a0 = (32 : Int)), ())
def ps_impl_WordsOf_1 : List PSh := [.val (.int .i32) []]
def rs_impl_WordsOf_1 : List RSh := [.val .bool [] []]
def E_impl_WordsOf_1 : Entry := ⟨38, ps_impl_WordsOf_1, rs_impl_WordsOf_1, fun n (c : Cont (kin ps_impl_WordsOf_1)) => F_impl_WordsOf_1 n c.1⟩
def H_impl_WordsOf_1 : Hint := ⟨0, [], [], [], [], [], []⟩
theorem D_impl_WordsOf_1 : ∀ n (c : Cont (kin ps_impl_WordsOf_1)), denF T H_impl_WordsOf_1 Go.Proofs.Try.f38 ps_impl_WordsOf_1 rs_impl_WordsOf_1 n c = E_impl_WordsOf_1.F n c := by intro n c; kernel_rfl
theorem K_impl_WordsOf_1 [Fr] (n : Nat) : EntryOk Go.Proofs.Try.prog n E_impl_WordsOf_1 := fn_entry mixed tabOk (E := E_impl_WordsOf_1) Go.Proofs.Try.func38 (by kernel_rfl) (hi := H_impl_WordsOf_1) ca_nil D_impl_WordsOf_1
def lays229_ren : Go.Shelf.Ren := ⟨fun | 229 => 37 | n => n, fun | 9 => 9 | 40 => 75 | 31 => 22 | 152 => 109 | 3 => 3 | 0 => 0 | 4 => 4 | 21 => 21 | 154 => 111 | n => n, fun | n => n⟩
theorem lays229 : Go.Proofs.Lays.n229 Try.prog lays229_ren := {
  mixed := by kernel_rfl
  f229 := Try.func37.trans (congrArg some (by kernel_rfl))
  t0 := Try.underlying0
  a0 := Try.isAgg0
  z0 := Try.sizeOf0
  v0 := Try.zeroValue0
  t3 := Try.underlying3
  a3 := Try.isAgg3
  z3 := Try.sizeOf3
  v3 := Try.zeroValue3
  t4 := Try.underlying4
  a4 := Try.isAgg4
  z4 := Try.sizeOf4
  v4 := Try.zeroValue4
  t9 := Try.underlying9
  a9 := Try.isAgg9
  z9 := Try.sizeOf9
  v9 := Try.zeroValue9
  t21 := Try.underlying21
  a21 := Try.isAgg21
  z21 := Try.sizeOf21
  v21 := Try.zeroValue21
  t31 := Try.underlying22
  a31 := Try.isAgg22
  z31 := Try.sizeOf22
  v31 := Try.zeroValue22
  t40 := Try.underlying75
  a40 := Try.isAgg75
  z40 := Try.sizeOf75
  v40 := Try.zeroValue75
  t152 := Try.underlying109
  a152 := Try.isAgg109
  z152 := Try.sizeOf109
  v152 := Try.zeroValue109
  t154 := Try.underlying111
  a154 := Try.isAgg111
  z154 := Try.sizeOf111
  v154 := Try.zeroValue111 }
open Go.Proofs Go.RowKit Go.Lib in
theorem strings_FieldsFunc_grows (g : Nat) (lb : Array Value) (eg : ∀ args w, (callFunc g args).run Try.prog w = .ok (.enter g args) w) (p : Nat → Bool) (s : ByteArray) (w : World) (hs : s.size ≤ 4294967296) (hp : PredGrows Try.prog g lb p w) :
    Calls Try.prog 37 #[.string s, .func (.func g) #[] lb] w fun e w' => ∃ A, e = .returned (.slice (some ⟨A, 0, none⟩) (Lib.goFieldsP p s).length (Lib.goFieldsP p s).length) ∧ w.heap.size ≤ A ∧
      w'.ownsRow w.heap.size 9 1 (.slice (some ⟨A, 0, none⟩) (Lib.goFieldsP p s).length (Lib.goFieldsP p s).length) (Lib.goFieldsP p s).length ((Lib.goFieldsP p s).map Value.string) ∧ Below w.heap.size w w' := Any.strings_FieldsFunc_grows lays229 g lb eg p s w hs hp (by kernel_rfl) (by kernel_rfl)
def F_strings_FieldsFunc_38 (n : Nat) (a0 : List Int) : Option (List (List Int) × Unit) := if a0.length ≤ 1048576 then some (FieldsLib.fieldsL FieldsLib.is32 a0, ()) else none
def ps_strings_FieldsFunc_38 : List PSh := [.val .str [], .fn 38 []]
def rs_strings_FieldsFunc_38 : List RSh := [.own (.sl 9 .str) [9] [] []]
def E_strings_FieldsFunc_38 : Entry := ⟨37, ps_strings_FieldsFunc_38, rs_strings_FieldsFunc_38, fun n (c : Cont (kin ps_strings_FieldsFunc_38)) => F_strings_FieldsFunc_38 n c.1⟩
theorem K_strings_FieldsFunc_38 [Fr] (n : Nat) : EntryOk Go.Proofs.Try.prog n E_strings_FieldsFunc_38 :=
  FieldsLib.fields_entry (p := FieldsLib.is32) (fun s w hs hp => strings_FieldsFunc_grows 38 #[] (Go.MuLone.run_callFunc_enter Go.Proofs.Try.func38 (by kernel_rfl) rfl) FieldsLib.is32 s w hs hp)
    (Go.MuLone.run_callFunc_enter Go.Proofs.Try.func37 (by kernel_rfl) rfl) (FieldsLib.pred_of (n := n) (fun [Fr] => K_impl_WordsOf_1 n) (fun x => by
      show F_impl_WordsOf_1 n (x : Int) = _
      unfold F_impl_WordsOf_1 FieldsLib.is32
      exact congrArg (fun b => some (b, ())) (decide_eq_decide.2 (by omega))) (Go.MuLone.run_callFunc_enter Go.Proofs.Try.func38 (by kernel_rfl) rfl))
/-- loop.example/g00447/impl.WordsOf -/
def F_impl_WordsOf (n : Nat) (a0 : List Int) : Option ((Int × (List (List Int)) × Unit) × Unit) := ((F_strings_FieldsFunc_38 n a0).bind fun r1 => some (((0 : Int), r1.1, ()), ()))
def ps_impl_WordsOf : List PSh := [.val .str []]
def rs_impl_WordsOf : List RSh := [.own (.st (.pair (.int .i64) (.pair (.sl 9 .str) .unit))) [9] [] []]
def E_impl_WordsOf : Entry := ⟨8, ps_impl_WordsOf, rs_impl_WordsOf, fun n (c : Cont (kin ps_impl_WordsOf)) => F_impl_WordsOf n c.1⟩
def H_impl_WordsOf : Hint := ⟨0, [], [], [], [(37, some 4, E_strings_FieldsFunc_38)], [], []⟩
theorem D_impl_WordsOf : ∀ n (c : Cont (kin ps_impl_WordsOf)), denF T H_impl_WordsOf Go.Proofs.Try.f8 ps_impl_WordsOf rs_impl_WordsOf n c = E_impl_WordsOf.F n c := by intro n c; kernel_rfl
theorem K_impl_WordsOf [Fr] (n : Nat) : EntryOk Go.Proofs.Try.prog n E_impl_WordsOf := fn_entry mixed tabOk (E := E_impl_WordsOf) Go.Proofs.Try.func8 (by kernel_rfl) (hi := H_impl_WordsOf) (ca_cons (K_strings_FieldsFunc_38 n) ca_nil) D_impl_WordsOf
/-- loop.example/g00447/laws.eqStringS -/
def F_laws_eqStringS (n : Nat) (a0 : List (List Int)) (a1 : List (List Int)) : Option (Bool × Unit) := (if (!decide ((a0.length : Int) = (a1.length : Int))) = true then some (false, ()) else (rounds (fun L1 (v1 : (List (List Int)) × (List (List Int)) × Int × Unit) => (if decide (v1.2.2.1 < (v1.1.length : Int)) = true then (if inLen v1.2.2.1 v1.1.length then (if inLen v1.2.2.1 v1.2.1.length then (if (!decide ((v1.1.getD v1.2.2.1.toNat ([] : List Int)) = (v1.2.1.getD v1.2.2.1.toNat ([] : List Int)))) = true then some (false, ()) else L1 (v1.1, v1.2.1, IntKind.i64.wrap (v1.2.2.1 + (1 : Int)), ())) else none) else none) else some (true, ()))) n (a0, a1, (0 : Int), ())))
def ps_laws_eqStringS : List PSh := [.val (.sl 9 .str) [], .val (.sl 9 .str) []]
def rs_laws_eqStringS : List RSh := [.val .bool [] []]
def E_laws_eqStringS : Entry := ⟨39, ps_laws_eqStringS, rs_laws_eqStringS, fun n (c : Cont (kin ps_laws_eqStringS)) => F_laws_eqStringS n c.1 c.2.1⟩
def H_laws_eqStringS : Hint := ⟨0, [], [(0, [0, 1, 5], [])], [], [], [], []⟩
theorem D_laws_eqStringS : ∀ n (c : Cont (kin ps_laws_eqStringS)), denF T H_laws_eqStringS Go.Proofs.Try.f39 ps_laws_eqStringS rs_laws_eqStringS n c = E_laws_eqStringS.F n c := by intro n c; kernel_rfl
theorem K_laws_eqStringS [Fr] (n : Nat) : EntryOk Go.Proofs.Try.prog n E_laws_eqStringS := fn_entry mixed tabOk (E := E_laws_eqStringS) Go.Proofs.Try.func39 (by kernel_rfl) (hi := H_laws_eqStringS) ca_nil D_laws_eqStringS
/-- loop.example/g00447/laws.eqWordsResult -/
def F_laws_eqWordsResult (n : Nat) (a0 : Int × (List (List Int)) × Unit) (a1 : Int × (List (List Int)) × Unit) : Option (Bool × Unit) := (if (!decide (a0.1 = a1.1)) = true then some (false, ()) else ((F_laws_eqStringS n a0.2.1 a1.2.1).bind fun r1 => (if (!r1.1) = true then some (false, ()) else some (true, ()))))
def ps_laws_eqWordsResult : List PSh := [.val (.st (.pair (.int .i64) (.pair (.sl 9 .str) .unit))) [], .val (.st (.pair (.int .i64) (.pair (.sl 9 .str) .unit))) []]
def rs_laws_eqWordsResult : List RSh := [.val .bool [] []]
def E_laws_eqWordsResult : Entry := ⟨9, ps_laws_eqWordsResult, rs_laws_eqWordsResult, fun n (c : Cont (kin ps_laws_eqWordsResult)) => F_laws_eqWordsResult n c.1 c.2.1⟩
def H_laws_eqWordsResult : Hint := ⟨0, [], [], [], [(39, some 14, E_laws_eqStringS)], [], []⟩
theorem D_laws_eqWordsResult : ∀ n (c : Cont (kin ps_laws_eqWordsResult)), denF T H_laws_eqWordsResult Go.Proofs.Try.f9 ps_laws_eqWordsResult rs_laws_eqWordsResult n c = E_laws_eqWordsResult.F n c := by intro n c; kernel_rfl
theorem K_laws_eqWordsResult [Fr] (n : Nat) : EntryOk Go.Proofs.Try.prog n E_laws_eqWordsResult := fn_entry mixed tabOk (E := E_laws_eqWordsResult) Go.Proofs.Try.func9 (by kernel_rfl) (hi := H_laws_eqWordsResult) (ca_cons (K_laws_eqStringS n) ca_nil) D_laws_eqWordsResult
/-- loop.example/g00447/laws.markText -/
def F_laws_markText (n : Nat) (a0 : Int) : Option ((List Int) × Unit) := (if decide (a0 ≤ (0 : Int)) = true then some ([109, 48], ()) else (rounds (fun L1 (v1 : Int × (List Int) × Unit) => (if decide (v1.1 > (0 : Int)) = true then (if (10 : Int) ≠ 0 then (if [IntKind.u8.wrap (IntKind.i64.wrap ((48 : Int) + (v1.1.tmod (10 : Int))))].length + v1.2.1.length ≤ 9223372036854775807 then (if (10 : Int) ≠ 0 then L1 (IntKind.i64.wrap (v1.1.tdiv (10 : Int)), [IntKind.u8.wrap (IntKind.i64.wrap ((48 : Int) + (v1.1.tmod (10 : Int))))] ++ v1.2.1, ()) else none) else none) else none) else (if [109].length + v1.2.1.length ≤ 9223372036854775807 then some ([109] ++ v1.2.1, ()) else none))) n (a0, ([] : List Int), ())))
def ps_laws_markText : List PSh := [.val (.int .i64) []]
def rs_laws_markText : List RSh := [.val .str [] []]
def E_laws_markText : Entry := ⟨72, ps_laws_markText, rs_laws_markText, fun n (c : Cont (kin ps_laws_markText)) => F_laws_markText n c.1⟩
def H_laws_markText : Hint := ⟨0, [], [(0, [0, 3], [])], [], [], [], []⟩
theorem D_laws_markText : ∀ n (c : Cont (kin ps_laws_markText)), denF T H_laws_markText Go.Proofs.Try.f72 ps_laws_markText rs_laws_markText n c = E_laws_markText.F n c := by intro n c; kernel_rfl
theorem K_laws_markText [Fr] (n : Nat) : EntryOk Go.Proofs.Try.prog n E_laws_markText := fn_entry mixed tabOk (E := E_laws_markText) Go.Proofs.Try.func72 (by kernel_rfl) (hi := H_laws_markText) ca_nil D_laws_markText
/-- loop.example/g00447/laws.markStringS -/
def F_laws_markStringS (n : Nat) (a0 : List (List Int)) (a1 : Int) : Option (Int × (List (List Int)) × Unit) := (rounds (fun L1 (v1 : Int × Int × (List (List Int)) × Unit) => (if decide (v1.2.1 < (v1.2.2.1.length : Int)) = true then ((F_laws_markText n v1.1).bind fun r2 => (if inLen v1.2.1 v1.2.2.1.length then L1 (IntKind.i64.wrap (v1.1 + (1 : Int)), IntKind.i64.wrap (v1.2.1 + (1 : Int)), v1.2.2.1.set v1.2.1.toNat r2.1, ()) else none)) else some (v1.1, v1.2.2.1, ()))) n (a1, (0 : Int), a0, ()))
def ps_laws_markStringS : List PSh := [.brw (.sl 9 .str) [9] [9], .val (.int .i64) []]
def rs_laws_markStringS : List RSh := [.val (.int .i64) [] []]
def E_laws_markStringS : Entry := ⟨40, ps_laws_markStringS, rs_laws_markStringS, fun n (c : Cont (kin ps_laws_markStringS)) => F_laws_markStringS n c.1 c.2.1⟩
def H_laws_markStringS : Hint := ⟨0, [], [(0, [0, 1, 5], [0])], [], [(72, some 15, E_laws_markText)], [], []⟩
theorem D_laws_markStringS : ∀ n (c : Cont (kin ps_laws_markStringS)), denF T H_laws_markStringS Go.Proofs.Try.f40 ps_laws_markStringS rs_laws_markStringS n c = E_laws_markStringS.F n c := by intro n c; kernel_rfl
theorem K_laws_markStringS [Fr] (n : Nat) : EntryOk Go.Proofs.Try.prog n E_laws_markStringS := fn_entry mixed tabOk (E := E_laws_markStringS) Go.Proofs.Try.func40 (by kernel_rfl) (hi := H_laws_markStringS) (ca_cons (K_laws_markText n) ca_nil) D_laws_markStringS
/-- loop.example/g00447/laws.markWordsResult -/
def F_laws_markWordsResult (n : Nat) (a0 : Int × (List (List Int)) × Unit) (a1 : Int) : Option (Int × (Int × (List (List Int)) × Unit) × Unit) := ((F_laws_markStringS n a0.2.1 a1).bind fun r1 => some (r1.1, (a0.1, r1.2.1, a0.2.2), ()))
def ps_laws_markWordsResult : List PSh := [.brw (.st (.pair (.int .i64) (.pair (.sl 9 .str) .unit))) [9] [9, 4294967295], .val (.int .i64) []]
def rs_laws_markWordsResult : List RSh := [.val (.int .i64) [] []]
def E_laws_markWordsResult : Entry := ⟨10, ps_laws_markWordsResult, rs_laws_markWordsResult, fun n (c : Cont (kin ps_laws_markWordsResult)) => F_laws_markWordsResult n c.1 c.2.1⟩
def H_laws_markWordsResult : Hint := ⟨0, [], [], [], [(40, some 8, E_laws_markStringS)], [], []⟩
theorem D_laws_markWordsResult : ∀ n (c : Cont (kin ps_laws_markWordsResult)), denF T H_laws_markWordsResult Go.Proofs.Try.f10 ps_laws_markWordsResult rs_laws_markWordsResult n c = E_laws_markWordsResult.F n c := by intro n c; kernel_rfl
theorem K_laws_markWordsResult [Fr] (n : Nat) : EntryOk Go.Proofs.Try.prog n E_laws_markWordsResult := fn_entry mixed tabOk (E := E_laws_markWordsResult) Go.Proofs.Try.func10 (by kernel_rfl) (hi := H_laws_markWordsResult) (ca_cons (K_laws_markStringS n) ca_nil) D_laws_markWordsResult
/-- loop.example/g00447/laws.heldStringS -/
def F_laws_heldStringS (n : Nat) (a0 : List (List Int)) (a1 : Int) : Option (Int × Unit) := (rounds (fun L1 (v1 : (List (List Int)) × Int × Int × Unit) => (if decide (v1.2.2.1 < (v1.1.length : Int)) = true then (if inLen v1.2.2.1 v1.1.length then ((F_laws_markText n v1.2.1).bind fun r2 => (if (!decide ((v1.1.getD v1.2.2.1.toNat ([] : List Int)) = r2.1)) = true then some ((-1 : Int), ()) else L1 (v1.1, IntKind.i64.wrap (v1.2.1 + (1 : Int)), IntKind.i64.wrap (v1.2.2.1 + (1 : Int)), ()))) else none) else some (v1.2.1, ()))) n (a0, a1, (0 : Int), ()))
def ps_laws_heldStringS : List PSh := [.val (.sl 9 .str) [], .val (.int .i64) []]
def rs_laws_heldStringS : List RSh := [.val (.int .i64) [] []]
def E_laws_heldStringS : Entry := ⟨41, ps_laws_heldStringS, rs_laws_heldStringS, fun n (c : Cont (kin ps_laws_heldStringS)) => F_laws_heldStringS n c.1 c.2.1⟩
def H_laws_heldStringS : Hint := ⟨0, [], [(0, [0, 1, 5], [])], [], [(72, some 17, E_laws_markText)], [], []⟩
theorem D_laws_heldStringS : ∀ n (c : Cont (kin ps_laws_heldStringS)), denF T H_laws_heldStringS Go.Proofs.Try.f41 ps_laws_heldStringS rs_laws_heldStringS n c = E_laws_heldStringS.F n c := by intro n c; kernel_rfl
theorem K_laws_heldStringS [Fr] (n : Nat) : EntryOk Go.Proofs.Try.prog n E_laws_heldStringS := fn_entry mixed tabOk (E := E_laws_heldStringS) Go.Proofs.Try.func41 (by kernel_rfl) (hi := H_laws_heldStringS) (ca_cons (K_laws_markText n) ca_nil) D_laws_heldStringS
/-- loop.example/g00447/laws.heldWordsResult -/
def F_laws_heldWordsResult (n : Nat) (a0 : Int × (List (List Int)) × Unit) (a1 : Int) : Option (Int × Unit) := ((F_laws_heldStringS n a0.2.1 a1).bind fun r1 => (if decide (r1.1 < (0 : Int)) = true then some ((-1 : Int), ()) else some (r1.1, ())))
def ps_laws_heldWordsResult : List PSh := [.val (.st (.pair (.int .i64) (.pair (.sl 9 .str) .unit))) [], .val (.int .i64) []]
def rs_laws_heldWordsResult : List RSh := [.val (.int .i64) [] []]
def E_laws_heldWordsResult : Entry := ⟨11, ps_laws_heldWordsResult, rs_laws_heldWordsResult, fun n (c : Cont (kin ps_laws_heldWordsResult)) => F_laws_heldWordsResult n c.1 c.2.1⟩
def H_laws_heldWordsResult : Hint := ⟨0, [], [], [], [(41, some 8, E_laws_heldStringS)], [], []⟩
theorem D_laws_heldWordsResult : ∀ n (c : Cont (kin ps_laws_heldWordsResult)), denF T H_laws_heldWordsResult Go.Proofs.Try.f11 ps_laws_heldWordsResult rs_laws_heldWordsResult n c = E_laws_heldWordsResult.F n c := by intro n c; kernel_rfl
theorem K_laws_heldWordsResult [Fr] (n : Nat) : EntryOk Go.Proofs.Try.prog n E_laws_heldWordsResult := fn_entry mixed tabOk (E := E_laws_heldWordsResult) Go.Proofs.Try.func11 (by kernel_rfl) (hi := H_laws_heldWordsResult) (ca_cons (K_laws_heldStringS n) ca_nil) D_laws_heldWordsResult
/-- loop.example/g00447/laws.FnExactWordsOf -/
def F_laws_FnExactWordsOf (n : Nat) (a0 : List Int) : Option (Bool × Unit) := (if decide ((a0.length : Int) > (1048576 : Int)) = true then some (true, ()) else ((F_spec_WordsOf n a0).bind fun r1 => ((F_impl_WordsOf n a0).bind fun r2 => ((F_laws_eqWordsResult n r2.1 r1.1).bind fun r3 => (if (!r3.1) = true then some (false, ()) else ((F_laws_markWordsResult n r2.1 (1 : Int)).bind fun r4 => ((F_laws_heldWordsResult n r4.2.1 (1 : Int)).bind fun r5 => (if decide (r5.1 < (0 : Int)) = true then some (false, ()) else (if (!decide (r5.1 = r4.1)) = true then some (false, ()) else ((F_impl_WordsOf n a0).bind fun r6 => ((F_laws_eqWordsResult n r6.1 r1.1).bind fun r7 => (if (!r7.1) = true then some (false, ()) else ((F_laws_heldWordsResult n r4.2.1 (1 : Int)).bind fun r8 => (if decide (r8.1 < (0 : Int)) = true then some (false, ()) else (if (!decide (r8.1 = r4.1)) = true then some (false, ()) else some (true, ()))))))))))))))))
def ps_laws_FnExactWordsOf : List PSh := [.val .str []]
def rs_laws_FnExactWordsOf : List RSh := [.val .bool [] []]
def E_laws_FnExactWordsOf : Entry := ⟨3, ps_laws_FnExactWordsOf, rs_laws_FnExactWordsOf, fun n (c : Cont (kin ps_laws_FnExactWordsOf)) => F_laws_FnExactWordsOf n c.1⟩
def H_laws_FnExactWordsOf : Hint := ⟨0, [19], [], [], [(7, some 12, E_spec_WordsOf), (8, some 14, E_impl_WordsOf), (9, some 17, E_laws_eqWordsResult), (10, some 21, E_laws_markWordsResult), (11, some 24, E_laws_heldWordsResult), (8, some 31, E_impl_WordsOf), (9, some 34, E_laws_eqWordsResult), (11, some 38, E_laws_heldWordsResult)], [], []⟩
theorem D_laws_FnExactWordsOf : ∀ n (c : Cont (kin ps_laws_FnExactWordsOf)), denF T H_laws_FnExactWordsOf Go.Proofs.Try.f3 ps_laws_FnExactWordsOf rs_laws_FnExactWordsOf n c = E_laws_FnExactWordsOf.F n c := by intro n c; kernel_rfl
theorem K_laws_FnExactWordsOf [Fr] (n : Nat) : EntryOk Go.Proofs.Try.prog n E_laws_FnExactWordsOf := fn_entry mixed tabOk (E := E_laws_FnExactWordsOf) Go.Proofs.Try.func3 (by kernel_rfl) (hi := H_laws_FnExactWordsOf) (ca_cons (K_spec_WordsOf n) (ca_cons (K_impl_WordsOf n) (ca_cons (K_laws_eqWordsResult n) (ca_cons (K_laws_markWordsResult n) (ca_cons (K_laws_heldWordsResult n) (ca_cons (K_impl_WordsOf n) (ca_cons (K_laws_eqWordsResult n) (ca_cons (K_laws_heldWordsResult n) ca_nil)))))))) D_laws_FnExactWordsOf
end Go.Proofs.Ytcelknaomealbaa.WordsF
