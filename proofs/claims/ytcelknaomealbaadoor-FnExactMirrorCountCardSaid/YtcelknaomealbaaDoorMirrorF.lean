/- What the functions of this law compute, as plain functions, and that the reading comes to them. No condition. -/
import Derived.Test.YtcelknaomealbaaDoorProg
import Derived.Test.YtcelknaomealbaaDoorOwF
import Derived.Test.YtcelknaomealbaaDoorLaidLib
import Derived.KernelRfl
set_option linter.unusedSectionVars false
set_option linter.unusedVariables false
set_option linter.unusedSimpArgs false
namespace Go.Proofs.YtcelknaomealbaaDoor.MirrorF
open Go Go.Proofs.YtcelknaomealbaaDoor Go.Proofs.YtcelknaomealbaaDoor.Ow
def tyL : TyL := ⟨[(2, (.int .i64)), (3, (.int .i64)), (4, .bool), (5, (.int .u8)), (6, (.int .u8)), (7, (.st (.pair (.int .i64) (.pair (.int .i64) (.pair .bool (.pair (.int .u8) .unit)))))), (8, (.st (.pair (.int .i64) (.pair (.int .i64) (.pair .bool (.pair (.int .u8) .unit)))))), (9, .str), (10, .str), (11, .str), (12, (.int .u64)), (13, (.st (.pair .str (.pair (.int .u64) .unit)))), (14, (.st (.pair .str (.pair (.int .u64) .unit)))), (21, (.int .i32)), (22, (.sl 9 .str)), (24, (.st (.pair (.int .i64) (.pair (.int .i64) .unit)))), (25, (.st (.pair (.int .i64) (.pair (.int .i64) .unit)))), (31, (.sl 69 (.st (.pair .str (.pair (.int .i64) (.pair (.int .i64) (.pair (.sl 108 (.st (.pair (.int .i64) (.pair (.int .i64) (.pair (.int .i64) (.pair (.sl 5 (.int .u8)) .unit)))))) .unit))))))), (32, (.st (.pair (.int .i64) (.pair (.sl 69 (.st (.pair .str (.pair (.int .i64) (.pair (.int .i64) (.pair (.sl 108 (.st (.pair (.int .i64) (.pair (.int .i64) (.pair (.int .i64) (.pair (.sl 5 (.int .u8)) .unit)))))) .unit)))))) .unit)))), (33, (.st (.pair (.int .i64) (.pair (.sl 69 (.st (.pair .str (.pair (.int .i64) (.pair (.int .i64) (.pair (.sl 108 (.st (.pair (.int .i64) (.pair (.int .i64) (.pair (.int .i64) (.pair (.sl 5 (.int .u8)) .unit)))))) .unit)))))) .unit)))), (35, (.st (.pair (.int .i64) (.pair .str .unit)))), (36, (.st (.pair (.int .i64) (.pair .str .unit)))), (38, (.sl 74 (.st (.pair .str (.pair (.int .i64) (.pair (.int .i64) (.pair (.sl 80 (.st (.pair (.int .i64) (.pair (.int .i64) (.pair (.int .i64) (.pair (.sl 5 (.int .u8)) .unit)))))) .unit))))))), (39, (.st (.pair (.int .i64) (.pair (.sl 74 (.st (.pair .str (.pair (.int .i64) (.pair (.int .i64) (.pair (.sl 80 (.st (.pair (.int .i64) (.pair (.int .i64) (.pair (.int .i64) (.pair (.sl 5 (.int .u8)) .unit)))))) .unit)))))) .unit)))), (40, (.st (.pair (.int .i64) (.pair (.sl 74 (.st (.pair .str (.pair (.int .i64) (.pair (.int .i64) (.pair (.sl 80 (.st (.pair (.int .i64) (.pair (.int .i64) (.pair (.int .i64) (.pair (.sl 5 (.int .u8)) .unit)))))) .unit)))))) .unit)))), (67, (.sl 108 (.st (.pair (.int .i64) (.pair (.int .i64) (.pair (.int .i64) (.pair (.sl 5 (.int .u8)) .unit))))))), (68, (.st (.pair .str (.pair (.int .i64) (.pair (.int .i64) (.pair (.sl 108 (.st (.pair (.int .i64) (.pair (.int .i64) (.pair (.int .i64) (.pair (.sl 5 (.int .u8)) .unit)))))) .unit)))))), (69, (.st (.pair .str (.pair (.int .i64) (.pair (.int .i64) (.pair (.sl 108 (.st (.pair (.int .i64) (.pair (.int .i64) (.pair (.int .i64) (.pair (.sl 5 (.int .u8)) .unit)))))) .unit)))))), (72, (.sl 80 (.st (.pair (.int .i64) (.pair (.int .i64) (.pair (.int .i64) (.pair (.sl 5 (.int .u8)) .unit))))))), (73, (.st (.pair .str (.pair (.int .i64) (.pair (.int .i64) (.pair (.sl 80 (.st (.pair (.int .i64) (.pair (.int .i64) (.pair (.int .i64) (.pair (.sl 5 (.int .u8)) .unit)))))) .unit)))))), (74, (.st (.pair .str (.pair (.int .i64) (.pair (.int .i64) (.pair (.sl 80 (.st (.pair (.int .i64) (.pair (.int .i64) (.pair (.int .i64) (.pair (.sl 5 (.int .u8)) .unit)))))) .unit)))))), (76, (.sl 2 (.int .i64))), (78, (.sl 5 (.int .u8))), (79, (.st (.pair (.int .i64) (.pair (.int .i64) (.pair (.int .i64) (.pair (.sl 5 (.int .u8)) .unit)))))), (80, (.st (.pair (.int .i64) (.pair (.int .i64) (.pair (.int .i64) (.pair (.sl 5 (.int .u8)) .unit)))))), (99, (.int .i64)), (100, (.int .u64)), (103, (.int .u64)), (108, (.st (.pair (.int .i64) (.pair (.int .i64) (.pair (.int .i64) (.pair (.sl 5 (.int .u8)) .unit)))))), (136, (.st (.pair .str .unit))), (137, (.st (.pair .str .unit))), (141, (.int .u32)), (157, (.int .u8)), (158, (.int .u8)), (160, (.int .i32)), (161, (.int .i32))], [(2, 8), (3, 8), (4, 1), (5, 1), (6, 1), (7, 24), (8, 24), (9, 16), (10, 16), (11, 16), (12, 8), (13, 24), (14, 24), (21, 4), (22, 24), (24, 16), (25, 16), (31, 24), (32, 32), (33, 32), (35, 24), (36, 24), (38, 24), (39, 32), (40, 32), (67, 24), (68, 56), (69, 56), (72, 24), (73, 56), (74, 56), (76, 24), (78, 24), (79, 48), (80, 48), (99, 8), (100, 8), (103, 8), (108, 48), (136, 16), (137, 16), (141, 4), (157, 1), (158, 1), (160, 4), (161, 4)], [15, 16, 17, 54, 71, 77, 104, 112, 133, 135]⟩
def T : Tab := tyL.tab
theorem tabOk : tabChk Go.Proofs.Tryd.prog tyL = true := by kernel_rfl
theorem mixed : Go.Proofs.Tryd.prog.follows .mixedOrders = true := by kernel_rfl
/-- loop.example/g00447/laws.szStringS -/
def F_laws_szStringS (n : Nat) (a0 : List (List Int)) (a1 : Int) : Option (Int × Unit) := (if decide ((IntKind.i64.wrap (a1 - (a0.length : Int))) < (0 : Int)) = true then some ((-1 : Int), ()) else (rounds (fun L1 (v1 : (List (List Int)) × Int × Int × Unit) => (if decide (v1.2.2.1 < (v1.1.length : Int)) = true then (if inLen v1.2.2.1 v1.1.length then (if decide ((IntKind.i64.wrap (v1.2.1 - ((v1.1.getD v1.2.2.1.toNat ([] : List Int)).length : Int))) < (0 : Int)) = true then some ((-1 : Int), ()) else L1 (v1.1, IntKind.i64.wrap (v1.2.1 - ((v1.1.getD v1.2.2.1.toNat ([] : List Int)).length : Int)), IntKind.i64.wrap (v1.2.2.1 + (1 : Int)), ())) else none) else some (v1.2.1, ()))) n (a0, IntKind.i64.wrap (a1 - (a0.length : Int)), (0 : Int), ())))
def ps_laws_szStringS : List PSh := [.val (.sl 9 .str) [], .val (.int .i64) []]
def rs_laws_szStringS : List RSh := [.val (.int .i64) [] []]
def E_laws_szStringS : Entry := ⟨5, ps_laws_szStringS, rs_laws_szStringS, fun n (c : Cont (kin ps_laws_szStringS)) => F_laws_szStringS n c.1 c.2.1⟩
def H_laws_szStringS : Hint := ⟨0, [], [(0, [0, 1, 5], [])], [], [], [], []⟩
theorem D_laws_szStringS : ∀ n (c : Cont (kin ps_laws_szStringS)), denF T H_laws_szStringS Go.Proofs.Tryd.f5 ps_laws_szStringS rs_laws_szStringS n c = E_laws_szStringS.F n c := by intro n c; kernel_rfl
theorem K_laws_szStringS [Fr] [LaidLib.LaidTab Go.Proofs.Tryd.prog] [LaidLib.LaidErr Go.Proofs.Tryd.prog] (n : Nat) : EntryOk Go.Proofs.Tryd.prog n E_laws_szStringS := fn_entry mixed tabOk (E := E_laws_szStringS) Go.Proofs.Tryd.func5 (by kernel_rfl) (hi := H_laws_szStringS) ca_nil D_laws_szStringS
/-- loop.example/g00447/laws.toStringS -/
def F_laws_toStringS (n : Nat) (a0 : List (List Int)) : Option ((List (List Int)) × Unit) := (if (a0.length : Int) = (a0.length : Int) ∧ 0 ≤ (a0.length : Int) ∧ (a0.length : Int) * 16 ≤ 140737488355328 then (rounds (fun L1 (v1 : (List (List Int)) × Int × (List (List Int)) × Unit) => (if decide (v1.2.1 < (v1.1.length : Int)) = true then (if inLen v1.2.1 v1.1.length then (if inLen v1.2.1 v1.2.2.1.length then L1 (v1.1, IntKind.i64.wrap (v1.2.1 + (1 : Int)), v1.2.2.1.set v1.2.1.toNat (v1.1.getD v1.2.1.toNat ([] : List Int)), ()) else none) else none) else some (v1.2.2.1, ()))) n (a0, (0 : Int), List.replicate (a0.length : Int).toNat ([] : List Int), ())) else none)
def ps_laws_toStringS : List PSh := [.val (.sl 9 .str) []]
def rs_laws_toStringS : List RSh := [.own (.sl 9 .str) [9] [] []]
def E_laws_toStringS : Entry := ⟨7, ps_laws_toStringS, rs_laws_toStringS, fun n (c : Cont (kin ps_laws_toStringS)) => F_laws_toStringS n c.1⟩
def H_laws_toStringS : Hint := ⟨0, [], [(0, [0, 3, 4], [226])], [], [], [], []⟩
theorem D_laws_toStringS : ∀ n (c : Cont (kin ps_laws_toStringS)), denF T H_laws_toStringS Go.Proofs.Tryd.f7 ps_laws_toStringS rs_laws_toStringS n c = E_laws_toStringS.F n c := by intro n c; kernel_rfl
theorem K_laws_toStringS [Fr] [LaidLib.LaidTab Go.Proofs.Tryd.prog] [LaidLib.LaidErr Go.Proofs.Tryd.prog] (n : Nat) : EntryOk Go.Proofs.Tryd.prog n E_laws_toStringS := fn_entry mixed tabOk (E := E_laws_toStringS) Go.Proofs.Tryd.func7 (by kernel_rfl) (hi := H_laws_toStringS) ca_nil D_laws_toStringS
/-- loop.example/g00447/spec.l1In -/
def F_spec_l1In (n : Nat) (a0 : Int) (a1 : Int) (a2 : Int) : Option (Bool × Unit) := (if decide (a0 ≥ a1) = true then some (decide (a0 ≤ a2), ()) else some (false, ()))
def ps_spec_l1In : List PSh := [.val (.int .i64) [], .val (.int .i64) [], .val (.int .i64) []]
def rs_spec_l1In : List RSh := [.val .bool [] []]
def E_spec_l1In : Entry := ⟨17, ps_spec_l1In, rs_spec_l1In, fun n (c : Cont (kin ps_spec_l1In)) => F_spec_l1In n c.1 c.2.1 c.2.2.1⟩
def H_spec_l1In : Hint := ⟨0, [], [], [], [], [], []⟩
theorem D_spec_l1In : ∀ n (c : Cont (kin ps_spec_l1In)), denF T H_spec_l1In Go.Proofs.Tryd.f17 ps_spec_l1In rs_spec_l1In n c = E_spec_l1In.F n c := by intro n c; kernel_rfl
theorem K_spec_l1In [Fr] [LaidLib.LaidTab Go.Proofs.Tryd.prog] [LaidLib.LaidErr Go.Proofs.Tryd.prog] (n : Nat) : EntryOk Go.Proofs.Tryd.prog n E_spec_l1In := fn_entry mixed tabOk (E := E_spec_l1In) Go.Proofs.Tryd.func17 (by kernel_rfl) (hi := H_spec_l1In) ca_nil D_spec_l1In
/-- loop.example/g00447/spec.l11Value -/
def F_spec_l11Value (n : Nat) (a0 : List Int) : Option (Int × Unit) := (if decide ((a0.length : Int) < (1 : Int)) = true then some ((-1 : Int), ()) else (if decide ((a0.length : Int) > (4 : Int)) = true then some ((-1 : Int), ()) else (if decide ((a0.length : Int) > (1 : Int)) = true then (if inLen (0 : Int) a0.length then (if decide ((a0.getD (0 : Int).toNat 0) = (48 : Int)) = true then some ((-1 : Int), ()) else (rounds (fun L1 (v1 : (List Int) × Int × Int × Unit) => (if decide (v1.2.2.1 < (v1.1.length : Int)) = true then (if inLen v1.2.2.1 v1.1.length then (if decide ((v1.1.getD v1.2.2.1.toNat 0) < (48 : Int)) = true then some ((-1 : Int), ()) else (if inLen v1.2.2.1 v1.1.length then (if decide ((v1.1.getD v1.2.2.1.toNat 0) > (57 : Int)) = true then some ((-1 : Int), ()) else (if inLen v1.2.2.1 v1.1.length then L1 (v1.1, IntKind.i64.wrap ((IntKind.i64.wrap (v1.2.1 * (10 : Int))) + (IntKind.i64.wrap (IntKind.u8.wrap ((v1.1.getD v1.2.2.1.toNat 0) - (48 : Int))))), IntKind.i64.wrap (v1.2.2.1 + (1 : Int)), ()) else none)) else none)) else none) else some (v1.2.1, ()))) n (a0, (0 : Int), (0 : Int), ()))) else none) else (rounds (fun L2 (v2 : (List Int) × Int × Int × Unit) => (if decide (v2.2.2.1 < (v2.1.length : Int)) = true then (if inLen v2.2.2.1 v2.1.length then (if decide ((v2.1.getD v2.2.2.1.toNat 0) < (48 : Int)) = true then some ((-1 : Int), ()) else (if inLen v2.2.2.1 v2.1.length then (if decide ((v2.1.getD v2.2.2.1.toNat 0) > (57 : Int)) = true then some ((-1 : Int), ()) else (if inLen v2.2.2.1 v2.1.length then L2 (v2.1, IntKind.i64.wrap ((IntKind.i64.wrap (v2.2.1 * (10 : Int))) + (IntKind.i64.wrap (IntKind.u8.wrap ((v2.1.getD v2.2.2.1.toNat 0) - (48 : Int))))), IntKind.i64.wrap (v2.2.2.1 + (1 : Int)), ()) else none)) else none)) else none) else some (v2.2.1, ()))) n (a0, (0 : Int), (0 : Int), ())))))
def ps_spec_l11Value : List PSh := [.val .str []]
def rs_spec_l11Value : List RSh := [.val (.int .i64) [] []]
def E_spec_l11Value : Entry := ⟨30, ps_spec_l11Value, rs_spec_l11Value, fun n (c : Cont (kin ps_spec_l11Value)) => F_spec_l11Value n c.1⟩
def H_spec_l11Value : Hint := ⟨0, [], [(0, [0, 3, 4], [])], [], [], [], []⟩
theorem D_spec_l11Value : ∀ n (c : Cont (kin ps_spec_l11Value)), denF T H_spec_l11Value Go.Proofs.Tryd.f30 ps_spec_l11Value rs_spec_l11Value n c = E_spec_l11Value.F n c := by intro n c; kernel_rfl
theorem K_spec_l11Value [Fr] [LaidLib.LaidTab Go.Proofs.Tryd.prog] [LaidLib.LaidErr Go.Proofs.Tryd.prog] (n : Nat) : EntryOk Go.Proofs.Tryd.prog n E_spec_l11Value := fn_entry mixed tabOk (E := E_spec_l11Value) Go.Proofs.Tryd.func30 (by kernel_rfl) (hi := H_spec_l11Value) ca_nil D_spec_l11Value
/-- loop.example/g00447/spec.l15Told -/
def F_spec_l15Told (n : Nat) (a0 : List Int) (a1 : List Int) : Option (Int × Unit) := (if decide ((a0.length : Int) ≤ (a1.length : Int)) = true then some ((-1 : Int), ()) else (if 0 ≤ (a1.length : Int) ∧ (a1.length : Int) ≤ (a0.length : Int) then (if (!decide ((a0.take (a1.length : Int).toNat) = a1)) = true then some ((-1 : Int), ()) else (if 0 ≤ (a1.length : Int) ∧ (a1.length : Int) ≤ (a0.length : Int) then ((F_spec_l11Value n (a0.drop (a1.length : Int).toNat)).bind fun r1 => (if decide (r1.1 > (999 : Int)) = true then some ((-1 : Int), ()) else some (r1.1, ()))) else none)) else none))
def ps_spec_l15Told : List PSh := [.val .str [], .val .str []]
def rs_spec_l15Told : List RSh := [.val (.int .i64) [] []]
def E_spec_l15Told : Entry := ⟨18, ps_spec_l15Told, rs_spec_l15Told, fun n (c : Cont (kin ps_spec_l15Told)) => F_spec_l15Told n c.1 c.2.1⟩
def H_spec_l15Told : Hint := ⟨0, [], [], [], [(30, some 23, E_spec_l11Value)], [], []⟩
theorem D_spec_l15Told : ∀ n (c : Cont (kin ps_spec_l15Told)), denF T H_spec_l15Told Go.Proofs.Tryd.f18 ps_spec_l15Told rs_spec_l15Told n c = E_spec_l15Told.F n c := by intro n c; kernel_rfl
theorem K_spec_l15Told [Fr] [LaidLib.LaidTab Go.Proofs.Tryd.prog] [LaidLib.LaidErr Go.Proofs.Tryd.prog] (n : Nat) : EntryOk Go.Proofs.Tryd.prog n E_spec_l15Told := fn_entry mixed tabOk (E := E_spec_l15Told) Go.Proofs.Tryd.func18 (by kernel_rfl) (hi := H_spec_l15Told) (ca_cons (K_spec_l11Value n) ca_nil) D_spec_l15Told
/-- loop.example/g00447/spec.l1Max -/
def F_spec_l1Max (n : Nat) (a0 : Int) (a1 : Int) : Option (Int × Unit) := (if decide (a0 > a1) = true then some (a0, ()) else some (a1, ()))
def ps_spec_l1Max : List PSh := [.val (.int .i64) [], .val (.int .i64) []]
def rs_spec_l1Max : List RSh := [.val (.int .i64) [] []]
def E_spec_l1Max : Entry := ⟨19, ps_spec_l1Max, rs_spec_l1Max, fun n (c : Cont (kin ps_spec_l1Max)) => F_spec_l1Max n c.1 c.2.1⟩
def H_spec_l1Max : Hint := ⟨0, [], [], [], [], [], []⟩
theorem D_spec_l1Max : ∀ n (c : Cont (kin ps_spec_l1Max)), denF T H_spec_l1Max Go.Proofs.Tryd.f19 ps_spec_l1Max rs_spec_l1Max n c = E_spec_l1Max.F n c := by intro n c; kernel_rfl
theorem K_spec_l1Max [Fr] [LaidLib.LaidTab Go.Proofs.Tryd.prog] [LaidLib.LaidErr Go.Proofs.Tryd.prog] (n : Nat) : EntryOk Go.Proofs.Tryd.prog n E_spec_l1Max := fn_entry mixed tabOk (E := E_spec_l1Max) Go.Proofs.Tryd.func19 (by kernel_rfl) (hi := H_spec_l1Max) ca_nil D_spec_l1Max
/-- loop.example/g00447/spec.MirrorCount -/
def F_spec_MirrorCount (n : Nat) (a0 : Int) (a1 : List (List Int)) : Option ((Int × Int × Unit) × Unit) := ((F_spec_l1In n a0 (0 : Int) (999 : Int)).bind fun r1 => (if (!r1.1) = true then some (((3 : Int), (0 : Int), ()), ()) else (rounds (fun L2 (v2 : Int × (List (List Int)) × Int × (Int × Int × Unit) × Unit) => (if decide (v2.2.2.1 < (v2.2.1.length : Int)) = true then (if inLen v2.2.2.1 v2.2.1.length then ((F_spec_l15Told n (v2.2.1.getD v2.2.2.1.toNat ([] : List Int)) [42, 32, 101, 120, 105, 115, 116, 115, 32]).bind fun r3 => (if decide (r3.1 ≥ (0 : Int)) = true then (if inLen v2.2.2.1 v2.2.1.length then ((F_spec_l15Told n (v2.2.1.getD v2.2.2.1.toNat ([] : List Int)) [42, 32, 103, 111, 110, 101, 32]).bind fun r4 => (if decide (r4.1 ≥ (0 : Int)) = true then ((F_spec_l1Max n (0 : Int) (IntKind.i64.wrap (r3.1 - (1 : Int)))).bind fun r5 => (if inLen v2.2.2.1 v2.2.1.length then (if decide ((v2.2.1.getD v2.2.2.1.toNat ([] : List Int)) = [42, 32, 99, 108, 111, 115, 101, 100]) = true then L2 ((0 : Int), v2.2.1, IntKind.i64.wrap (v2.2.2.1 + (1 : Int)), v2.2.2.2.1, ()) else L2 (r5.1, v2.2.1, IntKind.i64.wrap (v2.2.2.1 + (1 : Int)), v2.2.2.2.1, ())) else none)) else (if inLen v2.2.2.1 v2.2.1.length then (if decide ((v2.2.1.getD v2.2.2.1.toNat ([] : List Int)) = [42, 32, 99, 108, 111, 115, 101, 100]) = true then L2 ((0 : Int), v2.2.1, IntKind.i64.wrap (v2.2.2.1 + (1 : Int)), v2.2.2.2.1, ()) else L2 (r3.1, v2.2.1, IntKind.i64.wrap (v2.2.2.1 + (1 : Int)), v2.2.2.2.1, ())) else none))) else none) else (if inLen v2.2.2.1 v2.2.1.length then ((F_spec_l15Told n (v2.2.1.getD v2.2.2.1.toNat ([] : List Int)) [42, 32, 103, 111, 110, 101, 32]).bind fun r6 => (if decide (r6.1 ≥ (0 : Int)) = true then ((F_spec_l1Max n (0 : Int) (IntKind.i64.wrap (v2.1 - (1 : Int)))).bind fun r7 => (if inLen v2.2.2.1 v2.2.1.length then (if decide ((v2.2.1.getD v2.2.2.1.toNat ([] : List Int)) = [42, 32, 99, 108, 111, 115, 101, 100]) = true then L2 ((0 : Int), v2.2.1, IntKind.i64.wrap (v2.2.2.1 + (1 : Int)), v2.2.2.2.1, ()) else L2 (r7.1, v2.2.1, IntKind.i64.wrap (v2.2.2.1 + (1 : Int)), v2.2.2.2.1, ())) else none)) else (if inLen v2.2.2.1 v2.2.1.length then (if decide ((v2.2.1.getD v2.2.2.1.toNat ([] : List Int)) = [42, 32, 99, 108, 111, 115, 101, 100]) = true then L2 ((0 : Int), v2.2.1, IntKind.i64.wrap (v2.2.2.1 + (1 : Int)), v2.2.2.2.1, ()) else L2 (v2.1, v2.2.1, IntKind.i64.wrap (v2.2.2.1 + (1 : Int)), v2.2.2.2.1, ())) else none))) else none))) else none) else some (((0 : Int), v2.1, ()), ()))) n (a0, a1, (0 : Int), ((0 : Int), (0 : Int), ()), ()))))
def ps_spec_MirrorCount : List PSh := [.val (.int .i64) [], .val (.sl 9 .str) []]
def rs_spec_MirrorCount : List RSh := [.val (.st (.pair (.int .i64) (.pair (.int .i64) .unit))) [] []]
def E_spec_MirrorCount : Entry := ⟨6, ps_spec_MirrorCount, rs_spec_MirrorCount, fun n (c : Cont (kin ps_spec_MirrorCount)) => F_spec_MirrorCount n c.1 c.2.1⟩
def H_spec_MirrorCount : Hint := ⟨0, [], [(0, [0, 1, 4, 5], [130])], [], [(17, some 8, E_spec_l1In), (18, some 21, E_spec_l15Told), (18, some 29, E_spec_l15Told), (19, some 33, E_spec_l1Max)], [], []⟩
theorem D_spec_MirrorCount : ∀ n (c : Cont (kin ps_spec_MirrorCount)), denF T H_spec_MirrorCount Go.Proofs.Tryd.f6 ps_spec_MirrorCount rs_spec_MirrorCount n c = E_spec_MirrorCount.F n c := by intro n c; kernel_rfl
theorem K_spec_MirrorCount [Fr] [LaidLib.LaidTab Go.Proofs.Tryd.prog] [LaidLib.LaidErr Go.Proofs.Tryd.prog] (n : Nat) : EntryOk Go.Proofs.Tryd.prog n E_spec_MirrorCount := fn_entry mixed tabOk (E := E_spec_MirrorCount) Go.Proofs.Tryd.func6 (by kernel_rfl) (hi := H_spec_MirrorCount) (ca_cons (K_spec_l1In n) (ca_cons (K_spec_l15Told n) (ca_cons (K_spec_l15Told n) (ca_cons (K_spec_l1Max n) ca_nil)))) D_spec_MirrorCount
/-- loop.example/g00447/impl.within -/
def F_impl_within (n : Nat) (a0 : Int) (a1 : Int) (a2 : Int) : Option (Bool × Unit) := (if decide (a0 ≥ a1) = true then some (decide (a0 ≤ a2), ()) else some (false, ()))
def ps_impl_within : List PSh := [.val (.int .i64) [], .val (.int .i64) [], .val (.int .i64) []]
def rs_impl_within : List RSh := [.val .bool [] []]
def E_impl_within : Entry := ⟨20, ps_impl_within, rs_impl_within, fun n (c : Cont (kin ps_impl_within)) => F_impl_within n c.1 c.2.1 c.2.2.1⟩
def H_impl_within : Hint := ⟨0, [], [], [], [], [], []⟩
theorem D_impl_within : ∀ n (c : Cont (kin ps_impl_within)), denF T H_impl_within Go.Proofs.Tryd.f20 ps_impl_within rs_impl_within n c = E_impl_within.F n c := by intro n c; kernel_rfl
theorem K_impl_within [Fr] [LaidLib.LaidTab Go.Proofs.Tryd.prog] [LaidLib.LaidErr Go.Proofs.Tryd.prog] (n : Nat) : EntryOk Go.Proofs.Tryd.prog n E_impl_within := fn_entry mixed tabOk (E := E_impl_within) Go.Proofs.Tryd.func20 (by kernel_rfl) (hi := H_impl_within) ca_nil D_impl_within
/-- internal/stringslite.HasPrefix -/
def F_stringslite_HasPrefix (n : Nat) (a0 : List Int) (a1 : List Int) : Option (Bool × Unit) := (if decide ((a0.length : Int) ≥ (a1.length : Int)) = true then (if 0 ≤ (a1.length : Int) ∧ (a1.length : Int) ≤ (a0.length : Int) then some (decide ((a0.take (a1.length : Int).toNat) = a1), ()) else none) else some (false, ()))
def ps_stringslite_HasPrefix : List PSh := [.val .str [], .val .str []]
def rs_stringslite_HasPrefix : List RSh := [.val .bool [] []]
def E_stringslite_HasPrefix : Entry := ⟨44, ps_stringslite_HasPrefix, rs_stringslite_HasPrefix, fun n (c : Cont (kin ps_stringslite_HasPrefix)) => F_stringslite_HasPrefix n c.1 c.2.1⟩
def H_stringslite_HasPrefix : Hint := ⟨0, [], [], [], [], [], []⟩
theorem D_stringslite_HasPrefix : ∀ n (c : Cont (kin ps_stringslite_HasPrefix)), denF T H_stringslite_HasPrefix Go.Proofs.Tryd.f44 ps_stringslite_HasPrefix rs_stringslite_HasPrefix n c = E_stringslite_HasPrefix.F n c := by intro n c; kernel_rfl
theorem K_stringslite_HasPrefix [Fr] [LaidLib.LaidTab Go.Proofs.Tryd.prog] [LaidLib.LaidErr Go.Proofs.Tryd.prog] (n : Nat) : EntryOk Go.Proofs.Tryd.prog n E_stringslite_HasPrefix := fn_entry mixed tabOk (E := E_stringslite_HasPrefix) Go.Proofs.Tryd.func44 (by kernel_rfl) (hi := H_stringslite_HasPrefix) ca_nil D_stringslite_HasPrefix
/-- internal/stringslite.CutPrefix -/
def F_stringslite_CutPrefix (n : Nat) (a0 : List Int) (a1 : List Int) : Option ((List Int) × Bool × Unit) := ((F_stringslite_HasPrefix n a0 a1).bind fun r1 => (if (!r1.1) = true then some (a0, false, ()) else (if 0 ≤ (a1.length : Int) ∧ (a1.length : Int) ≤ (a0.length : Int) then some (a0.drop (a1.length : Int).toNat, true, ()) else none)))
def ps_stringslite_CutPrefix : List PSh := [.val .str [], .val .str []]
def rs_stringslite_CutPrefix : List RSh := [.val .str [] [], .val .bool [] []]
def E_stringslite_CutPrefix : Entry := ⟨31, ps_stringslite_CutPrefix, rs_stringslite_CutPrefix, fun n (c : Cont (kin ps_stringslite_CutPrefix)) => F_stringslite_CutPrefix n c.1 c.2.1⟩
def H_stringslite_CutPrefix : Hint := ⟨0, [], [], [], [(44, some 8, E_stringslite_HasPrefix)], [], []⟩
theorem D_stringslite_CutPrefix : ∀ n (c : Cont (kin ps_stringslite_CutPrefix)), denF T H_stringslite_CutPrefix Go.Proofs.Tryd.f31 ps_stringslite_CutPrefix rs_stringslite_CutPrefix n c = E_stringslite_CutPrefix.F n c := by intro n c; kernel_rfl
theorem K_stringslite_CutPrefix [Fr] [LaidLib.LaidTab Go.Proofs.Tryd.prog] [LaidLib.LaidErr Go.Proofs.Tryd.prog] (n : Nat) : EntryOk Go.Proofs.Tryd.prog n E_stringslite_CutPrefix := fn_entry mixed tabOk (E := E_stringslite_CutPrefix) Go.Proofs.Tryd.func31 (by kernel_rfl) (hi := H_stringslite_CutPrefix) (ca_cons (K_stringslite_HasPrefix n) ca_nil) D_stringslite_CutPrefix
/-- strings.CutPrefix -/
def F_strings_CutPrefix (n : Nat) (a0 : List Int) (a1 : List Int) : Option ((List Int) × Bool × Unit) := ((F_stringslite_CutPrefix n a0 a1).bind fun r1 => some (r1.1, r1.2.1, ()))
def ps_strings_CutPrefix : List PSh := [.val .str [], .val .str []]
def rs_strings_CutPrefix : List RSh := [.val .str [] [], .val .bool [] []]
def E_strings_CutPrefix : Entry := ⟨21, ps_strings_CutPrefix, rs_strings_CutPrefix, fun n (c : Cont (kin ps_strings_CutPrefix)) => F_strings_CutPrefix n c.1 c.2.1⟩
def H_strings_CutPrefix : Hint := ⟨0, [], [], [], [(31, some 8, E_stringslite_CutPrefix)], [], []⟩
theorem D_strings_CutPrefix : ∀ n (c : Cont (kin ps_strings_CutPrefix)), denF T H_strings_CutPrefix Go.Proofs.Tryd.f21 ps_strings_CutPrefix rs_strings_CutPrefix n c = E_strings_CutPrefix.F n c := by intro n c; kernel_rfl
theorem K_strings_CutPrefix [Fr] [LaidLib.LaidTab Go.Proofs.Tryd.prog] [LaidLib.LaidErr Go.Proofs.Tryd.prog] (n : Nat) : EntryOk Go.Proofs.Tryd.prog n E_strings_CutPrefix := fn_entry mixed tabOk (E := E_strings_CutPrefix) Go.Proofs.Tryd.func21 (by kernel_rfl) (hi := H_strings_CutPrefix) (ca_cons (K_stringslite_CutPrefix n) ca_nil) D_strings_CutPrefix
def laysM173_ren : Go.Shelf.Ren := ⟨fun | 173 => 47 | 246 => 63 | 283 => 79 | 284 => 80 | 285 => 81 | 286 => 82 | 129 => 90 | 317 => 89 | 318 => 91 | 319 => 92 | 320 => 93 | 337 => 96 | 338 => 97 | n => n, fun | 2 => 2 | 3 => 3 | 9 => 9 | 4 => 4 | 171 => 126 | 0 => 0 | 53 => 100 | 37 => 78 | 5 => 5 | 173 => 129 | 212 => 140 | 51 => 141 | 20 => 20 | 213 => 142 | 46 => 103 | 232 => 149 | 233 => 150 | n => n, fun | 17 => 2 | 18 => 4 | 19 => 5 | n => n⟩
theorem laysM173 : Go.Proofs.LaysM.n173 Tryd.prog laysM173_ren := {
  mixed := by kernel_rfl
  f129 := Tryd.func90.trans (congrArg some (by kernel_rfl))
  f173 := Tryd.func47.trans (congrArg some (by kernel_rfl))
  f246 := Tryd.func63.trans (congrArg some (by kernel_rfl))
  f283 := Tryd.func79.trans (congrArg some (by kernel_rfl))
  f284 := Tryd.func80.trans (congrArg some (by kernel_rfl))
  f285 := Tryd.func81.trans (congrArg some (by kernel_rfl))
  f286 := Tryd.func82.trans (congrArg some (by kernel_rfl))
  f317 := Tryd.func89.trans (congrArg some (by kernel_rfl))
  f318 := Tryd.func91.trans (congrArg some (by kernel_rfl))
  f319 := Tryd.func92.trans (congrArg some (by kernel_rfl))
  f320 := Tryd.func93.trans (congrArg some (by kernel_rfl))
  f337 := Tryd.func96.trans (congrArg some (by kernel_rfl))
  f338 := Tryd.func97.trans (congrArg some (by kernel_rfl))
  t0 := Tryd.underlying0
  a0 := Tryd.isAgg0
  z0 := Tryd.sizeOf0
  v0 := Tryd.zeroValue0
  t2 := Tryd.underlying2
  a2 := Tryd.isAgg2
  z2 := Tryd.sizeOf2
  v2 := Tryd.zeroValue2
  t3 := Tryd.underlying3
  a3 := Tryd.isAgg3
  z3 := Tryd.sizeOf3
  v3 := Tryd.zeroValue3
  t4 := Tryd.underlying4
  a4 := Tryd.isAgg4
  z4 := Tryd.sizeOf4
  v4 := Tryd.zeroValue4
  t5 := Tryd.underlying5
  a5 := Tryd.isAgg5
  z5 := Tryd.sizeOf5
  v5 := Tryd.zeroValue5
  t9 := Tryd.underlying9
  a9 := Tryd.isAgg9
  z9 := Tryd.sizeOf9
  v9 := Tryd.zeroValue9
  t20 := Tryd.underlying20
  a20 := Tryd.isAgg20
  z20 := Tryd.sizeOf20
  v20 := Tryd.zeroValue20
  t37 := Tryd.underlying78
  a37 := Tryd.isAgg78
  z37 := Tryd.sizeOf78
  v37 := Tryd.zeroValue78
  t46 := Tryd.underlying103
  a46 := Tryd.isAgg103
  z46 := Tryd.sizeOf103
  v46 := Tryd.zeroValue103
  t51 := Tryd.underlying141
  a51 := Tryd.isAgg141
  z51 := Tryd.sizeOf141
  v51 := Tryd.zeroValue141
  t53 := Tryd.underlying100
  a53 := Tryd.isAgg100
  z53 := Tryd.sizeOf100
  v53 := Tryd.zeroValue100
  t171 := Tryd.underlying126
  a171 := Tryd.isAgg126
  z171 := Tryd.sizeOf126
  v171 := Tryd.zeroValue126
  t173 := Tryd.underlying129
  a173 := Tryd.isAgg129
  z173 := Tryd.sizeOf129
  v173 := Tryd.zeroValue129
  t212 := Tryd.underlying140
  a212 := Tryd.isAgg140
  z212 := Tryd.sizeOf140
  v212 := Tryd.zeroValue140
  t213 := Tryd.underlying142
  a213 := Tryd.isAgg142
  z213 := Tryd.sizeOf142
  t232 := Tryd.underlying149
  a232 := Tryd.isAgg149
  z232 := Tryd.sizeOf149
  v232 := Tryd.zeroValue149
  t233 := Tryd.underlying150
  a233 := Tryd.isAgg150
  z233 := Tryd.sizeOf150
  v233 := Tryd.zeroValue150
  g17 := by kernel_rfl
  g18 := by kernel_rfl
  g19 := by kernel_rfl
  i0 := by kernel_rfl
  i2 := by kernel_rfl
  i3 := by kernel_rfl
  i4 := by kernel_rfl
  i5 := by kernel_rfl
  i9 := by kernel_rfl
  i20 := by kernel_rfl
  i37 := by kernel_rfl
  i46 := by kernel_rfl
  i51 := by kernel_rfl
  i53 := by kernel_rfl
  i171 := by kernel_rfl
  i173 := by kernel_rfl
  i212 := by kernel_rfl
  i232 := by kernel_rfl
  i233 := by kernel_rfl
  m17 := by kernel_rfl
  m18 := by kernel_rfl
  m19 := by kernel_rfl }
open Go.Proofs Go.RowKit Go.Sort Go.Lib in
theorem strconv_FormatInt_10 (n : Int) (h0 : -9223372036854775808 ≤ n) (h1 : n ≤ 9223372036854775807) (w : World) (htab : Lib.TabIs Tryd.prog w "internal/strconv.uint64pow10" .u64 Lib.pow10Tab) :
    Calls Tryd.prog 47 #[.int .i64 n, .int .i64 10] w fun e w' => e = .returned (.string ⟨(Lib.itoa n).toArray⟩) ∧ ∃ k os, w' = grow (w.drewN k) os := Any.strconv_FormatInt_10 laysM173 n h0 h1 w htab
open Go.Proofs Go.Shelf Go.RowKit Go.Sort Go.Lib in
theorem decimal_call (n : Int) (h0 : -9223372036854775808 ≤ n) (h1 : n ≤ 9223372036854775807) (w : World) (htab : Lib.TabIs Tryd.prog w "internal/strconv.uint64pow10" .u64 Lib.pow10Tab) :
    Calls Tryd.prog 33 #[.int .i64 n] w fun e w' => e = .returned (.string ⟨(Lib.itoa n).toArray⟩) ∧ Below w.heap.size w w' := by
  have e47 : ∀ args w, (callFunc 47 args).run Tryd.prog w = .ok (.enter 47 args) w := fun args w => Go.MuLone.run_callFunc_enter Tryd.func47 (by kernel_rfl) rfl args w
  go_enter Tryd.func33, Tryd.ntmps33
  go_wp2_with (go_at_fn 47; refine (strconv_FormatInt_10 n h0 h1 _ htab).mono ?_; rintro e w' ⟨rfl, k, os, rfl⟩)
  go_ret
  exact ⟨rfl, ⟨rfl, rfl, rfl, by simp [grow, World.drewN], fun k hk => by simp [grow, World.drewN, Array.getElem?_append, hk]⟩⟩

def laysC174_ren : Go.Shelf.Ren := ⟨fun | 174 => 32 | 247 => 45 | 245 => 46 | 287 => 58 | 279 => 59 | 280 => 60 | 281 => 61 | 282 => 62 | 321 => 74 | 322 => 75 | 316 => 76 | 171 => 78 | 205 => 77 | 243 => 88 | 246 => 63 | 283 => 79 | 284 => 80 | 285 => 81 | 286 => 82 | 129 => 90 | 317 => 89 | 318 => 91 | 319 => 92 | 320 => 93 | 337 => 96 | 338 => 97 | n => n, fun | 9 => 9 | 3 => 3 | 2 => 2 | 75 => 62 | 85 => 63 | 4 => 4 | 167 => 99 | 5 => 5 | 53 => 100 | 175 => 101 | 46 => 103 | 168 => 104 | 37 => 78 | 0 => 0 | 210 => 123 | 21 => 21 | 127 => 133 | 145 => 137 | 143 => 135 | 171 => 126 | 173 => 129 | 212 => 140 | 51 => 141 | 20 => 20 | 213 => 142 | 232 => 149 | 233 => 150 | 80 => 118 | n => n, fun | 15 => 0 | 16 => 1 | 17 => 2 | 18 => 4 | 19 => 5 | n => n⟩
theorem laysC174 : Go.Proofs.LaysC.n174 Tryd.prog laysC174_ren := {
  mixed := by kernel_rfl
  f129 := Tryd.func90.trans (congrArg some (by kernel_rfl))
  f171 := Tryd.func78.trans (congrArg some (by kernel_rfl))
  f174 := Tryd.func32.trans (congrArg some (by kernel_rfl))
  f205 := Tryd.func77.trans (congrArg some (by kernel_rfl))
  f243 := Tryd.func88.trans (congrArg some (by kernel_rfl))
  f245 := Tryd.func46.trans (congrArg some (by kernel_rfl))
  f246 := Tryd.func63.trans (congrArg some (by kernel_rfl))
  f247 := Tryd.func45.trans (congrArg some (by kernel_rfl))
  f279 := Tryd.func59.trans (congrArg some (by kernel_rfl))
  f280 := Tryd.func60.trans (congrArg some (by kernel_rfl))
  f281 := Tryd.func61.trans (congrArg some (by kernel_rfl))
  f282 := Tryd.func62.trans (congrArg some (by kernel_rfl))
  f283 := Tryd.func79.trans (congrArg some (by kernel_rfl))
  f284 := Tryd.func80.trans (congrArg some (by kernel_rfl))
  f285 := Tryd.func81.trans (congrArg some (by kernel_rfl))
  f286 := Tryd.func82.trans (congrArg some (by kernel_rfl))
  f287 := Tryd.func58.trans (congrArg some (by kernel_rfl))
  f316 := Tryd.func76.trans (congrArg some (by kernel_rfl))
  f317 := Tryd.func89.trans (congrArg some (by kernel_rfl))
  f318 := Tryd.func91.trans (congrArg some (by kernel_rfl))
  f319 := Tryd.func92.trans (congrArg some (by kernel_rfl))
  f320 := Tryd.func93.trans (congrArg some (by kernel_rfl))
  f321 := Tryd.func74.trans (congrArg some (by kernel_rfl))
  f322 := Tryd.func75.trans (congrArg some (by kernel_rfl))
  f337 := Tryd.func96.trans (congrArg some (by kernel_rfl))
  f338 := Tryd.func97.trans (congrArg some (by kernel_rfl))
  t0 := Tryd.underlying0
  a0 := Tryd.isAgg0
  z0 := Tryd.sizeOf0
  v0 := Tryd.zeroValue0
  t2 := Tryd.underlying2
  a2 := Tryd.isAgg2
  z2 := Tryd.sizeOf2
  v2 := Tryd.zeroValue2
  t3 := Tryd.underlying3
  a3 := Tryd.isAgg3
  z3 := Tryd.sizeOf3
  v3 := Tryd.zeroValue3
  t4 := Tryd.underlying4
  a4 := Tryd.isAgg4
  z4 := Tryd.sizeOf4
  v4 := Tryd.zeroValue4
  t5 := Tryd.underlying5
  a5 := Tryd.isAgg5
  z5 := Tryd.sizeOf5
  v5 := Tryd.zeroValue5
  t9 := Tryd.underlying9
  a9 := Tryd.isAgg9
  z9 := Tryd.sizeOf9
  v9 := Tryd.zeroValue9
  t20 := Tryd.underlying20
  a20 := Tryd.isAgg20
  z20 := Tryd.sizeOf20
  v20 := Tryd.zeroValue20
  t21 := Tryd.underlying21
  a21 := Tryd.isAgg21
  z21 := Tryd.sizeOf21
  v21 := Tryd.zeroValue21
  t37 := Tryd.underlying78
  a37 := Tryd.isAgg78
  z37 := Tryd.sizeOf78
  v37 := Tryd.zeroValue78
  t46 := Tryd.underlying103
  a46 := Tryd.isAgg103
  z46 := Tryd.sizeOf103
  v46 := Tryd.zeroValue103
  t51 := Tryd.underlying141
  a51 := Tryd.isAgg141
  z51 := Tryd.sizeOf141
  v51 := Tryd.zeroValue141
  t53 := Tryd.underlying100
  a53 := Tryd.isAgg100
  z53 := Tryd.sizeOf100
  v53 := Tryd.zeroValue100
  t75 := Tryd.underlying62
  a75 := Tryd.isAgg62
  z75 := Tryd.sizeOf62
  v75 := Tryd.zeroValue62
  t85 := Tryd.underlying63
  a85 := Tryd.isAgg63
  z85 := Tryd.sizeOf63
  v85 := Tryd.zeroValue63
  t127 := Tryd.underlying133
  a127 := Tryd.isAgg133
  z127 := Tryd.sizeOf133
  v127 := Tryd.zeroValue133
  t143 := Tryd.underlying135
  a143 := Tryd.isAgg135
  z143 := Tryd.sizeOf135
  v143 := Tryd.zeroValue135
  t145 := Tryd.underlying137
  a145 := Tryd.isAgg137
  z145 := Tryd.sizeOf137
  v145 := Tryd.zeroValue137
  t167 := Tryd.underlying99
  a167 := Tryd.isAgg99
  z167 := Tryd.sizeOf99
  v167 := Tryd.zeroValue99
  t168 := Tryd.underlying104
  a168 := Tryd.isAgg104
  z168 := Tryd.sizeOf104
  v168 := Tryd.zeroValue104
  t171 := Tryd.underlying126
  a171 := Tryd.isAgg126
  z171 := Tryd.sizeOf126
  v171 := Tryd.zeroValue126
  t173 := Tryd.underlying129
  a173 := Tryd.isAgg129
  z173 := Tryd.sizeOf129
  v173 := Tryd.zeroValue129
  t175 := Tryd.underlying101
  a175 := Tryd.isAgg101
  z175 := Tryd.sizeOf101
  v175 := Tryd.zeroValue101
  t210 := Tryd.underlying123
  a210 := Tryd.isAgg123
  z210 := Tryd.sizeOf123
  v210 := Tryd.zeroValue123
  t212 := Tryd.underlying140
  a212 := Tryd.isAgg140
  z212 := Tryd.sizeOf140
  v212 := Tryd.zeroValue140
  t213 := Tryd.underlying142
  a213 := Tryd.isAgg142
  z213 := Tryd.sizeOf142
  t232 := Tryd.underlying149
  a232 := Tryd.isAgg149
  z232 := Tryd.sizeOf149
  v232 := Tryd.zeroValue149
  t233 := Tryd.underlying150
  a233 := Tryd.isAgg150
  z233 := Tryd.sizeOf150
  v233 := Tryd.zeroValue150
  g15 := by kernel_rfl
  g16 := by kernel_rfl
  g17 := by kernel_rfl
  g18 := by kernel_rfl
  g19 := by kernel_rfl
  t80 := Tryd.underlying118
  a80 := Tryd.isAgg118
  z80 := Tryd.sizeOf118
  v80 := Tryd.zeroValue118
  i0 := by kernel_rfl
  i2 := by kernel_rfl
  i3 := by kernel_rfl
  i4 := by kernel_rfl
  i5 := by kernel_rfl
  i9 := by kernel_rfl
  i20 := by kernel_rfl
  i21 := by kernel_rfl
  i37 := by kernel_rfl
  i46 := by kernel_rfl
  i51 := by kernel_rfl
  i53 := by kernel_rfl
  i75 := by kernel_rfl
  i80 := by kernel_rfl
  i85 := by kernel_rfl
  i127 := by kernel_rfl
  i143 := by kernel_rfl
  i145 := by kernel_rfl
  i167 := by kernel_rfl
  i168 := by kernel_rfl
  i171 := by kernel_rfl
  i173 := by kernel_rfl
  i175 := by kernel_rfl
  i210 := by kernel_rfl
  i212 := by kernel_rfl
  i232 := by kernel_rfl
  i233 := by kernel_rfl
  m15 := by kernel_rfl
  m16 := by kernel_rfl
  m17 := by kernel_rfl
  m18 := by kernel_rfl
  m19 := by kernel_rfl
  c0 := by kernel_rfl
  c2 := by kernel_rfl
  c3 := by kernel_rfl
  c4 := by kernel_rfl
  c5 := by kernel_rfl
  c9 := by kernel_rfl
  c20 := by kernel_rfl
  c21 := by kernel_rfl
  c37 := by kernel_rfl
  c46 := by kernel_rfl
  c51 := by kernel_rfl
  c53 := by kernel_rfl
  c75 := by kernel_rfl
  c80 := by kernel_rfl
  c85 := by kernel_rfl
  c127 := by kernel_rfl
  c143 := by kernel_rfl
  c145 := by kernel_rfl
  c167 := by kernel_rfl
  c168 := by kernel_rfl
  c171 := by kernel_rfl
  c173 := by kernel_rfl
  c175 := by kernel_rfl
  c210 := by kernel_rfl
  c212 := by kernel_rfl
  c213 := by kernel_rfl
  c232 := by kernel_rfl
  c233 := by kernel_rfl }
open Go.Proofs Go.RowKit in
theorem strconv_ParseInt_10_at64_ok (s : ByteArray) (hmax : s.size ≤ 9223372036854775806) (v : Int) (h : Lib.parseIntB 64 s.data.toList = .ok v) (w : World) :
    Calls Tryd.prog 32 #[.string s, .int .i64 10, .int .i64 64] w fun e w' => e = .returned (.tuple #[.int .i64 v, .nilIface]) ∧ (w' = w ∨ ∃ t, w' = Lib.bytesWorld w 5 t) := Any.strconv_ParseInt_10_at64_ok laysC174 s hmax v h w
open Go.Proofs Go.RowKit in
theorem strconv_ParseInt_10_at64_syntax_var (s : ByteArray) (hlim : s.size ≤ 281474976710656) (h : Lib.parseIntB 64 s.data.toList = Go.Lib.NumEnd.syntax) (tp : TypeId) (p : Value) (w : World) (hvar : w.var? Tryd.prog "strconv.ErrSyntax" = some #[.iface tp p]) :
    Calls Tryd.prog 32 #[.string s, .int .i64 10, .int .i64 64] w fun e w' => ∃ N, e = .returned (.tuple #[.int .i64 (0), .iface 104 (.pointer (some ⟨N, 0, none⟩))]) ∧ w.heap.size ≤ N ∧ w'.heap[N]? = some (.cells #[.string ⟨#[80, 97, 114, 115, 101, 73, 110, 116]⟩, .string s, .iface tp p] 123 (0, 0)) ∧ Below w.heap.size w w' := Any.strconv_ParseInt_10_at64_syntax_var laysC174 s hlim h tp p w hvar
open Go.Proofs Go.RowKit in
theorem strconv_ParseInt_10_at64_range_var (s : ByteArray) (hlim : s.size ≤ 281474976710656) (h : Lib.parseIntB 64 s.data.toList = .range) (tp : TypeId) (p : Value) (w : World) (hvar : w.var? Tryd.prog "strconv.ErrRange" = some #[.iface tp p]) :
    Calls Tryd.prog 32 #[.string s, .int .i64 10, .int .i64 64] w fun e w' => ∃ N, e = .returned (.tuple #[.int .i64 (Lib.intSat 64 s.data.toList), .iface 104 (.pointer (some ⟨N, 0, none⟩))]) ∧ w.heap.size ≤ N ∧ w'.heap[N]? = some (.cells #[.string ⟨#[80, 97, 114, 115, 101, 73, 110, 116]⟩, .string s, .iface tp p] 123 (0, 0)) ∧ Below w.heap.size w w' := Any.strconv_ParseInt_10_at64_range_var laysC174 s hlim h tp p w hvar
open Go.Proofs Go.Shelf Go.RowKit Go.Sort Go.Lib in
theorem within_call (n a b : Int) (w : World) : Calls Tryd.prog 20 #[.int .i64 n, .int .i64 a, .int .i64 b] w fun e w' => e = .returned (.bool (decide (a ≤ n) && decide (n ≤ b))) ∧ w' = w := by
  go_enter Tryd.func20, Tryd.ntmps20
  go_wp2
  all_goals (go_ret; simp_all <;> omega)
open Go.Proofs Go.Shelf Go.RowKit Go.Sort Go.Lib in
set_option maxHeartbeats 2000000 in
theorem read_ok (s : ByteArray) (hmax : s.size ≤ 281474976710656) (v : Int) (h : Lib.parseIntB 64 s.data.toList = .ok v) (h0 : -9223372036854775808 ≤ v) (h1 : v ≤ 9223372036854775807) (w : World)
    (htab : ∀ w', Below w.heap.size w w' → Lib.TabIs Tryd.prog w' "internal/strconv.uint64pow10" .u64 Lib.pow10Tab) :
    Calls Tryd.prog 22 #[.string s] w fun e w' => e = .returned (.tuple #[.int .i64 v, .bool (decide (0 ≤ v) && decide (v ≤ 9999) && (Lib.itoa v == s.data.toList))]) ∧ Below w.heap.size w w' := by
  have e32 : ∀ args w, (callFunc 32 args).run Tryd.prog w = .ok (.enter 32 args) w := fun args w => Go.MuLone.run_callFunc_enter Tryd.func32 (by kernel_rfl) rfl args w
  have e33 : ∀ args w, (callFunc 33 args).run Tryd.prog w = .ok (.enter 33 args) w := fun args w => Go.MuLone.run_callFunc_enter Tryd.func33 (by kernel_rfl) rfl args w
  have e20 : ∀ args w, (callFunc 20 args).run Tryd.prog w = .ok (.enter 20 args) w := fun args w => Go.MuLone.run_callFunc_enter Tryd.func20 (by kernel_rfl) rfl args w
  go_enter Tryd.func22, Tryd.ntmps22
  go_wp2_with (go_at_fn 32; refine (strconv_ParseInt_10_at64_ok s (by omega) v h _).mono ?_)
  rintro e W1 ⟨rfl, hW⟩
  have hb1 : Below w.heap.size w W1 := by
    rcases hW with rfl | ⟨t, rfl⟩
    · exact Below.refl _ _
    · exact Lib.bytesWorld_below _ _ _
  clear hW
  go_wp2_with (go_at_fn 20; refine (within_call _ _ _ _).mono ?_; rintro e w' ⟨rfl, rfl⟩)
  · refine (decimal_call v h0 h1 _ (htab _ hb1)).mono ?_
    rintro e w2 ⟨rfl, hb2⟩
    go_wp2
    go_ret2
    rename_i hv
    refine ⟨?_, hb1.trans ⟨hb2.os, hb2.tape, hb2.output, hb2.size, fun k hk => hb2.block k (Nat.lt_of_lt_of_le hk hb1.size)⟩⟩
    simp [hv.1, hv.2, ByteArray.toList_eq]
  · rename_i hv
    go_ret2
    refine ⟨?_, hb1⟩
    have : (decide (0 ≤ v) && decide (v ≤ 9999)) = false := by simpa using hv
    simp [this]
open Go.Proofs Go.Shelf Go.RowKit Go.Sort Go.Lib in
set_option maxHeartbeats 2000000 in
theorem read_syntax (s : ByteArray) (hmax : s.size ≤ 281474976710656) (h : Lib.parseIntB 64 s.data.toList = Lib.NumEnd.syntax) (w : World) (tp : TypeId) (p : Value) (hvar : w.var? Tryd.prog "strconv.ErrSyntax" = some #[.iface tp p]) :
    Calls Tryd.prog 22 #[.string s] w fun e w' => e = .returned (.tuple #[.int .i64 0, .bool false]) ∧ Below w.heap.size w w' := by
  have e32 : ∀ args w, (callFunc 32 args).run Tryd.prog w = .ok (.enter 32 args) w := fun args w => Go.MuLone.run_callFunc_enter Tryd.func32 (by kernel_rfl) rfl args w
  go_enter Tryd.func22, Tryd.ntmps22
  go_wp2_with (go_at_fn 32; refine (strconv_ParseInt_10_at64_syntax_var s hmax h tp p _ hvar).mono ?_)
  rintro e W1 ⟨N, rfl, _, _, hb1⟩
  go_wp2
  go_ret2
  exact ⟨rfl, hb1⟩
open Go.Proofs Go.Shelf Go.RowKit Go.Sort Go.Lib in
set_option maxHeartbeats 2000000 in
theorem read_range (s : ByteArray) (hmax : s.size ≤ 281474976710656) (h : Lib.parseIntB 64 s.data.toList = .range) (w : World) (tp : TypeId) (p : Value) (hvar : w.var? Tryd.prog "strconv.ErrRange" = some #[.iface tp p]) :
    Calls Tryd.prog 22 #[.string s] w fun e w' => e = .returned (.tuple #[.int .i64 (Lib.intSat 64 s.data.toList), .bool false]) ∧ Below w.heap.size w w' := by
  have e32 : ∀ args w, (callFunc 32 args).run Tryd.prog w = .ok (.enter 32 args) w := fun args w => Go.MuLone.run_callFunc_enter Tryd.func32 (by kernel_rfl) rfl args w
  go_enter Tryd.func22, Tryd.ntmps22
  go_wp2_with (go_at_fn 32; refine (strconv_ParseInt_10_at64_range_var s hmax h tp p _ hvar).mono ?_)
  rintro e W1 ⟨N, rfl, _, _, hb1⟩
  go_wp2
  go_ret2
  exact ⟨rfl, hb1⟩

def F_impl_readNumber (n : Nat) (a0 : List Int) : Option (Int × Bool × Unit) := LaidLib.readF a0
def ps_impl_readNumber : List PSh := [.val .str []]
def rs_impl_readNumber : List RSh := [.val (.int .i64) [] [], .val .bool [] []]
def E_impl_readNumber : Entry := ⟨22, ps_impl_readNumber, rs_impl_readNumber, fun n (c : Cont (kin ps_impl_readNumber)) => F_impl_readNumber n c.1⟩
theorem K_impl_readNumber [Fr] [LaidLib.LaidTab Go.Proofs.Tryd.prog] [LaidLib.LaidErr Go.Proofs.Tryd.prog] (n : Nat) : EntryOk Go.Proofs.Tryd.prog n E_impl_readNumber := LaidLib.read_entry read_ok read_syntax read_range (Go.MuLone.run_callFunc_enter Go.Proofs.Tryd.func22 (by kernel_rfl) rfl)
/-- loop.example/g00447/impl.MirrorCount -/
def F_impl_MirrorCount (n : Nat) (a0 : Int) (a1 : List (List Int)) : Option ((Int × Int × Unit) × Unit) := ((F_impl_within n a0 (0 : Int) (999 : Int)).bind fun r1 => (if (!r1.1) = true then some (((3 : Int), (0 : Int), ()), ()) else (rounds (fun L2 (v2 : Int × (List (List Int)) × Int × Int × (Int × Int × Unit) × Unit) => (if decide (v2.2.2.2.1 < v2.2.2.1) = true then (if inLen v2.2.2.2.1 v2.2.1.length then ((F_strings_CutPrefix n (v2.2.1.getD v2.2.2.2.1.toNat ([] : List Int)) [42, 32, 101, 120, 105, 115, 116, 115, 32]).bind fun r3 => (if (!r3.2.1) = true then ((F_strings_CutPrefix n (v2.2.1.getD v2.2.2.2.1.toNat ([] : List Int)) [42, 32, 103, 111, 110, 101, 32]).bind fun r4 => ((F_impl_readNumber n r4.1).bind fun r5 => (if r5.2.1 = true then (if decide ((v2.2.1.getD v2.2.2.2.1.toNat ([] : List Int)) = [42, 32, 99, 108, 111, 115, 101, 100]) = true then L2 ((0 : Int), v2.2.1, v2.2.2.1, IntKind.i64.wrap (v2.2.2.2.1 + (1 : Int)), v2.2.2.2.2.1, ()) else (if r3.2.1 = true then (if decide (r5.1 ≤ (999 : Int)) = true then L2 (r5.1, v2.2.1, v2.2.2.1, IntKind.i64.wrap (v2.2.2.2.1 + (1 : Int)), v2.2.2.2.2.1, ()) else (if decide (r5.1 ≤ (999 : Int)) = true then (if [42, 32, 103, 111, 110, 101, 32].length + r4.1.length ≤ 9223372036854775807 then (if decide ((v2.2.1.getD v2.2.2.2.1.toNat ([] : List Int)) = ([42, 32, 103, 111, 110, 101, 32] ++ r4.1)) = true then L2 ((if (IntKind.i64.wrap (v2.1 - (1 : Int))) > (0 : Int) then IntKind.i64.wrap (v2.1 - (1 : Int)) else (0 : Int)), v2.2.1, v2.2.2.1, IntKind.i64.wrap (v2.2.2.2.1 + (1 : Int)), v2.2.2.2.2.1, ()) else L2 (v2.1, v2.2.1, v2.2.2.1, IntKind.i64.wrap (v2.2.2.2.1 + (1 : Int)), v2.2.2.2.2.1, ())) else none) else L2 (v2.1, v2.2.1, v2.2.2.1, IntKind.i64.wrap (v2.2.2.2.1 + (1 : Int)), v2.2.2.2.2.1, ()))) else (if decide (r5.1 ≤ (999 : Int)) = true then (if [42, 32, 103, 111, 110, 101, 32].length + r4.1.length ≤ 9223372036854775807 then (if decide ((v2.2.1.getD v2.2.2.2.1.toNat ([] : List Int)) = ([42, 32, 103, 111, 110, 101, 32] ++ r4.1)) = true then L2 ((if (IntKind.i64.wrap (v2.1 - (1 : Int))) > (0 : Int) then IntKind.i64.wrap (v2.1 - (1 : Int)) else (0 : Int)), v2.2.1, v2.2.2.1, IntKind.i64.wrap (v2.2.2.2.1 + (1 : Int)), v2.2.2.2.2.1, ()) else L2 (v2.1, v2.2.1, v2.2.2.1, IntKind.i64.wrap (v2.2.2.2.1 + (1 : Int)), v2.2.2.2.2.1, ())) else none) else L2 (v2.1, v2.2.1, v2.2.2.1, IntKind.i64.wrap (v2.2.2.2.1 + (1 : Int)), v2.2.2.2.2.1, ())))) else (if decide ((v2.2.1.getD v2.2.2.2.1.toNat ([] : List Int)) = [42, 32, 99, 108, 111, 115, 101, 100]) = true then L2 ((0 : Int), v2.2.1, v2.2.2.1, IntKind.i64.wrap (v2.2.2.2.1 + (1 : Int)), v2.2.2.2.2.1, ()) else (if r3.2.1 = true then L2 (v2.1, v2.2.1, v2.2.2.1, IntKind.i64.wrap (v2.2.2.2.1 + (1 : Int)), v2.2.2.2.2.1, ()) else L2 (v2.1, v2.2.1, v2.2.2.1, IntKind.i64.wrap (v2.2.2.2.1 + (1 : Int)), v2.2.2.2.2.1, ())))))) else ((F_impl_readNumber n r3.1).bind fun r6 => (if r6.2.1 = true then (if decide ((v2.2.1.getD v2.2.2.2.1.toNat ([] : List Int)) = [42, 32, 99, 108, 111, 115, 101, 100]) = true then L2 ((0 : Int), v2.2.1, v2.2.2.1, IntKind.i64.wrap (v2.2.2.2.1 + (1 : Int)), v2.2.2.2.2.1, ()) else (if r3.2.1 = true then (if decide (r6.1 ≤ (999 : Int)) = true then L2 (r6.1, v2.2.1, v2.2.2.1, IntKind.i64.wrap (v2.2.2.2.1 + (1 : Int)), v2.2.2.2.2.1, ()) else (if decide (r6.1 ≤ (999 : Int)) = true then (if [42, 32, 103, 111, 110, 101, 32].length + r3.1.length ≤ 9223372036854775807 then (if decide ((v2.2.1.getD v2.2.2.2.1.toNat ([] : List Int)) = ([42, 32, 103, 111, 110, 101, 32] ++ r3.1)) = true then L2 ((if (IntKind.i64.wrap (v2.1 - (1 : Int))) > (0 : Int) then IntKind.i64.wrap (v2.1 - (1 : Int)) else (0 : Int)), v2.2.1, v2.2.2.1, IntKind.i64.wrap (v2.2.2.2.1 + (1 : Int)), v2.2.2.2.2.1, ()) else L2 (v2.1, v2.2.1, v2.2.2.1, IntKind.i64.wrap (v2.2.2.2.1 + (1 : Int)), v2.2.2.2.2.1, ())) else none) else L2 (v2.1, v2.2.1, v2.2.2.1, IntKind.i64.wrap (v2.2.2.2.1 + (1 : Int)), v2.2.2.2.2.1, ()))) else (if decide (r6.1 ≤ (999 : Int)) = true then (if [42, 32, 103, 111, 110, 101, 32].length + r3.1.length ≤ 9223372036854775807 then (if decide ((v2.2.1.getD v2.2.2.2.1.toNat ([] : List Int)) = ([42, 32, 103, 111, 110, 101, 32] ++ r3.1)) = true then L2 ((if (IntKind.i64.wrap (v2.1 - (1 : Int))) > (0 : Int) then IntKind.i64.wrap (v2.1 - (1 : Int)) else (0 : Int)), v2.2.1, v2.2.2.1, IntKind.i64.wrap (v2.2.2.2.1 + (1 : Int)), v2.2.2.2.2.1, ()) else L2 (v2.1, v2.2.1, v2.2.2.1, IntKind.i64.wrap (v2.2.2.2.1 + (1 : Int)), v2.2.2.2.2.1, ())) else none) else L2 (v2.1, v2.2.1, v2.2.2.1, IntKind.i64.wrap (v2.2.2.2.1 + (1 : Int)), v2.2.2.2.2.1, ())))) else (if decide ((v2.2.1.getD v2.2.2.2.1.toNat ([] : List Int)) = [42, 32, 99, 108, 111, 115, 101, 100]) = true then L2 ((0 : Int), v2.2.1, v2.2.2.1, IntKind.i64.wrap (v2.2.2.2.1 + (1 : Int)), v2.2.2.2.2.1, ()) else (if r3.2.1 = true then L2 (v2.1, v2.2.1, v2.2.2.1, IntKind.i64.wrap (v2.2.2.2.1 + (1 : Int)), v2.2.2.2.2.1, ()) else L2 (v2.1, v2.2.1, v2.2.2.1, IntKind.i64.wrap (v2.2.2.2.1 + (1 : Int)), v2.2.2.2.2.1, ()))))))) else none) else some (((0 : Int), v2.1, ()), ()))) n (a0, a1, (a1.length : Int), (0 : Int), ((0 : Int), (0 : Int), ()), ()))))
def ps_impl_MirrorCount : List PSh := [.val (.int .i64) [], .val (.sl 9 .str) []]
def rs_impl_MirrorCount : List RSh := [.val (.st (.pair (.int .i64) (.pair (.int .i64) .unit))) [] []]
def E_impl_MirrorCount : Entry := ⟨8, ps_impl_MirrorCount, rs_impl_MirrorCount, fun n (c : Cont (kin ps_impl_MirrorCount)) => F_impl_MirrorCount n c.1 c.2.1⟩
def H_impl_MirrorCount : Hint := ⟨0, [], [(0, [0, 4, 15, 16, 17], [130])], [], [(20, some 12, E_impl_within), (21, some 23, E_strings_CutPrefix), (21, some 30, E_strings_CutPrefix), (22, some 35, E_impl_readNumber)], [], []⟩
theorem D_impl_MirrorCount : ∀ n (c : Cont (kin ps_impl_MirrorCount)), denF T H_impl_MirrorCount Go.Proofs.Tryd.f8 ps_impl_MirrorCount rs_impl_MirrorCount n c = E_impl_MirrorCount.F n c := by intro n c; kernel_rfl
theorem K_impl_MirrorCount [Fr] [LaidLib.LaidTab Go.Proofs.Tryd.prog] [LaidLib.LaidErr Go.Proofs.Tryd.prog] (n : Nat) : EntryOk Go.Proofs.Tryd.prog n E_impl_MirrorCount := fn_entry mixed tabOk (E := E_impl_MirrorCount) Go.Proofs.Tryd.func8 (by kernel_rfl) (hi := H_impl_MirrorCount) (ca_cons (K_impl_within n) (ca_cons (K_strings_CutPrefix n) (ca_cons (K_strings_CutPrefix n) (ca_cons (K_impl_readNumber n) ca_nil)))) D_impl_MirrorCount
/-- loop.example/g00447/laws.eqIntResult -/
def F_laws_eqIntResult (n : Nat) (a0 : Int × Int × Unit) (a1 : Int × Int × Unit) : Option (Bool × Unit) := (if (!decide (a0.1 = a1.1)) = true then some (false, ()) else (if (!decide (a0.2.1 = a1.2.1)) = true then some (false, ()) else some (true, ())))
def ps_laws_eqIntResult : List PSh := [.val (.st (.pair (.int .i64) (.pair (.int .i64) .unit))) [], .val (.st (.pair (.int .i64) (.pair (.int .i64) .unit))) []]
def rs_laws_eqIntResult : List RSh := [.val .bool [] []]
def E_laws_eqIntResult : Entry := ⟨9, ps_laws_eqIntResult, rs_laws_eqIntResult, fun n (c : Cont (kin ps_laws_eqIntResult)) => F_laws_eqIntResult n c.1 c.2.1⟩
def H_laws_eqIntResult : Hint := ⟨0, [], [], [], [], [], []⟩
theorem D_laws_eqIntResult : ∀ n (c : Cont (kin ps_laws_eqIntResult)), denF T H_laws_eqIntResult Go.Proofs.Tryd.f9 ps_laws_eqIntResult rs_laws_eqIntResult n c = E_laws_eqIntResult.F n c := by intro n c; kernel_rfl
theorem K_laws_eqIntResult [Fr] [LaidLib.LaidTab Go.Proofs.Tryd.prog] [LaidLib.LaidErr Go.Proofs.Tryd.prog] (n : Nat) : EntryOk Go.Proofs.Tryd.prog n E_laws_eqIntResult := fn_entry mixed tabOk (E := E_laws_eqIntResult) Go.Proofs.Tryd.func9 (by kernel_rfl) (hi := H_laws_eqIntResult) ca_nil D_laws_eqIntResult
/-- loop.example/g00447/laws.eqStringS -/
def F_laws_eqStringS (n : Nat) (a0 : List (List Int)) (a1 : List (List Int)) : Option (Bool × Unit) := (if (!decide ((a0.length : Int) = (a1.length : Int))) = true then some (false, ()) else (rounds (fun L1 (v1 : (List (List Int)) × (List (List Int)) × Int × Unit) => (if decide (v1.2.2.1 < (v1.1.length : Int)) = true then (if inLen v1.2.2.1 v1.1.length then (if inLen v1.2.2.1 v1.2.1.length then (if (!decide ((v1.1.getD v1.2.2.1.toNat ([] : List Int)) = (v1.2.1.getD v1.2.2.1.toNat ([] : List Int)))) = true then some (false, ()) else L1 (v1.1, v1.2.1, IntKind.i64.wrap (v1.2.2.1 + (1 : Int)), ())) else none) else none) else some (true, ()))) n (a0, a1, (0 : Int), ())))
def ps_laws_eqStringS : List PSh := [.val (.sl 9 .str) [], .val (.sl 9 .str) []]
def rs_laws_eqStringS : List RSh := [.val .bool [] []]
def E_laws_eqStringS : Entry := ⟨10, ps_laws_eqStringS, rs_laws_eqStringS, fun n (c : Cont (kin ps_laws_eqStringS)) => F_laws_eqStringS n c.1 c.2.1⟩
def H_laws_eqStringS : Hint := ⟨0, [], [(0, [0, 1, 5], [])], [], [], [], []⟩
theorem D_laws_eqStringS : ∀ n (c : Cont (kin ps_laws_eqStringS)), denF T H_laws_eqStringS Go.Proofs.Tryd.f10 ps_laws_eqStringS rs_laws_eqStringS n c = E_laws_eqStringS.F n c := by intro n c; kernel_rfl
theorem K_laws_eqStringS [Fr] [LaidLib.LaidTab Go.Proofs.Tryd.prog] [LaidLib.LaidErr Go.Proofs.Tryd.prog] (n : Nat) : EntryOk Go.Proofs.Tryd.prog n E_laws_eqStringS := fn_entry mixed tabOk (E := E_laws_eqStringS) Go.Proofs.Tryd.func10 (by kernel_rfl) (hi := H_laws_eqStringS) ca_nil D_laws_eqStringS
/-- loop.example/g00447/laws.FnExactMirrorCount -/
def F_laws_FnExactMirrorCount (n : Nat) (a0 : Int) (a1 : List (List Int)) : Option (Bool × Unit) := ((F_laws_szStringS n a1 (1048576 : Int)).bind fun r1 => (if decide (r1.1 < (0 : Int)) = true then some (true, ()) else ((F_laws_toStringS n a1).bind fun r2 => ((F_spec_MirrorCount n a0 r2.1).bind fun r3 => ((F_laws_toStringS n a1).bind fun r4 => ((F_impl_MirrorCount n a0 r4.1).bind fun r5 => ((F_laws_eqIntResult n r5.1 r3.1).bind fun r6 => (if (!r6.1) = true then some (false, ()) else ((F_laws_toStringS n a1).bind fun r7 => ((F_laws_eqStringS n r4.1 r7.1).bind fun r8 => (if (!r8.1) = true then some (false, ()) else some (true, ()))))))))))))
def ps_laws_FnExactMirrorCount : List PSh := [.val (.int .i64) [], .val (.sl 9 .str) []]
def rs_laws_FnExactMirrorCount : List RSh := [.val .bool [] []]
def E_laws_FnExactMirrorCount : Entry := ⟨3, ps_laws_FnExactMirrorCount, rs_laws_FnExactMirrorCount, fun n (c : Cont (kin ps_laws_FnExactMirrorCount)) => F_laws_FnExactMirrorCount n c.1 c.2.1⟩
def H_laws_FnExactMirrorCount : Hint := ⟨0, [], [], [], [(5, some 11, E_laws_szStringS), (7, some 16, E_laws_toStringS), (6, some 17, E_spec_MirrorCount), (7, some 19, E_laws_toStringS), (8, some 22, E_impl_MirrorCount), (9, some 25, E_laws_eqIntResult), (7, some 29, E_laws_toStringS), (10, some 30, E_laws_eqStringS)], [], []⟩
theorem D_laws_FnExactMirrorCount : ∀ n (c : Cont (kin ps_laws_FnExactMirrorCount)), denF T H_laws_FnExactMirrorCount Go.Proofs.Tryd.f3 ps_laws_FnExactMirrorCount rs_laws_FnExactMirrorCount n c = E_laws_FnExactMirrorCount.F n c := by intro n c; kernel_rfl
theorem K_laws_FnExactMirrorCount [Fr] [LaidLib.LaidTab Go.Proofs.Tryd.prog] [LaidLib.LaidErr Go.Proofs.Tryd.prog] (n : Nat) : EntryOk Go.Proofs.Tryd.prog n E_laws_FnExactMirrorCount := fn_entry mixed tabOk (E := E_laws_FnExactMirrorCount) Go.Proofs.Tryd.func3 (by kernel_rfl) (hi := H_laws_FnExactMirrorCount) (ca_cons (K_laws_szStringS n) (ca_cons (K_laws_toStringS n) (ca_cons (K_spec_MirrorCount n) (ca_cons (K_laws_toStringS n) (ca_cons (K_impl_MirrorCount n) (ca_cons (K_laws_eqIntResult n) (ca_cons (K_laws_toStringS n) (ca_cons (K_laws_eqStringS n) ca_nil)))))))) D_laws_FnExactMirrorCount
end Go.Proofs.YtcelknaomealbaaDoor.MirrorF
