/- What the functions of this law compute, as plain functions, and that the reading comes to them. No condition. -/
import Derived.Test.YtcelknaomealbaaDoorProg
import Derived.Test.YtcelknaomealbaaDoorOwF
import Derived.Test.YtcelknaomealbaaDoorJoinLib
import Derived.Test.YtcelknaomealbaaDoorLaidLib
import Derived.KernelRfl
set_option linter.unusedSectionVars false
set_option linter.unusedVariables false
set_option linter.unusedSimpArgs false
namespace Go.Proofs.YtcelknaomealbaaDoor.TextF
open Go Go.Proofs.YtcelknaomealbaaDoor Go.Proofs.YtcelknaomealbaaDoor.Ow
def tyL : TyL := ⟨[(2, (.int .i64)), (3, (.int .i64)), (4, .bool), (5, (.int .u8)), (6, (.int .u8)), (7, (.st (.pair (.int .i64) (.pair (.int .i64) (.pair .bool (.pair (.int .u8) .unit)))))), (8, (.st (.pair (.int .i64) (.pair (.int .i64) (.pair .bool (.pair (.int .u8) .unit)))))), (9, .str), (10, .str), (11, .str), (12, (.int .u64)), (13, (.st (.pair .str (.pair (.int .u64) .unit)))), (14, (.st (.pair .str (.pair (.int .u64) .unit)))), (21, (.int .i32)), (22, (.sl 9 .str)), (24, (.st (.pair (.int .i64) (.pair (.int .i64) .unit)))), (25, (.st (.pair (.int .i64) (.pair (.int .i64) .unit)))), (31, (.sl 69 (.st (.pair .str (.pair (.int .i64) (.pair (.int .i64) (.pair (.sl 108 (.st (.pair (.int .i64) (.pair (.int .i64) (.pair (.int .i64) (.pair (.sl 5 (.int .u8)) .unit)))))) .unit))))))), (32, (.st (.pair (.int .i64) (.pair (.sl 69 (.st (.pair .str (.pair (.int .i64) (.pair (.int .i64) (.pair (.sl 108 (.st (.pair (.int .i64) (.pair (.int .i64) (.pair (.int .i64) (.pair (.sl 5 (.int .u8)) .unit)))))) .unit)))))) .unit)))), (33, (.st (.pair (.int .i64) (.pair (.sl 69 (.st (.pair .str (.pair (.int .i64) (.pair (.int .i64) (.pair (.sl 108 (.st (.pair (.int .i64) (.pair (.int .i64) (.pair (.int .i64) (.pair (.sl 5 (.int .u8)) .unit)))))) .unit)))))) .unit)))), (35, (.st (.pair (.int .i64) (.pair .str .unit)))), (36, (.st (.pair (.int .i64) (.pair .str .unit)))), (38, (.sl 74 (.st (.pair .str (.pair (.int .i64) (.pair (.int .i64) (.pair (.sl 80 (.st (.pair (.int .i64) (.pair (.int .i64) (.pair (.int .i64) (.pair (.sl 5 (.int .u8)) .unit)))))) .unit))))))), (39, (.st (.pair (.int .i64) (.pair (.sl 74 (.st (.pair .str (.pair (.int .i64) (.pair (.int .i64) (.pair (.sl 80 (.st (.pair (.int .i64) (.pair (.int .i64) (.pair (.int .i64) (.pair (.sl 5 (.int .u8)) .unit)))))) .unit)))))) .unit)))), (40, (.st (.pair (.int .i64) (.pair (.sl 74 (.st (.pair .str (.pair (.int .i64) (.pair (.int .i64) (.pair (.sl 80 (.st (.pair (.int .i64) (.pair (.int .i64) (.pair (.int .i64) (.pair (.sl 5 (.int .u8)) .unit)))))) .unit)))))) .unit)))), (67, (.sl 108 (.st (.pair (.int .i64) (.pair (.int .i64) (.pair (.int .i64) (.pair (.sl 5 (.int .u8)) .unit))))))), (68, (.st (.pair .str (.pair (.int .i64) (.pair (.int .i64) (.pair (.sl 108 (.st (.pair (.int .i64) (.pair (.int .i64) (.pair (.int .i64) (.pair (.sl 5 (.int .u8)) .unit)))))) .unit)))))), (69, (.st (.pair .str (.pair (.int .i64) (.pair (.int .i64) (.pair (.sl 108 (.st (.pair (.int .i64) (.pair (.int .i64) (.pair (.int .i64) (.pair (.sl 5 (.int .u8)) .unit)))))) .unit)))))), (72, (.sl 80 (.st (.pair (.int .i64) (.pair (.int .i64) (.pair (.int .i64) (.pair (.sl 5 (.int .u8)) .unit))))))), (73, (.st (.pair .str (.pair (.int .i64) (.pair (.int .i64) (.pair (.sl 80 (.st (.pair (.int .i64) (.pair (.int .i64) (.pair (.int .i64) (.pair (.sl 5 (.int .u8)) .unit)))))) .unit)))))), (74, (.st (.pair .str (.pair (.int .i64) (.pair (.int .i64) (.pair (.sl 80 (.st (.pair (.int .i64) (.pair (.int .i64) (.pair (.int .i64) (.pair (.sl 5 (.int .u8)) .unit)))))) .unit)))))), (76, (.sl 2 (.int .i64))), (78, (.sl 5 (.int .u8))), (79, (.st (.pair (.int .i64) (.pair (.int .i64) (.pair (.int .i64) (.pair (.sl 5 (.int .u8)) .unit)))))), (80, (.st (.pair (.int .i64) (.pair (.int .i64) (.pair (.int .i64) (.pair (.sl 5 (.int .u8)) .unit)))))), (99, (.int .i64)), (100, (.int .u64)), (103, (.int .u64)), (108, (.st (.pair (.int .i64) (.pair (.int .i64) (.pair (.int .i64) (.pair (.sl 5 (.int .u8)) .unit)))))), (136, (.st (.pair .str .unit))), (137, (.st (.pair .str .unit))), (141, (.int .u32)), (157, (.int .u8)), (158, (.int .u8)), (160, (.int .i32)), (161, (.int .i32))], [(2, 8), (3, 8), (4, 1), (5, 1), (6, 1), (7, 24), (8, 24), (9, 16), (10, 16), (11, 16), (12, 8), (13, 24), (14, 24), (21, 4), (22, 24), (24, 16), (25, 16), (31, 24), (32, 32), (33, 32), (35, 24), (36, 24), (38, 24), (39, 32), (40, 32), (67, 24), (68, 56), (69, 56), (72, 24), (73, 56), (74, 56), (76, 24), (78, 24), (79, 48), (80, 48), (99, 8), (100, 8), (103, 8), (108, 48), (136, 16), (137, 16), (141, 4), (157, 1), (158, 1), (160, 4), (161, 4)], [15, 16, 17, 54, 71, 77, 104, 112, 133, 135]⟩
def T : Tab := tyL.tab
theorem tabOk : tabChk Go.Proofs.Tryd.prog tyL = true := by kernel_rfl
theorem mixed : Go.Proofs.Tryd.prog.follows .mixedOrders = true := by kernel_rfl
/-- loop.example/g00447/laws.szByteS -/
def F_laws_szByteS (n : Nat) (a0 : List Int) (a1 : Int) : Option (Int × Unit) := (if decide ((IntKind.i64.wrap (a1 - (a0.length : Int))) < (0 : Int)) = true then some ((-1 : Int), ()) else some (IntKind.i64.wrap (a1 - (a0.length : Int)), ()))
def ps_laws_szByteS : List PSh := [.val (.sl 5 (.int .u8)) [], .val (.int .i64) []]
def rs_laws_szByteS : List RSh := [.val (.int .i64) [] []]
def E_laws_szByteS : Entry := ⟨83, ps_laws_szByteS, rs_laws_szByteS, fun n (c : Cont (kin ps_laws_szByteS)) => F_laws_szByteS n c.1 c.2.1⟩
def H_laws_szByteS : Hint := ⟨0, [], [], [], [], [], []⟩
theorem D_laws_szByteS : ∀ n (c : Cont (kin ps_laws_szByteS)), denF T H_laws_szByteS Go.Proofs.Tryd.f83 ps_laws_szByteS rs_laws_szByteS n c = E_laws_szByteS.F n c := by intro n c; kernel_rfl
theorem K_laws_szByteS [Fr] [LaidLib.LaidTab Go.Proofs.Tryd.prog] (n : Nat) : EntryOk Go.Proofs.Tryd.prog n E_laws_szByteS := fn_entry mixed tabOk (E := E_laws_szByteS) Go.Proofs.Tryd.func83 (by kernel_rfl) (hi := H_laws_szByteS) ca_nil D_laws_szByteS
/-- loop.example/g00447/laws.szMessage -/
def F_laws_szMessage (n : Nat) (a0 : Int × Int × Int × (List Int) × Unit) (a1 : Int) : Option (Int × Unit) := ((F_laws_szByteS n a0.2.2.2.1 a1).bind fun r1 => (if decide (r1.1 < (0 : Int)) = true then some ((-1 : Int), ()) else some (r1.1, ())))
def ps_laws_szMessage : List PSh := [.val (.st (.pair (.int .i64) (.pair (.int .i64) (.pair (.int .i64) (.pair (.sl 5 (.int .u8)) .unit))))) [], .val (.int .i64) []]
def rs_laws_szMessage : List RSh := [.val (.int .i64) [] []]
def E_laws_szMessage : Entry := ⟨64, ps_laws_szMessage, rs_laws_szMessage, fun n (c : Cont (kin ps_laws_szMessage)) => F_laws_szMessage n c.1 c.2.1⟩
def H_laws_szMessage : Hint := ⟨0, [], [], [], [(83, some 8, E_laws_szByteS)], [], []⟩
theorem D_laws_szMessage : ∀ n (c : Cont (kin ps_laws_szMessage)), denF T H_laws_szMessage Go.Proofs.Tryd.f64 ps_laws_szMessage rs_laws_szMessage n c = E_laws_szMessage.F n c := by intro n c; kernel_rfl
theorem K_laws_szMessage [Fr] [LaidLib.LaidTab Go.Proofs.Tryd.prog] (n : Nat) : EntryOk Go.Proofs.Tryd.prog n E_laws_szMessage := fn_entry mixed tabOk (E := E_laws_szMessage) Go.Proofs.Tryd.func64 (by kernel_rfl) (hi := H_laws_szMessage) (ca_cons (K_laws_szByteS n) ca_nil) D_laws_szMessage
/-- loop.example/g00447/laws.szMessageS -/
def F_laws_szMessageS (n : Nat) (a0 : List (Int × Int × Int × (List Int) × Unit)) (a1 : Int) : Option (Int × Unit) := (if decide ((IntKind.i64.wrap (a1 - (a0.length : Int))) < (0 : Int)) = true then some ((-1 : Int), ()) else (rounds (fun L1 (v1 : (List (Int × Int × Int × (List Int) × Unit)) × Int × Int × Unit) => (if decide (v1.2.2.1 < (v1.1.length : Int)) = true then (if inLen v1.2.2.1 v1.1.length then ((F_laws_szMessage n (v1.1.getD v1.2.2.1.toNat ((0 : Int), (0 : Int), (0 : Int), ([] : List Int), ())) v1.2.1).bind fun r2 => (if decide (r2.1 < (0 : Int)) = true then some ((-1 : Int), ()) else L1 (v1.1, r2.1, IntKind.i64.wrap (v1.2.2.1 + (1 : Int)), ()))) else none) else some (v1.2.1, ()))) n (a0, IntKind.i64.wrap (a1 - (a0.length : Int)), (0 : Int), ())))
def ps_laws_szMessageS : List PSh := [.val (.sl 108 (.st (.pair (.int .i64) (.pair (.int .i64) (.pair (.int .i64) (.pair (.sl 5 (.int .u8)) .unit)))))) [], .val (.int .i64) []]
def rs_laws_szMessageS : List RSh := [.val (.int .i64) [] []]
def E_laws_szMessageS : Entry := ⟨48, ps_laws_szMessageS, rs_laws_szMessageS, fun n (c : Cont (kin ps_laws_szMessageS)) => F_laws_szMessageS n c.1 c.2.1⟩
def H_laws_szMessageS : Hint := ⟨0, [], [(0, [0, 1, 5], [])], [], [(64, some 23, E_laws_szMessage)], [], []⟩
theorem D_laws_szMessageS : ∀ n (c : Cont (kin ps_laws_szMessageS)), denF T H_laws_szMessageS Go.Proofs.Tryd.f48 ps_laws_szMessageS rs_laws_szMessageS n c = E_laws_szMessageS.F n c := by intro n c; kernel_rfl
theorem K_laws_szMessageS [Fr] [LaidLib.LaidTab Go.Proofs.Tryd.prog] (n : Nat) : EntryOk Go.Proofs.Tryd.prog n E_laws_szMessageS := fn_entry mixed tabOk (E := E_laws_szMessageS) Go.Proofs.Tryd.func48 (by kernel_rfl) (hi := H_laws_szMessageS) (ca_cons (K_laws_szMessage n) ca_nil) D_laws_szMessageS
/-- loop.example/g00447/laws.szBox -/
def F_laws_szBox (n : Nat) (a0 : (List Int) × Int × Int × (List (Int × Int × Int × (List Int) × Unit)) × Unit) (a1 : Int) : Option (Int × Unit) := (if decide ((IntKind.i64.wrap (a1 - (a0.1.length : Int))) < (0 : Int)) = true then some ((-1 : Int), ()) else ((F_laws_szMessageS n a0.2.2.2.1 (IntKind.i64.wrap (a1 - (a0.1.length : Int)))).bind fun r1 => (if decide (r1.1 < (0 : Int)) = true then some ((-1 : Int), ()) else some (r1.1, ()))))
def ps_laws_szBox : List PSh := [.val (.st (.pair .str (.pair (.int .i64) (.pair (.int .i64) (.pair (.sl 108 (.st (.pair (.int .i64) (.pair (.int .i64) (.pair (.int .i64) (.pair (.sl 5 (.int .u8)) .unit)))))) .unit))))) [], .val (.int .i64) []]
def rs_laws_szBox : List RSh := [.val (.int .i64) [] []]
def E_laws_szBox : Entry := ⟨34, ps_laws_szBox, rs_laws_szBox, fun n (c : Cont (kin ps_laws_szBox)) => F_laws_szBox n c.1 c.2.1⟩
def H_laws_szBox : Hint := ⟨0, [], [], [], [(48, some 15, E_laws_szMessageS)], [], []⟩
theorem D_laws_szBox : ∀ n (c : Cont (kin ps_laws_szBox)), denF T H_laws_szBox Go.Proofs.Tryd.f34 ps_laws_szBox rs_laws_szBox n c = E_laws_szBox.F n c := by intro n c; kernel_rfl
theorem K_laws_szBox [Fr] [LaidLib.LaidTab Go.Proofs.Tryd.prog] (n : Nat) : EntryOk Go.Proofs.Tryd.prog n E_laws_szBox := fn_entry mixed tabOk (E := E_laws_szBox) Go.Proofs.Tryd.func34 (by kernel_rfl) (hi := H_laws_szBox) (ca_cons (K_laws_szMessageS n) ca_nil) D_laws_szBox
/-- loop.example/g00447/laws.szBoxS -/
def F_laws_szBoxS (n : Nat) (a0 : List ((List Int) × Int × Int × (List (Int × Int × Int × (List Int) × Unit)) × Unit)) (a1 : Int) : Option (Int × Unit) := (if decide ((IntKind.i64.wrap (a1 - (a0.length : Int))) < (0 : Int)) = true then some ((-1 : Int), ()) else (rounds (fun L1 (v1 : (List ((List Int) × Int × Int × (List (Int × Int × Int × (List Int) × Unit)) × Unit)) × Int × Int × Unit) => (if decide (v1.2.2.1 < (v1.1.length : Int)) = true then (if inLen v1.2.2.1 v1.1.length then ((F_laws_szBox n (v1.1.getD v1.2.2.1.toNat (([] : List Int), (0 : Int), (0 : Int), ([] : List (Int × Int × Int × (List Int) × Unit)), ())) v1.2.1).bind fun r2 => (if decide (r2.1 < (0 : Int)) = true then some ((-1 : Int), ()) else L1 (v1.1, r2.1, IntKind.i64.wrap (v1.2.2.1 + (1 : Int)), ()))) else none) else some (v1.2.1, ()))) n (a0, IntKind.i64.wrap (a1 - (a0.length : Int)), (0 : Int), ())))
def ps_laws_szBoxS : List PSh := [.val (.sl 69 (.st (.pair .str (.pair (.int .i64) (.pair (.int .i64) (.pair (.sl 108 (.st (.pair (.int .i64) (.pair (.int .i64) (.pair (.int .i64) (.pair (.sl 5 (.int .u8)) .unit)))))) .unit)))))) [], .val (.int .i64) []]
def rs_laws_szBoxS : List RSh := [.val (.int .i64) [] []]
def E_laws_szBoxS : Entry := ⟨23, ps_laws_szBoxS, rs_laws_szBoxS, fun n (c : Cont (kin ps_laws_szBoxS)) => F_laws_szBoxS n c.1 c.2.1⟩
def H_laws_szBoxS : Hint := ⟨0, [], [(0, [0, 1, 5], [])], [], [(34, some 23, E_laws_szBox)], [], []⟩
theorem D_laws_szBoxS : ∀ n (c : Cont (kin ps_laws_szBoxS)), denF T H_laws_szBoxS Go.Proofs.Tryd.f23 ps_laws_szBoxS rs_laws_szBoxS n c = E_laws_szBoxS.F n c := by intro n c; kernel_rfl
theorem K_laws_szBoxS [Fr] [LaidLib.LaidTab Go.Proofs.Tryd.prog] (n : Nat) : EntryOk Go.Proofs.Tryd.prog n E_laws_szBoxS := fn_entry mixed tabOk (E := E_laws_szBoxS) Go.Proofs.Tryd.func23 (by kernel_rfl) (hi := H_laws_szBoxS) (ca_cons (K_laws_szBox n) ca_nil) D_laws_szBoxS
/-- loop.example/g00447/laws.szStore -/
def F_laws_szStore (n : Nat) (a0 : Int × (List ((List Int) × Int × Int × (List (Int × Int × Int × (List Int) × Unit)) × Unit)) × Unit) (a1 : Int) : Option (Int × Unit) := ((F_laws_szBoxS n a0.2.1 a1).bind fun r1 => (if decide (r1.1 < (0 : Int)) = true then some ((-1 : Int), ()) else some (r1.1, ())))
def ps_laws_szStore : List PSh := [.val (.st (.pair (.int .i64) (.pair (.sl 69 (.st (.pair .str (.pair (.int .i64) (.pair (.int .i64) (.pair (.sl 108 (.st (.pair (.int .i64) (.pair (.int .i64) (.pair (.int .i64) (.pair (.sl 5 (.int .u8)) .unit)))))) .unit)))))) .unit))) [], .val (.int .i64) []]
def rs_laws_szStore : List RSh := [.val (.int .i64) [] []]
def E_laws_szStore : Entry := ⟨11, ps_laws_szStore, rs_laws_szStore, fun n (c : Cont (kin ps_laws_szStore)) => F_laws_szStore n c.1 c.2.1⟩
def H_laws_szStore : Hint := ⟨0, [], [], [], [(23, some 8, E_laws_szBoxS)], [], []⟩
theorem D_laws_szStore : ∀ n (c : Cont (kin ps_laws_szStore)), denF T H_laws_szStore Go.Proofs.Tryd.f11 ps_laws_szStore rs_laws_szStore n c = E_laws_szStore.F n c := by intro n c; kernel_rfl
theorem K_laws_szStore [Fr] [LaidLib.LaidTab Go.Proofs.Tryd.prog] (n : Nat) : EntryOk Go.Proofs.Tryd.prog n E_laws_szStore := fn_entry mixed tabOk (E := E_laws_szStore) Go.Proofs.Tryd.func11 (by kernel_rfl) (hi := H_laws_szStore) (ca_cons (K_laws_szBoxS n) ca_nil) D_laws_szStore
/-- loop.example/g00447/laws.toByteS -/
def F_laws_toByteS (n : Nat) (a0 : List Int) : Option ((List Int) × Unit) := (if (a0.length : Int) = (a0.length : Int) ∧ 0 ≤ (a0.length : Int) ∧ (a0.length : Int) * 1 ≤ 140737488355328 then (rounds (fun L1 (v1 : (List Int) × Int × (List Int) × Unit) => (if decide (v1.2.1 < (v1.1.length : Int)) = true then (if inLen v1.2.1 v1.1.length then (if inLen v1.2.1 v1.2.2.1.length then L1 (v1.1, IntKind.i64.wrap (v1.2.1 + (1 : Int)), v1.2.2.1.set v1.2.1.toNat (v1.1.getD v1.2.1.toNat (0 : Int)), ()) else none) else none) else some (v1.2.2.1, ()))) n (a0, (0 : Int), List.replicate (a0.length : Int).toNat (0 : Int), ())) else none)
def ps_laws_toByteS : List PSh := [.val (.sl 5 (.int .u8)) []]
def rs_laws_toByteS : List RSh := [.own (.sl 5 (.int .u8)) [5] [] []]
def E_laws_toByteS : Entry := ⟨84, ps_laws_toByteS, rs_laws_toByteS, fun n (c : Cont (kin ps_laws_toByteS)) => F_laws_toByteS n c.1⟩
def H_laws_toByteS : Hint := ⟨0, [], [(0, [0, 3, 4], [226])], [], [], [], []⟩
theorem D_laws_toByteS : ∀ n (c : Cont (kin ps_laws_toByteS)), denF T H_laws_toByteS Go.Proofs.Tryd.f84 ps_laws_toByteS rs_laws_toByteS n c = E_laws_toByteS.F n c := by intro n c; kernel_rfl
theorem K_laws_toByteS [Fr] [LaidLib.LaidTab Go.Proofs.Tryd.prog] (n : Nat) : EntryOk Go.Proofs.Tryd.prog n E_laws_toByteS := fn_entry mixed tabOk (E := E_laws_toByteS) Go.Proofs.Tryd.func84 (by kernel_rfl) (hi := H_laws_toByteS) ca_nil D_laws_toByteS
/-- loop.example/g00447/laws.toMessage -/
def F_laws_toMessage (n : Nat) (a0 : Int × Int × Int × (List Int) × Unit) : Option ((Int × Int × Int × (List Int) × Unit) × Unit) := ((F_laws_toByteS n a0.2.2.2.1).bind fun r1 => some ((a0.1, a0.2.1, a0.2.2.1, r1.1, ()), ()))
def ps_laws_toMessage : List PSh := [.val (.st (.pair (.int .i64) (.pair (.int .i64) (.pair (.int .i64) (.pair (.sl 5 (.int .u8)) .unit))))) []]
def rs_laws_toMessage : List RSh := [.own (.st (.pair (.int .i64) (.pair (.int .i64) (.pair (.int .i64) (.pair (.sl 5 (.int .u8)) .unit))))) [5] [] []]
def E_laws_toMessage : Entry := ⟨65, ps_laws_toMessage, rs_laws_toMessage, fun n (c : Cont (kin ps_laws_toMessage)) => F_laws_toMessage n c.1⟩
def H_laws_toMessage : Hint := ⟨0, [17], [], [], [(84, some 15, E_laws_toByteS)], [], []⟩
theorem D_laws_toMessage : ∀ n (c : Cont (kin ps_laws_toMessage)), denF T H_laws_toMessage Go.Proofs.Tryd.f65 ps_laws_toMessage rs_laws_toMessage n c = E_laws_toMessage.F n c := by intro n c; kernel_rfl
theorem K_laws_toMessage [Fr] [LaidLib.LaidTab Go.Proofs.Tryd.prog] (n : Nat) : EntryOk Go.Proofs.Tryd.prog n E_laws_toMessage := fn_entry mixed tabOk (E := E_laws_toMessage) Go.Proofs.Tryd.func65 (by kernel_rfl) (hi := H_laws_toMessage) (ca_cons (K_laws_toByteS n) ca_nil) D_laws_toMessage
/-- loop.example/g00447/laws.toMessageS -/
def F_laws_toMessageS (n : Nat) (a0 : List (Int × Int × Int × (List Int) × Unit)) : Option ((List (Int × Int × Int × (List Int) × Unit)) × Unit) := (if (a0.length : Int) = (a0.length : Int) ∧ 0 ≤ (a0.length : Int) ∧ (a0.length : Int) * 48 ≤ 140737488355328 then (rounds (fun L1 (v1 : (List (Int × Int × Int × (List Int) × Unit)) × Int × (List (Int × Int × Int × (List Int) × Unit)) × Unit) => (if decide (v1.2.1 < (v1.1.length : Int)) = true then (if inLen v1.2.1 v1.1.length then ((F_laws_toMessage n (v1.1.getD v1.2.1.toNat ((0 : Int), (0 : Int), (0 : Int), ([] : List Int), ()))).bind fun r2 => (if inLen v1.2.1 v1.2.2.1.length then L1 (v1.1, IntKind.i64.wrap (v1.2.1 + (1 : Int)), v1.2.2.1.set v1.2.1.toNat r2.1, ()) else none)) else none) else some (v1.2.2.1, ()))) n (a0, (0 : Int), List.replicate (a0.length : Int).toNat ((0 : Int), (0 : Int), (0 : Int), ([] : List Int), ()), ())) else none)
def ps_laws_toMessageS : List PSh := [.val (.sl 108 (.st (.pair (.int .i64) (.pair (.int .i64) (.pair (.int .i64) (.pair (.sl 5 (.int .u8)) .unit)))))) []]
def rs_laws_toMessageS : List RSh := [.own (.sl 80 (.st (.pair (.int .i64) (.pair (.int .i64) (.pair (.int .i64) (.pair (.sl 5 (.int .u8)) .unit)))))) [5, 80] [] []]
def E_laws_toMessageS : Entry := ⟨52, ps_laws_toMessageS, rs_laws_toMessageS, fun n (c : Cont (kin ps_laws_toMessageS)) => F_laws_toMessageS n c.1⟩
def H_laws_toMessageS : Hint := ⟨0, [], [(0, [0, 3, 4], [226])], [], [(65, some 20, E_laws_toMessage)], [], []⟩
theorem D_laws_toMessageS : ∀ n (c : Cont (kin ps_laws_toMessageS)), denF T H_laws_toMessageS Go.Proofs.Tryd.f52 ps_laws_toMessageS rs_laws_toMessageS n c = E_laws_toMessageS.F n c := by intro n c; kernel_rfl
theorem K_laws_toMessageS [Fr] [LaidLib.LaidTab Go.Proofs.Tryd.prog] (n : Nat) : EntryOk Go.Proofs.Tryd.prog n E_laws_toMessageS := fn_entry mixed tabOk (E := E_laws_toMessageS) Go.Proofs.Tryd.func52 (by kernel_rfl) (hi := H_laws_toMessageS) (ca_cons (K_laws_toMessage n) ca_nil) D_laws_toMessageS
/-- loop.example/g00447/laws.toBox -/
def F_laws_toBox (n : Nat) (a0 : (List Int) × Int × Int × (List (Int × Int × Int × (List Int) × Unit)) × Unit) : Option (((List Int) × Int × Int × (List (Int × Int × Int × (List Int) × Unit)) × Unit) × Unit) := ((F_laws_toMessageS n a0.2.2.2.1).bind fun r1 => some ((a0.1, a0.2.1, a0.2.2.1, r1.1, ()), ()))
def ps_laws_toBox : List PSh := [.val (.st (.pair .str (.pair (.int .i64) (.pair (.int .i64) (.pair (.sl 108 (.st (.pair (.int .i64) (.pair (.int .i64) (.pair (.int .i64) (.pair (.sl 5 (.int .u8)) .unit)))))) .unit))))) []]
def rs_laws_toBox : List RSh := [.own (.st (.pair .str (.pair (.int .i64) (.pair (.int .i64) (.pair (.sl 80 (.st (.pair (.int .i64) (.pair (.int .i64) (.pair (.int .i64) (.pair (.sl 5 (.int .u8)) .unit)))))) .unit))))) [5, 80] [] []]
def E_laws_toBox : Entry := ⟨37, ps_laws_toBox, rs_laws_toBox, fun n (c : Cont (kin ps_laws_toBox)) => F_laws_toBox n c.1⟩
def H_laws_toBox : Hint := ⟨0, [17], [], [], [(52, some 15, E_laws_toMessageS)], [], []⟩
theorem D_laws_toBox : ∀ n (c : Cont (kin ps_laws_toBox)), denF T H_laws_toBox Go.Proofs.Tryd.f37 ps_laws_toBox rs_laws_toBox n c = E_laws_toBox.F n c := by intro n c; kernel_rfl
theorem K_laws_toBox [Fr] [LaidLib.LaidTab Go.Proofs.Tryd.prog] (n : Nat) : EntryOk Go.Proofs.Tryd.prog n E_laws_toBox := fn_entry mixed tabOk (E := E_laws_toBox) Go.Proofs.Tryd.func37 (by kernel_rfl) (hi := H_laws_toBox) (ca_cons (K_laws_toMessageS n) ca_nil) D_laws_toBox
/-- loop.example/g00447/laws.toBoxS -/
def F_laws_toBoxS (n : Nat) (a0 : List ((List Int) × Int × Int × (List (Int × Int × Int × (List Int) × Unit)) × Unit)) : Option ((List ((List Int) × Int × Int × (List (Int × Int × Int × (List Int) × Unit)) × Unit)) × Unit) := (if (a0.length : Int) = (a0.length : Int) ∧ 0 ≤ (a0.length : Int) ∧ (a0.length : Int) * 56 ≤ 140737488355328 then (rounds (fun L1 (v1 : (List ((List Int) × Int × Int × (List (Int × Int × Int × (List Int) × Unit)) × Unit)) × Int × (List ((List Int) × Int × Int × (List (Int × Int × Int × (List Int) × Unit)) × Unit)) × Unit) => (if decide (v1.2.1 < (v1.1.length : Int)) = true then (if inLen v1.2.1 v1.1.length then ((F_laws_toBox n (v1.1.getD v1.2.1.toNat (([] : List Int), (0 : Int), (0 : Int), ([] : List (Int × Int × Int × (List Int) × Unit)), ()))).bind fun r2 => (if inLen v1.2.1 v1.2.2.1.length then L1 (v1.1, IntKind.i64.wrap (v1.2.1 + (1 : Int)), v1.2.2.1.set v1.2.1.toNat r2.1, ()) else none)) else none) else some (v1.2.2.1, ()))) n (a0, (0 : Int), List.replicate (a0.length : Int).toNat (([] : List Int), (0 : Int), (0 : Int), ([] : List (Int × Int × Int × (List Int) × Unit)), ()), ())) else none)
def ps_laws_toBoxS : List PSh := [.val (.sl 69 (.st (.pair .str (.pair (.int .i64) (.pair (.int .i64) (.pair (.sl 108 (.st (.pair (.int .i64) (.pair (.int .i64) (.pair (.int .i64) (.pair (.sl 5 (.int .u8)) .unit)))))) .unit)))))) []]
def rs_laws_toBoxS : List RSh := [.own (.sl 74 (.st (.pair .str (.pair (.int .i64) (.pair (.int .i64) (.pair (.sl 80 (.st (.pair (.int .i64) (.pair (.int .i64) (.pair (.int .i64) (.pair (.sl 5 (.int .u8)) .unit)))))) .unit)))))) [5, 74, 80] [] []]
def E_laws_toBoxS : Entry := ⟨26, ps_laws_toBoxS, rs_laws_toBoxS, fun n (c : Cont (kin ps_laws_toBoxS)) => F_laws_toBoxS n c.1⟩
def H_laws_toBoxS : Hint := ⟨0, [], [(0, [0, 3, 4], [226])], [], [(37, some 20, E_laws_toBox)], [], []⟩
theorem D_laws_toBoxS : ∀ n (c : Cont (kin ps_laws_toBoxS)), denF T H_laws_toBoxS Go.Proofs.Tryd.f26 ps_laws_toBoxS rs_laws_toBoxS n c = E_laws_toBoxS.F n c := by intro n c; kernel_rfl
theorem K_laws_toBoxS [Fr] [LaidLib.LaidTab Go.Proofs.Tryd.prog] (n : Nat) : EntryOk Go.Proofs.Tryd.prog n E_laws_toBoxS := fn_entry mixed tabOk (E := E_laws_toBoxS) Go.Proofs.Tryd.func26 (by kernel_rfl) (hi := H_laws_toBoxS) (ca_cons (K_laws_toBox n) ca_nil) D_laws_toBoxS
/-- loop.example/g00447/laws.toStore -/
def F_laws_toStore (n : Nat) (a0 : Int × (List ((List Int) × Int × Int × (List (Int × Int × Int × (List Int) × Unit)) × Unit)) × Unit) : Option ((Int × (List ((List Int) × Int × Int × (List (Int × Int × Int × (List Int) × Unit)) × Unit)) × Unit) × Unit) := ((F_laws_toBoxS n a0.2.1).bind fun r1 => some ((a0.1, r1.1, ()), ()))
def ps_laws_toStore : List PSh := [.val (.st (.pair (.int .i64) (.pair (.sl 69 (.st (.pair .str (.pair (.int .i64) (.pair (.int .i64) (.pair (.sl 108 (.st (.pair (.int .i64) (.pair (.int .i64) (.pair (.int .i64) (.pair (.sl 5 (.int .u8)) .unit)))))) .unit)))))) .unit))) []]
def rs_laws_toStore : List RSh := [.own (.st (.pair (.int .i64) (.pair (.sl 74 (.st (.pair .str (.pair (.int .i64) (.pair (.int .i64) (.pair (.sl 80 (.st (.pair (.int .i64) (.pair (.int .i64) (.pair (.int .i64) (.pair (.sl 5 (.int .u8)) .unit)))))) .unit)))))) .unit))) [5, 74, 80] [] []]
def E_laws_toStore : Entry := ⟨13, ps_laws_toStore, rs_laws_toStore, fun n (c : Cont (kin ps_laws_toStore)) => F_laws_toStore n c.1⟩
def H_laws_toStore : Hint := ⟨0, [11], [], [], [(26, some 9, E_laws_toBoxS)], [], []⟩
theorem D_laws_toStore : ∀ n (c : Cont (kin ps_laws_toStore)), denF T H_laws_toStore Go.Proofs.Tryd.f13 ps_laws_toStore rs_laws_toStore n c = E_laws_toStore.F n c := by intro n c; kernel_rfl
theorem K_laws_toStore [Fr] [LaidLib.LaidTab Go.Proofs.Tryd.prog] (n : Nat) : EntryOk Go.Proofs.Tryd.prog n E_laws_toStore := fn_entry mixed tabOk (E := E_laws_toStore) Go.Proofs.Tryd.func13 (by kernel_rfl) (hi := H_laws_toStore) (ca_cons (K_laws_toBoxS n) ca_nil) D_laws_toStore
/-- loop.example/g00447/spec.l1In -/
def F_spec_l1In (n : Nat) (a0 : Int) (a1 : Int) (a2 : Int) : Option (Bool × Unit) := (if decide (a0 ≥ a1) = true then some (decide (a0 ≤ a2), ()) else some (false, ()))
def ps_spec_l1In : List PSh := [.val (.int .i64) [], .val (.int .i64) [], .val (.int .i64) []]
def rs_spec_l1In : List RSh := [.val .bool [] []]
def E_spec_l1In : Entry := ⟨17, ps_spec_l1In, rs_spec_l1In, fun n (c : Cont (kin ps_spec_l1In)) => F_spec_l1In n c.1 c.2.1 c.2.2.1⟩
def H_spec_l1In : Hint := ⟨0, [], [], [], [], [], []⟩
theorem D_spec_l1In : ∀ n (c : Cont (kin ps_spec_l1In)), denF T H_spec_l1In Go.Proofs.Tryd.f17 ps_spec_l1In rs_spec_l1In n c = E_spec_l1In.F n c := by intro n c; kernel_rfl
theorem K_spec_l1In [Fr] [LaidLib.LaidTab Go.Proofs.Tryd.prog] (n : Nat) : EntryOk Go.Proofs.Tryd.prog n E_spec_l1In := fn_entry mixed tabOk (E := E_spec_l1In) Go.Proofs.Tryd.func17 (by kernel_rfl) (hi := H_spec_l1In) ca_nil D_spec_l1In
/-- loop.example/g00447/spec.l7Name -/
def F_spec_l7Name (n : Nat) (a0 : List Int) : Option (Bool × Unit) := (rounds (fun L1 (v1 : (List Int) × Int × Unit) => (if decide (v1.2.1 < (v1.1.length : Int)) = true then (if inLen v1.2.1 v1.1.length then (if decide ((v1.1.getD v1.2.1.toNat 0) < (97 : Int)) = true then some (false, ()) else (if inLen v1.2.1 v1.1.length then (if decide ((v1.1.getD v1.2.1.toNat 0) > (122 : Int)) = true then some (false, ()) else L1 (v1.1, IntKind.i64.wrap (v1.2.1 + (1 : Int)), ())) else none)) else none) else ((F_spec_l1In n (v1.1.length : Int) (1 : Int) (8 : Int)).bind fun r2 => some (r2.1, ())))) n (a0, (0 : Int), ()))
def ps_spec_l7Name : List PSh := [.val .str []]
def rs_spec_l7Name : List RSh := [.val .bool [] []]
def E_spec_l7Name : Entry := ⟨49, ps_spec_l7Name, rs_spec_l7Name, fun n (c : Cont (kin ps_spec_l7Name)) => F_spec_l7Name n c.1⟩
def H_spec_l7Name : Hint := ⟨0, [], [(0, [0, 3], [])], [], [(17, some 22, E_spec_l1In)], [], []⟩
theorem D_spec_l7Name : ∀ n (c : Cont (kin ps_spec_l7Name)), denF T H_spec_l7Name Go.Proofs.Tryd.f49 ps_spec_l7Name rs_spec_l7Name n c = E_spec_l7Name.F n c := by intro n c; kernel_rfl
theorem K_spec_l7Name [Fr] [LaidLib.LaidTab Go.Proofs.Tryd.prog] (n : Nat) : EntryOk Go.Proofs.Tryd.prog n E_spec_l7Name := fn_entry mixed tabOk (E := E_spec_l7Name) Go.Proofs.Tryd.func49 (by kernel_rfl) (hi := H_spec_l7Name) (ca_cons (K_spec_l1In n) ca_nil) D_spec_l7Name
/-- loop.example/g00447/spec.l7Message -/
def F_spec_l7Message (n : Nat) (a0 : Int × Int × Int × (List Int) × Unit) : Option (Int × Unit) := ((F_spec_l1In n a0.1 (1 : Int) (999 : Int)).bind fun r1 => (if (!r1.1) = true then some ((3 : Int), ()) else ((F_spec_l1In n a0.2.1 (0 : Int) (15 : Int)).bind fun r2 => (if (!r2.1) = true then some ((3 : Int), ()) else ((F_spec_l1In n a0.2.2.1 (0 : Int) (9999 : Int)).bind fun r3 => (if (!r3.1) = true then some ((3 : Int), ()) else (if decide ((a0.2.2.2.1.length : Int) > (400 : Int)) = true then some ((2 : Int), ()) else some ((0 : Int), ()))))))))
def ps_spec_l7Message : List PSh := [.ro (.st (.pair (.int .i64) (.pair (.int .i64) (.pair (.int .i64) (.pair (.sl 5 (.int .u8)) .unit)))))]
def rs_spec_l7Message : List RSh := [.val (.int .i64) [] []]
def E_spec_l7Message : Entry := ⟨50, ps_spec_l7Message, rs_spec_l7Message, fun n (c : Cont (kin ps_spec_l7Message)) => F_spec_l7Message n c.1⟩
def H_spec_l7Message : Hint := ⟨0, [], [], [], [(17, some 7, E_spec_l1In), (17, some 14, E_spec_l1In), (17, some 22, E_spec_l1In)], [], []⟩
theorem D_spec_l7Message : ∀ n (c : Cont (kin ps_spec_l7Message)), denF T H_spec_l7Message Go.Proofs.Tryd.f50 ps_spec_l7Message rs_spec_l7Message n c = E_spec_l7Message.F n c := by intro n c; kernel_rfl
theorem K_spec_l7Message [Fr] [LaidLib.LaidTab Go.Proofs.Tryd.prog] (n : Nat) : EntryOk Go.Proofs.Tryd.prog n E_spec_l7Message := fn_entry mixed tabOk (E := E_spec_l7Message) Go.Proofs.Tryd.func50 (by kernel_rfl) (hi := H_spec_l7Message) (ca_cons (K_spec_l1In n) (ca_cons (K_spec_l1In n) (ca_cons (K_spec_l1In n) ca_nil))) D_spec_l7Message
/-- loop.example/g00447/spec.l7Box -/
def F_spec_l7Box (n : Nat) (a0 : (List Int) × Int × Int × (List (Int × Int × Int × (List Int) × Unit)) × Unit) : Option (Int × Unit) := ((F_spec_l7Name n a0.1).bind fun r1 => (if (!r1.1) = true then some ((5 : Int), ()) else ((F_spec_l1In n a0.2.1 (1 : Int) (999 : Int)).bind fun r2 => (if (!r2.1) = true then some ((3 : Int), ()) else ((F_spec_l1In n a0.2.2.1 (1 : Int) (1000 : Int)).bind fun r3 => (if (!r3.1) = true then some ((3 : Int), ()) else (if decide ((a0.2.2.2.1.length : Int) > (6 : Int)) = true then some ((2 : Int), ()) else (rounds (fun L4 (v4 : ((List Int) × Int × Int × (List (Int × Int × Int × (List Int) × Unit)) × Unit) × Int × Unit) => (if decide (v4.2.1 < (v4.1.2.2.2.1.length : Int)) = true then (if inLen v4.2.1 v4.1.2.2.2.1.length then ((F_spec_l7Message n (v4.1.2.2.2.1.getD v4.2.1.toNat ((0 : Int), (0 : Int), (0 : Int), ([] : List Int), ()))).bind fun r5 => (if (!decide (r5.1 = (0 : Int))) = true then some (r5.1, ()) else (if decide (v4.2.1 > (0 : Int)) = true then (if inLen v4.2.1 v4.1.2.2.2.1.length then (if inLen (IntKind.i64.wrap (v4.2.1 - (1 : Int))) v4.1.2.2.2.1.length then (if decide (((v4.1.2.2.2.1.getD v4.2.1.toNat ((0 : Int), (0 : Int), (0 : Int), ([] : List Int), ())).1) ≤ ((v4.1.2.2.2.1.getD (IntKind.i64.wrap (v4.2.1 - (1 : Int))).toNat ((0 : Int), (0 : Int), (0 : Int), ([] : List Int), ())).1)) = true then some ((1 : Int), ()) else (if inLen v4.2.1 v4.1.2.2.2.1.length then (if decide (((v4.1.2.2.2.1.getD v4.2.1.toNat ((0 : Int), (0 : Int), (0 : Int), ([] : List Int), ())).1) ≥ v4.1.2.2.1) = true then some ((1 : Int), ()) else L4 (v4.1, IntKind.i64.wrap (v4.2.1 + (1 : Int)), ())) else none)) else none) else none) else (if inLen v4.2.1 v4.1.2.2.2.1.length then (if decide (((v4.1.2.2.2.1.getD v4.2.1.toNat ((0 : Int), (0 : Int), (0 : Int), ([] : List Int), ())).1) ≥ v4.1.2.2.1) = true then some ((1 : Int), ()) else L4 (v4.1, IntKind.i64.wrap (v4.2.1 + (1 : Int)), ())) else none)))) else none) else some ((0 : Int), ()))) n (a0, (0 : Int), ())))))))))
def ps_spec_l7Box : List PSh := [.ro (.st (.pair .str (.pair (.int .i64) (.pair (.int .i64) (.pair (.sl 80 (.st (.pair (.int .i64) (.pair (.int .i64) (.pair (.int .i64) (.pair (.sl 5 (.int .u8)) .unit)))))) .unit)))))]
def rs_spec_l7Box : List RSh := [.val (.int .i64) [] []]
def E_spec_l7Box : Entry := ⟨35, ps_spec_l7Box, rs_spec_l7Box, fun n (c : Cont (kin ps_spec_l7Box)) => F_spec_l7Box n c.1⟩
def H_spec_l7Box : Hint := ⟨0, [], [(0, [0, 3], [])], [], [(49, some 9, E_spec_l7Name), (17, some 15, E_spec_l1In), (17, some 22, E_spec_l1In), (50, some 46, E_spec_l7Message)], [], []⟩
theorem D_spec_l7Box : ∀ n (c : Cont (kin ps_spec_l7Box)), denF T H_spec_l7Box Go.Proofs.Tryd.f35 ps_spec_l7Box rs_spec_l7Box n c = E_spec_l7Box.F n c := by intro n c; kernel_rfl
theorem K_spec_l7Box [Fr] [LaidLib.LaidTab Go.Proofs.Tryd.prog] (n : Nat) : EntryOk Go.Proofs.Tryd.prog n E_spec_l7Box := fn_entry mixed tabOk (E := E_spec_l7Box) Go.Proofs.Tryd.func35 (by kernel_rfl) (hi := H_spec_l7Box) (ca_cons (K_spec_l7Name n) (ca_cons (K_spec_l1In n) (ca_cons (K_spec_l1In n) (ca_cons (K_spec_l7Message n) ca_nil)))) D_spec_l7Box
/-- loop.example/g00447/spec.l7Fault -/
def F_spec_l7Fault (n : Nat) (a0 : Int × (List ((List Int) × Int × Int × (List (Int × Int × Int × (List Int) × Unit)) × Unit)) × Unit) : Option (Int × Unit) := ((F_spec_l1In n a0.1 (1 : Int) (1000 : Int)).bind fun r1 => (if (!r1.1) = true then some ((3 : Int), ()) else (if decide ((a0.2.1.length : Int) > (3 : Int)) = true then some ((2 : Int), ()) else (rounds (fun L2 (v2 : (Int × (List ((List Int) × Int × Int × (List (Int × Int × Int × (List Int) × Unit)) × Unit)) × Unit) × Int × Unit) => (if decide (v2.2.1 < (v2.1.2.1.length : Int)) = true then (if inLen v2.2.1 v2.1.2.1.length then ((F_spec_l7Box n (v2.1.2.1.getD v2.2.1.toNat (([] : List Int), (0 : Int), (0 : Int), ([] : List (Int × Int × Int × (List Int) × Unit)), ()))).bind fun r3 => (if (!decide (r3.1 = (0 : Int))) = true then some (r3.1, ()) else (if inLen v2.2.1 v2.1.2.1.length then (if decide ((((v2.1.2.1.getD v2.2.1.toNat (([] : List Int), (0 : Int), (0 : Int), ([] : List (Int × Int × Int × (List Int) × Unit)), ())).2).1) ≥ v2.1.1) = true then some ((9 : Int), ()) else (rounds (fun L4 (v4 : (Int × (List ((List Int) × Int × Int × (List (Int × Int × Int × (List Int) × Unit)) × Unit)) × Unit) × Int × Int × Unit) => (if decide (v4.2.2.1 < v4.2.1) = true then (if inLen v4.2.2.1 v4.1.2.1.length then (if inLen v4.2.1 v4.1.2.1.length then (if decide (((v4.1.2.1.getD v4.2.2.1.toNat (([] : List Int), (0 : Int), (0 : Int), ([] : List (Int × Int × Int × (List Int) × Unit)), ())).1) = ((v4.1.2.1.getD v4.2.1.toNat (([] : List Int), (0 : Int), (0 : Int), ([] : List (Int × Int × Int × (List Int) × Unit)), ())).1)) = true then some ((6 : Int), ()) else (if inLen v4.2.2.1 v4.1.2.1.length then (if inLen v4.2.1 v4.1.2.1.length then (if decide ((((v4.1.2.1.getD v4.2.2.1.toNat (([] : List Int), (0 : Int), (0 : Int), ([] : List (Int × Int × Int × (List Int) × Unit)), ())).2).1) = (((v4.1.2.1.getD v4.2.1.toNat (([] : List Int), (0 : Int), (0 : Int), ([] : List (Int × Int × Int × (List Int) × Unit)), ())).2).1)) = true then some ((6 : Int), ()) else L4 (v4.1, v4.2.1, IntKind.i64.wrap (v4.2.2.1 + (1 : Int)), ())) else none) else none)) else none) else none) else L2 (v4.1, IntKind.i64.wrap (v4.2.1 + (1 : Int)), ()))) n (v2.1, v2.2.1, (0 : Int), ()))) else none))) else none) else some ((0 : Int), ()))) n (a0, (0 : Int), ())))))
def ps_spec_l7Fault : List PSh := [.ro (.st (.pair (.int .i64) (.pair (.sl 74 (.st (.pair .str (.pair (.int .i64) (.pair (.int .i64) (.pair (.sl 80 (.st (.pair (.int .i64) (.pair (.int .i64) (.pair (.int .i64) (.pair (.sl 5 (.int .u8)) .unit)))))) .unit)))))) .unit)))]
def rs_spec_l7Fault : List RSh := [.val (.int .i64) [] []]
def E_spec_l7Fault : Entry := ⟨24, ps_spec_l7Fault, rs_spec_l7Fault, fun n (c : Cont (kin ps_spec_l7Fault)) => F_spec_l7Fault n c.1⟩
def H_spec_l7Fault : Hint := ⟨0, [], [(0, [0, 3], []), (2, [0, 3, 5], [])], [], [(17, some 10, E_spec_l1In), (35, some 33, E_spec_l7Box)], [], []⟩
theorem D_spec_l7Fault : ∀ n (c : Cont (kin ps_spec_l7Fault)), denF T H_spec_l7Fault Go.Proofs.Tryd.f24 ps_spec_l7Fault rs_spec_l7Fault n c = E_spec_l7Fault.F n c := by intro n c; kernel_rfl
theorem K_spec_l7Fault [Fr] [LaidLib.LaidTab Go.Proofs.Tryd.prog] (n : Nat) : EntryOk Go.Proofs.Tryd.prog n E_spec_l7Fault := fn_entry mixed tabOk (E := E_spec_l7Fault) Go.Proofs.Tryd.func24 (by kernel_rfl) (hi := H_spec_l7Fault) (ca_cons (K_spec_l1In n) (ca_cons (K_spec_l7Box n) ca_nil)) D_spec_l7Fault
/-- loop.example/g00447/spec.l1Digits -/
def F_spec_l1Digits : Nat → Int → Option ((List Int) × Unit)
  | 0, _ => none
  | n + 1, a0 => (if decide (a0 < (10 : Int)) = true then some ([IntKind.u8.wrap (IntKind.i64.wrap ((48 : Int) + a0))], ()) else (if (10 : Int) ≠ 0 then ((F_spec_l1Digits n (IntKind.i64.wrap (a0.tdiv (10 : Int)))).bind fun r1 => (if (10 : Int) ≠ 0 then (if r1.1.length + [IntKind.u8.wrap (IntKind.i64.wrap ((48 : Int) + (a0.tmod (10 : Int))))].length ≤ 9223372036854775807 then some (r1.1 ++ [IntKind.u8.wrap (IntKind.i64.wrap ((48 : Int) + (a0.tmod (10 : Int))))], ()) else none) else none)) else none))
def ps_spec_l1Digits : List PSh := [.val (.int .i64) []]
def rs_spec_l1Digits : List RSh := [.val .str [] []]
def E_spec_l1Digits : Entry := ⟨51, ps_spec_l1Digits, rs_spec_l1Digits, fun n (c : Cont (kin ps_spec_l1Digits)) => F_spec_l1Digits n c.1⟩
def H_spec_l1Digits : Hint := ⟨0, [], [], [], [(51, some 12, E_spec_l1Digits)], [], []⟩
theorem D_spec_l1Digits : ∀ n (c : Cont (kin ps_spec_l1Digits)), denF T H_spec_l1Digits Go.Proofs.Tryd.f51 ps_spec_l1Digits rs_spec_l1Digits n c = E_spec_l1Digits.F (n + 1) c := by intro n c; kernel_rfl
theorem K_spec_l1Digits [Fr] [LaidLib.LaidTab Go.Proofs.Tryd.prog] : ∀ (n : Nat), EntryOk Go.Proofs.Tryd.prog n E_spec_l1Digits
  | 0 => zero_entry fun c => rfl
  | n + 1 => rec_entry mixed tabOk (E := E_spec_l1Digits) Go.Proofs.Tryd.func51 (by kernel_rfl) (hi := H_spec_l1Digits) (ca_cons (K_spec_l1Digits n) ca_nil) (D_spec_l1Digits n)
/-- loop.example/g00447/spec.l15Numbers -/
def F_spec_l15Numbers (n : Nat) (a0 : List Int) : Option ((List Int) × Unit) := (rounds (fun L1 (v1 : (List Int) × (List Int) × Int × Unit) => (if decide (v1.2.2.1 < (v1.1.length : Int)) = true then (if v1.2.1.length + [32].length ≤ 9223372036854775807 then (if inLen v1.2.2.1 v1.1.length then ((F_spec_l1Digits n (v1.1.getD v1.2.2.1.toNat (0 : Int))).bind fun r2 => (if (v1.2.1 ++ [32]).length + r2.1.length ≤ 9223372036854775807 then L1 (v1.1, (v1.2.1 ++ [32]) ++ r2.1, IntKind.i64.wrap (v1.2.2.1 + (1 : Int)), ()) else none)) else none) else none) else some (v1.2.1, ()))) n (a0, ([] : List Int), (0 : Int), ()))
def ps_spec_l15Numbers : List PSh := [.val (.sl 2 (.int .i64)) []]
def rs_spec_l15Numbers : List RSh := [.val .str [] []]
def E_spec_l15Numbers : Entry := ⟨36, ps_spec_l15Numbers, rs_spec_l15Numbers, fun n (c : Cont (kin ps_spec_l15Numbers)) => F_spec_l15Numbers n c.1⟩
def H_spec_l15Numbers : Hint := ⟨0, [], [(0, [0, 3, 4], [])], [], [(51, some 17, E_spec_l1Digits)], [], []⟩
theorem D_spec_l15Numbers : ∀ n (c : Cont (kin ps_spec_l15Numbers)), denF T H_spec_l15Numbers Go.Proofs.Tryd.f36 ps_spec_l15Numbers rs_spec_l15Numbers n c = E_spec_l15Numbers.F n c := by intro n c; kernel_rfl
theorem K_spec_l15Numbers [Fr] [LaidLib.LaidTab Go.Proofs.Tryd.prog] (n : Nat) : EntryOk Go.Proofs.Tryd.prog n E_spec_l15Numbers := fn_entry mixed tabOk (E := E_spec_l15Numbers) Go.Proofs.Tryd.func36 (by kernel_rfl) (hi := H_spec_l15Numbers) (ca_cons (K_spec_l1Digits n) ca_nil) D_spec_l15Numbers
/-- loop.example/g00447/spec.l16Store -/
def F_spec_l16Store (n : Nat) (a0 : Int × (List ((List Int) × Int × Int × (List (Int × Int × Int × (List Int) × Unit)) × Unit)) × Unit) : Option ((List Int) × Unit) := (rounds (fun L1 (v1 : (Int × (List ((List Int) × Int × Int × (List (Int × Int × Int × (List Int) × Unit)) × Unit)) × Unit) × (List Int) × Int × Unit) => (if decide (v1.2.2.1 < (v1.1.2.1.length : Int)) = true then (if inLen v1.2.2.1 v1.1.2.1.length then (if v1.2.1.length + [98, 111, 120, 32].length ≤ 9223372036854775807 then (if (v1.2.1 ++ [98, 111, 120, 32]).length + ((v1.1.2.1.getD v1.2.2.1.toNat (([] : List Int), (0 : Int), (0 : Int), ([] : List (Int × Int × Int × (List Int) × Unit)), ())).1).length ≤ 9223372036854775807 then ((F_spec_l15Numbers n [((v1.1.2.1.getD v1.2.2.1.toNat (([] : List Int), (0 : Int), (0 : Int), ([] : List (Int × Int × Int × (List Int) × Unit)), ())).2).1, (((v1.1.2.1.getD v1.2.2.1.toNat (([] : List Int), (0 : Int), (0 : Int), ([] : List (Int × Int × Int × (List Int) × Unit)), ())).2).2).1]).bind fun r2 => (if ((v1.2.1 ++ [98, 111, 120, 32]) ++ ((v1.1.2.1.getD v1.2.2.1.toNat (([] : List Int), (0 : Int), (0 : Int), ([] : List (Int × Int × Int × (List Int) × Unit)), ())).1)).length + r2.1.length ≤ 9223372036854775807 then (if (((v1.2.1 ++ [98, 111, 120, 32]) ++ ((v1.1.2.1.getD v1.2.2.1.toNat (([] : List Int), (0 : Int), (0 : Int), ([] : List (Int × Int × Int × (List Int) × Unit)), ())).1)) ++ r2.1).length + [10].length ≤ 9223372036854775807 then (rounds (fun L3 (v3 : (Int × (List ((List Int) × Int × Int × (List (Int × Int × Int × (List Int) × Unit)) × Unit)) × Unit) × (List Int) × Int × ((List Int) × Int × Int × (List (Int × Int × Int × (List Int) × Unit)) × Unit) × Int × Unit) => (if decide (v3.2.2.2.2.1 < (v3.2.2.2.1.2.2.2.1.length : Int)) = true then (if inLen v3.2.2.2.2.1 v3.2.2.2.1.2.2.2.1.length then (if v3.2.1.length + [109, 101, 115, 115, 97, 103, 101].length ≤ 9223372036854775807 then ((F_spec_l15Numbers n [(v3.2.2.2.1.2.2.2.1.getD v3.2.2.2.2.1.toNat ((0 : Int), (0 : Int), (0 : Int), ([] : List Int), ())).1, ((v3.2.2.2.1.2.2.2.1.getD v3.2.2.2.2.1.toNat ((0 : Int), (0 : Int), (0 : Int), ([] : List Int), ())).2).1, (((v3.2.2.2.1.2.2.2.1.getD v3.2.2.2.2.1.toNat ((0 : Int), (0 : Int), (0 : Int), ([] : List Int), ())).2).2).1, ((((((v3.2.2.2.1.2.2.2.1.getD v3.2.2.2.2.1.toNat ((0 : Int), (0 : Int), (0 : Int), ([] : List Int), ())).2).2).2).1).length : Int)]).bind fun r4 => (if (v3.2.1 ++ [109, 101, 115, 115, 97, 103, 101]).length + r4.1.length ≤ 9223372036854775807 then (if ((v3.2.1 ++ [109, 101, 115, 115, 97, 103, 101]) ++ r4.1).length + [10].length ≤ 9223372036854775807 then L3 (v3.1, ((v3.2.1 ++ [109, 101, 115, 115, 97, 103, 101]) ++ r4.1) ++ [10], v3.2.2.1, v3.2.2.2.1, IntKind.i64.wrap (v3.2.2.2.2.1 + (1 : Int)), ()) else none) else none)) else none) else none) else L1 (v3.1, v3.2.1, IntKind.i64.wrap (v3.2.2.1 + (1 : Int)), ()))) n (v1.1, (((v1.2.1 ++ [98, 111, 120, 32]) ++ ((v1.1.2.1.getD v1.2.2.1.toNat (([] : List Int), (0 : Int), (0 : Int), ([] : List (Int × Int × Int × (List Int) × Unit)), ())).1)) ++ r2.1) ++ [10], v1.2.2.1, v1.1.2.1.getD v1.2.2.1.toNat (([] : List Int), (0 : Int), (0 : Int), ([] : List (Int × Int × Int × (List Int) × Unit)), ()), (0 : Int), ())) else none) else none)) else none) else none) else none) else (if decide (v1.2.1 = ([] : List Int)) = true then some ([110, 111, 110, 101, 10], ()) else some (v1.2.1, ())))) n (a0, ([] : List Int), (0 : Int), ()))
def ps_spec_l16Store : List PSh := [.ro (.st (.pair (.int .i64) (.pair (.sl 74 (.st (.pair .str (.pair (.int .i64) (.pair (.int .i64) (.pair (.sl 80 (.st (.pair (.int .i64) (.pair (.int .i64) (.pair (.int .i64) (.pair (.sl 5 (.int .u8)) .unit)))))) .unit)))))) .unit)))]
def rs_spec_l16Store : List RSh := [.val .str [] []]
def E_spec_l16Store : Entry := ⟨25, ps_spec_l16Store, rs_spec_l16Store, fun n (c : Cont (kin ps_spec_l16Store)) => F_spec_l16Store n c.1⟩
def H_spec_l16Store : Hint := ⟨0, [], [(0, [0, 3, 4], []), (2, [0, 3, 4, 5, 6], [])], [], [(36, some 39, E_spec_l15Numbers), (36, some 77, E_spec_l15Numbers)], [], []⟩
theorem D_spec_l16Store : ∀ n (c : Cont (kin ps_spec_l16Store)), denF T H_spec_l16Store Go.Proofs.Tryd.f25 ps_spec_l16Store rs_spec_l16Store n c = E_spec_l16Store.F n c := by intro n c; kernel_rfl
theorem K_spec_l16Store [Fr] [LaidLib.LaidTab Go.Proofs.Tryd.prog] (n : Nat) : EntryOk Go.Proofs.Tryd.prog n E_spec_l16Store := fn_entry mixed tabOk (E := E_spec_l16Store) Go.Proofs.Tryd.func25 (by kernel_rfl) (hi := H_spec_l16Store) (ca_cons (K_spec_l15Numbers n) (ca_cons (K_spec_l15Numbers n) ca_nil)) D_spec_l16Store
/-- loop.example/g00447/spec.StoreText -/
def F_spec_StoreText (n : Nat) (a0 : Int × (List ((List Int) × Int × Int × (List (Int × Int × Int × (List Int) × Unit)) × Unit)) × Unit) : Option ((Int × (List Int) × Unit) × Unit) := ((F_spec_l7Fault n a0).bind fun r1 => (if (!decide (r1.1 = (0 : Int))) = true then some ((r1.1, ([] : List Int), ()), ()) else ((F_spec_l16Store n a0).bind fun r2 => some (((0 : Int), r2.1, ()), ()))))
def ps_spec_StoreText : List PSh := [.val (.st (.pair (.int .i64) (.pair (.sl 74 (.st (.pair .str (.pair (.int .i64) (.pair (.int .i64) (.pair (.sl 80 (.st (.pair (.int .i64) (.pair (.int .i64) (.pair (.int .i64) (.pair (.sl 5 (.int .u8)) .unit)))))) .unit)))))) .unit))) []]
def rs_spec_StoreText : List RSh := [.val (.st (.pair (.int .i64) (.pair .str .unit))) [] []]
def E_spec_StoreText : Entry := ⟨12, ps_spec_StoreText, rs_spec_StoreText, fun n (c : Cont (kin ps_spec_StoreText)) => F_spec_StoreText n c.1⟩
def H_spec_StoreText : Hint := ⟨0, [], [], [], [(24, some 4, E_spec_l7Fault), (25, some 9, E_spec_l16Store)], [], []⟩
theorem D_spec_StoreText : ∀ n (c : Cont (kin ps_spec_StoreText)), denF T H_spec_StoreText Go.Proofs.Tryd.f12 ps_spec_StoreText rs_spec_StoreText n c = E_spec_StoreText.F n c := by intro n c; kernel_rfl
theorem K_spec_StoreText [Fr] [LaidLib.LaidTab Go.Proofs.Tryd.prog] (n : Nat) : EntryOk Go.Proofs.Tryd.prog n E_spec_StoreText := fn_entry mixed tabOk (E := E_spec_StoreText) Go.Proofs.Tryd.func12 (by kernel_rfl) (hi := H_spec_StoreText) (ca_cons (K_spec_l7Fault n) (ca_cons (K_spec_l16Store n) ca_nil)) D_spec_StoreText
/-- loop.example/g00447/impl.within -/
def F_impl_within (n : Nat) (a0 : Int) (a1 : Int) (a2 : Int) : Option (Bool × Unit) := (if decide (a0 ≥ a1) = true then some (decide (a0 ≤ a2), ()) else some (false, ()))
def ps_impl_within : List PSh := [.val (.int .i64) [], .val (.int .i64) [], .val (.int .i64) []]
def rs_impl_within : List RSh := [.val .bool [] []]
def E_impl_within : Entry := ⟨20, ps_impl_within, rs_impl_within, fun n (c : Cont (kin ps_impl_within)) => F_impl_within n c.1 c.2.1 c.2.2.1⟩
def H_impl_within : Hint := ⟨0, [], [], [], [], [], []⟩
theorem D_impl_within : ∀ n (c : Cont (kin ps_impl_within)), denF T H_impl_within Go.Proofs.Tryd.f20 ps_impl_within rs_impl_within n c = E_impl_within.F n c := by intro n c; kernel_rfl
theorem K_impl_within [Fr] [LaidLib.LaidTab Go.Proofs.Tryd.prog] (n : Nat) : EntryOk Go.Proofs.Tryd.prog n E_impl_within := fn_entry mixed tabOk (E := E_impl_within) Go.Proofs.Tryd.func20 (by kernel_rfl) (hi := H_impl_within) ca_nil D_impl_within
/-- loop.example/g00447/impl.isSmallWord -/
def F_impl_isSmallWord (n : Nat) (a0 : List Int) (a1 : Int) : Option (Bool × Unit) := (rounds (fun L1 (v1 : (List Int) × Int × Int × Int × Unit) => (if decide (v1.2.2.2.1 < v1.2.2.1) = true then (if inLen v1.2.2.2.1 v1.1.length then (if decide ((v1.1.getD v1.2.2.2.1.toNat 0) < (97 : Int)) = true then some (false, ()) else (if inLen v1.2.2.2.1 v1.1.length then (if decide ((v1.1.getD v1.2.2.2.1.toNat 0) > (122 : Int)) = true then some (false, ()) else L1 (v1.1, v1.2.1, v1.2.2.1, IntKind.i64.wrap (v1.2.2.2.1 + (1 : Int)), ())) else none)) else none) else (if decide ((v1.1.length : Int) ≥ (1 : Int)) = true then some (decide ((v1.1.length : Int) ≤ v1.2.1), ()) else some (false, ())))) n (a0, a1, (a0.length : Int), (0 : Int), ()))
def ps_impl_isSmallWord : List PSh := [.val .str [], .val (.int .i64) []]
def rs_impl_isSmallWord : List RSh := [.val .bool [] []]
def E_impl_isSmallWord : Entry := ⟨66, ps_impl_isSmallWord, rs_impl_isSmallWord, fun n (c : Cont (kin ps_impl_isSmallWord)) => F_impl_isSmallWord n c.1 c.2.1⟩
def H_impl_isSmallWord : Hint := ⟨0, [], [(0, [0, 1, 7, 8], [])], [], [], [], []⟩
theorem D_impl_isSmallWord : ∀ n (c : Cont (kin ps_impl_isSmallWord)), denF T H_impl_isSmallWord Go.Proofs.Tryd.f66 ps_impl_isSmallWord rs_impl_isSmallWord n c = E_impl_isSmallWord.F n c := by intro n c; kernel_rfl
theorem K_impl_isSmallWord [Fr] [LaidLib.LaidTab Go.Proofs.Tryd.prog] (n : Nat) : EntryOk Go.Proofs.Tryd.prog n E_impl_isSmallWord := fn_entry mixed tabOk (E := E_impl_isSmallWord) Go.Proofs.Tryd.func66 (by kernel_rfl) (hi := H_impl_isSmallWord) ca_nil D_impl_isSmallWord
/-- loop.example/g00447/impl.isName -/
def F_impl_isName (n : Nat) (a0 : List Int) : Option (Bool × Unit) := ((F_impl_isSmallWord n a0 (8 : Int)).bind fun r1 => some (r1.1, ()))
def ps_impl_isName : List PSh := [.val .str []]
def rs_impl_isName : List RSh := [.val .bool [] []]
def E_impl_isName : Entry := ⟨53, ps_impl_isName, rs_impl_isName, fun n (c : Cont (kin ps_impl_isName)) => F_impl_isName n c.1⟩
def H_impl_isName : Hint := ⟨0, [], [], [], [(66, some 4, E_impl_isSmallWord)], [], []⟩
theorem D_impl_isName : ∀ n (c : Cont (kin ps_impl_isName)), denF T H_impl_isName Go.Proofs.Tryd.f53 ps_impl_isName rs_impl_isName n c = E_impl_isName.F n c := by intro n c; kernel_rfl
theorem K_impl_isName [Fr] [LaidLib.LaidTab Go.Proofs.Tryd.prog] (n : Nat) : EntryOk Go.Proofs.Tryd.prog n E_impl_isName := fn_entry mixed tabOk (E := E_impl_isName) Go.Proofs.Tryd.func53 (by kernel_rfl) (hi := H_impl_isName) (ca_cons (K_impl_isSmallWord n) ca_nil) D_impl_isName
/-- loop.example/g00447/impl.isUid -/
def F_impl_isUid (n : Nat) (a0 : Int) : Option (Bool × Unit) := ((F_impl_within n a0 (1 : Int) (999 : Int)).bind fun r1 => some (r1.1, ()))
def ps_impl_isUid : List PSh := [.val (.int .i64) []]
def rs_impl_isUid : List RSh := [.val .bool [] []]
def E_impl_isUid : Entry := ⟨67, ps_impl_isUid, rs_impl_isUid, fun n (c : Cont (kin ps_impl_isUid)) => F_impl_isUid n c.1⟩
def H_impl_isUid : Hint := ⟨0, [], [], [], [(20, some 4, E_impl_within)], [], []⟩
theorem D_impl_isUid : ∀ n (c : Cont (kin ps_impl_isUid)), denF T H_impl_isUid Go.Proofs.Tryd.f67 ps_impl_isUid rs_impl_isUid n c = E_impl_isUid.F n c := by intro n c; kernel_rfl
theorem K_impl_isUid [Fr] [LaidLib.LaidTab Go.Proofs.Tryd.prog] (n : Nat) : EntryOk Go.Proofs.Tryd.prog n E_impl_isUid := fn_entry mixed tabOk (E := E_impl_isUid) Go.Proofs.Tryd.func67 (by kernel_rfl) (hi := H_impl_isUid) (ca_cons (K_impl_within n) ca_nil) D_impl_isUid
/-- loop.example/g00447/impl.areFlags -/
def F_impl_areFlags (n : Nat) (a0 : Int) : Option (Bool × Unit) := ((F_impl_within n a0 (0 : Int) (15 : Int)).bind fun r1 => some (r1.1, ()))
def ps_impl_areFlags : List PSh := [.val (.int .i64) []]
def rs_impl_areFlags : List RSh := [.val .bool [] []]
def E_impl_areFlags : Entry := ⟨68, ps_impl_areFlags, rs_impl_areFlags, fun n (c : Cont (kin ps_impl_areFlags)) => F_impl_areFlags n c.1⟩
def H_impl_areFlags : Hint := ⟨0, [], [], [], [(20, some 4, E_impl_within)], [], []⟩
theorem D_impl_areFlags : ∀ n (c : Cont (kin ps_impl_areFlags)), denF T H_impl_areFlags Go.Proofs.Tryd.f68 ps_impl_areFlags rs_impl_areFlags n c = E_impl_areFlags.F n c := by intro n c; kernel_rfl
theorem K_impl_areFlags [Fr] [LaidLib.LaidTab Go.Proofs.Tryd.prog] (n : Nat) : EntryOk Go.Proofs.Tryd.prog n E_impl_areFlags := fn_entry mixed tabOk (E := E_impl_areFlags) Go.Proofs.Tryd.func68 (by kernel_rfl) (hi := H_impl_areFlags) (ca_cons (K_impl_within n) ca_nil) D_impl_areFlags
/-- loop.example/g00447/impl.isDate -/
def F_impl_isDate (n : Nat) (a0 : Int) : Option (Bool × Unit) := ((F_impl_within n a0 (0 : Int) (9999 : Int)).bind fun r1 => some (r1.1, ()))
def ps_impl_isDate : List PSh := [.val (.int .i64) []]
def rs_impl_isDate : List RSh := [.val .bool [] []]
def E_impl_isDate : Entry := ⟨69, ps_impl_isDate, rs_impl_isDate, fun n (c : Cont (kin ps_impl_isDate)) => F_impl_isDate n c.1⟩
def H_impl_isDate : Hint := ⟨0, [], [], [], [(20, some 4, E_impl_within)], [], []⟩
theorem D_impl_isDate : ∀ n (c : Cont (kin ps_impl_isDate)), denF T H_impl_isDate Go.Proofs.Tryd.f69 ps_impl_isDate rs_impl_isDate n c = E_impl_isDate.F n c := by intro n c; kernel_rfl
theorem K_impl_isDate [Fr] [LaidLib.LaidTab Go.Proofs.Tryd.prog] (n : Nat) : EntryOk Go.Proofs.Tryd.prog n E_impl_isDate := fn_entry mixed tabOk (E := E_impl_isDate) Go.Proofs.Tryd.func69 (by kernel_rfl) (hi := H_impl_isDate) (ca_cons (K_impl_within n) ca_nil) D_impl_isDate
/-- loop.example/g00447/impl.MessageFault -/
def F_impl_MessageFault (n : Nat) (a0 : Int × Int × Int × (List Int) × Unit) : Option (Int × Unit) := ((F_impl_isUid n a0.1).bind fun r1 => (if (!r1.1) = true then some ((3 : Int), ()) else ((F_impl_areFlags n a0.2.1).bind fun r2 => (if (!r2.1) = true then some ((3 : Int), ()) else ((F_impl_isDate n a0.2.2.1).bind fun r3 => (if (!r3.1) = true then some ((3 : Int), ()) else (if decide ((a0.2.2.2.1.length : Int) > (400 : Int)) = true then some ((2 : Int), ()) else some ((0 : Int), ()))))))))
def ps_impl_MessageFault : List PSh := [.val (.st (.pair (.int .i64) (.pair (.int .i64) (.pair (.int .i64) (.pair (.sl 5 (.int .u8)) .unit))))) []]
def rs_impl_MessageFault : List RSh := [.val (.int .i64) [] []]
def E_impl_MessageFault : Entry := ⟨54, ps_impl_MessageFault, rs_impl_MessageFault, fun n (c : Cont (kin ps_impl_MessageFault)) => F_impl_MessageFault n c.1⟩
def H_impl_MessageFault : Hint := ⟨0, [], [], [], [(67, some 6, E_impl_isUid), (68, some 11, E_impl_areFlags), (69, some 17, E_impl_isDate)], [], []⟩
theorem D_impl_MessageFault : ∀ n (c : Cont (kin ps_impl_MessageFault)), denF T H_impl_MessageFault Go.Proofs.Tryd.f54 ps_impl_MessageFault rs_impl_MessageFault n c = E_impl_MessageFault.F n c := by intro n c; kernel_rfl
theorem K_impl_MessageFault [Fr] [LaidLib.LaidTab Go.Proofs.Tryd.prog] (n : Nat) : EntryOk Go.Proofs.Tryd.prog n E_impl_MessageFault := fn_entry mixed tabOk (E := E_impl_MessageFault) Go.Proofs.Tryd.func54 (by kernel_rfl) (hi := H_impl_MessageFault) (ca_cons (K_impl_isUid n) (ca_cons (K_impl_areFlags n) (ca_cons (K_impl_isDate n) ca_nil))) D_impl_MessageFault
/-- loop.example/g00447/impl.BoxFault -/
def F_impl_BoxFault (n : Nat) (a0 : (List Int) × Int × Int × (List (Int × Int × Int × (List Int) × Unit)) × Unit) : Option (Int × Unit) := ((F_impl_isName n a0.1).bind fun r1 => (if (!r1.1) = true then some ((5 : Int), ()) else ((F_impl_within n a0.2.1 (1 : Int) (999 : Int)).bind fun r2 => (if (!r2.1) = true then some ((3 : Int), ()) else ((F_impl_within n a0.2.2.1 (1 : Int) (1000 : Int)).bind fun r3 => (if (!r3.1) = true then some ((3 : Int), ()) else (if decide ((a0.2.2.2.1.length : Int) > (6 : Int)) = true then some ((2 : Int), ()) else (rounds (fun L4 (v4 : Int × (List (Int × Int × Int × (List Int) × Unit)) × Int × Int × ((List Int) × Int × Int × (List (Int × Int × Int × (List Int) × Unit)) × Unit) × Unit) => (if decide (v4.2.2.2.1 < v4.2.2.1) = true then (if inLen v4.2.2.2.1 v4.2.1.length then ((F_impl_MessageFault n (v4.2.1.getD v4.2.2.2.1.toNat ((0 : Int), (0 : Int), (0 : Int), ([] : List Int), ()))).bind fun r5 => (if (!decide (r5.1 = (0 : Int))) = true then some (r5.1, ()) else (if decide (((v4.2.1.getD v4.2.2.2.1.toNat ((0 : Int), (0 : Int), (0 : Int), ([] : List Int), ())).1) ≤ v4.1) = true then some ((1 : Int), ()) else (if decide (((v4.2.1.getD v4.2.2.2.1.toNat ((0 : Int), (0 : Int), (0 : Int), ([] : List Int), ())).1) ≥ v4.2.2.2.2.1.2.2.1) = true then some ((1 : Int), ()) else L4 ((v4.2.1.getD v4.2.2.2.1.toNat ((0 : Int), (0 : Int), (0 : Int), ([] : List Int), ())).1, v4.2.1, v4.2.2.1, IntKind.i64.wrap (v4.2.2.2.1 + (1 : Int)), v4.2.2.2.2.1, ()))))) else none) else some ((0 : Int), ()))) n ((0 : Int), a0.2.2.2.1, (a0.2.2.2.1.length : Int), (0 : Int), a0, ())))))))))
def ps_impl_BoxFault : List PSh := [.val (.st (.pair .str (.pair (.int .i64) (.pair (.int .i64) (.pair (.sl 80 (.st (.pair (.int .i64) (.pair (.int .i64) (.pair (.int .i64) (.pair (.sl 5 (.int .u8)) .unit)))))) .unit))))) []]
def rs_impl_BoxFault : List RSh := [.val (.int .i64) [] []]
def E_impl_BoxFault : Entry := ⟨38, ps_impl_BoxFault, rs_impl_BoxFault, fun n (c : Cont (kin ps_impl_BoxFault)) => F_impl_BoxFault n c.1⟩
def H_impl_BoxFault : Hint := ⟨0, [], [(1, [1, 3, 29, 30, 31], [34])], [], [(53, some 10, E_impl_isName), (20, some 15, E_impl_within), (20, some 20, E_impl_within), (54, some 36, E_impl_MessageFault)], [], []⟩
theorem D_impl_BoxFault : ∀ n (c : Cont (kin ps_impl_BoxFault)), denF T H_impl_BoxFault Go.Proofs.Tryd.f38 ps_impl_BoxFault rs_impl_BoxFault n c = E_impl_BoxFault.F n c := by intro n c; kernel_rfl
theorem K_impl_BoxFault [Fr] [LaidLib.LaidTab Go.Proofs.Tryd.prog] (n : Nat) : EntryOk Go.Proofs.Tryd.prog n E_impl_BoxFault := fn_entry mixed tabOk (E := E_impl_BoxFault) Go.Proofs.Tryd.func38 (by kernel_rfl) (hi := H_impl_BoxFault) (ca_cons (K_impl_isName n) (ca_cons (K_impl_within n) (ca_cons (K_impl_within n) (ca_cons (K_impl_MessageFault n) ca_nil)))) D_impl_BoxFault
/-- loop.example/g00447/impl.StoreFault$1 -/
def F_impl_StoreFault_1 (n : Nat) (a0 : (List Int) × Int × Int × (List (Int × Int × Int × (List Int) × Unit)) × Unit) (a1 : (List Int) × Int × Int × (List (Int × Int × Int × (List Int) × Unit)) × Unit) : Option (Bool × Unit) := (if decide (a0.1 = a1.1) = true then some (true, ()) else some (decide (a0.2.1 = a1.2.1), ()))
def ps_impl_StoreFault_1 : List PSh := [.val (.st (.pair .str (.pair (.int .i64) (.pair (.int .i64) (.pair (.sl 80 (.st (.pair (.int .i64) (.pair (.int .i64) (.pair (.int .i64) (.pair (.sl 5 (.int .u8)) .unit)))))) .unit))))) [], .ro (.st (.pair .str (.pair (.int .i64) (.pair (.int .i64) (.pair (.sl 80 (.st (.pair (.int .i64) (.pair (.int .i64) (.pair (.int .i64) (.pair (.sl 5 (.int .u8)) .unit)))))) .unit)))))]
def rs_impl_StoreFault_1 : List RSh := [.val .bool [] []]
def E_impl_StoreFault_1 : Entry := ⟨40, ps_impl_StoreFault_1, rs_impl_StoreFault_1, fun n (c : Cont (kin ps_impl_StoreFault_1)) => F_impl_StoreFault_1 n c.1 c.2.1⟩
def H_impl_StoreFault_1 : Hint := ⟨0, [], [], [], [], [], []⟩
theorem D_impl_StoreFault_1 : ∀ n (c : Cont (kin ps_impl_StoreFault_1)), denF T H_impl_StoreFault_1 Go.Proofs.Tryd.f40 ps_impl_StoreFault_1 rs_impl_StoreFault_1 n c = E_impl_StoreFault_1.F n c := by intro n c; kernel_rfl
theorem K_impl_StoreFault_1 [Fr] [LaidLib.LaidTab Go.Proofs.Tryd.prog] (n : Nat) : EntryOk Go.Proofs.Tryd.prog n E_impl_StoreFault_1 := fn_entry mixed tabOk (E := E_impl_StoreFault_1) Go.Proofs.Tryd.func40 (by kernel_rfl) (hi := H_impl_StoreFault_1) ca_nil D_impl_StoreFault_1
/-- slices.IndexFunc[[]loop.example/g00447/impl.Box,loop.example/g00447/impl.Box] -/
def F_slices_IndexFunc_impl_Box_impl_Box_impl_StoreFault_1 (n : Nat) (a0 : List ((List Int) × Int × Int × (List (Int × Int × Int × (List Int) × Unit)) × Unit)) (a1_0 : (List Int) × Int × Int × (List (Int × Int × Int × (List Int) × Unit)) × Unit) : Option (Int × Unit) := (rounds (fun L1 (v1 : (List ((List Int) × Int × Int × (List (Int × Int × Int × (List Int) × Unit)) × Unit)) × ((List Int) × Int × Int × (List (Int × Int × Int × (List Int) × Unit)) × Unit) × Int × Int × Unit) => (if decide (v1.2.2.2.1 < v1.2.2.1) = true then (if inLen v1.2.2.2.1 v1.1.length then ((F_impl_StoreFault_1 n (v1.1.getD v1.2.2.2.1.toNat (([] : List Int), (0 : Int), (0 : Int), ([] : List (Int × Int × Int × (List Int) × Unit)), ())) v1.2.1).bind fun r2 => (if r2.1 = true then some (v1.2.2.2.1, ()) else L1 (v1.1, v1.2.1, v1.2.2.1, IntKind.i64.wrap (v1.2.2.2.1 + (1 : Int)), ()))) else none) else some ((-1 : Int), ()))) n (a0, a1_0, (a0.length : Int), (0 : Int), ()))
def ps_slices_IndexFunc_impl_Box_impl_Box_impl_StoreFault_1 : List PSh := [.val (.sl 74 (.st (.pair .str (.pair (.int .i64) (.pair (.int .i64) (.pair (.sl 80 (.st (.pair (.int .i64) (.pair (.int .i64) (.pair (.int .i64) (.pair (.sl 5 (.int .u8)) .unit)))))) .unit)))))) [], .fn 40 [(.st (.pair .str (.pair (.int .i64) (.pair (.int .i64) (.pair (.sl 80 (.st (.pair (.int .i64) (.pair (.int .i64) (.pair (.int .i64) (.pair (.sl 5 (.int .u8)) .unit)))))) .unit)))))]]
def rs_slices_IndexFunc_impl_Box_impl_Box_impl_StoreFault_1 : List RSh := [.val (.int .i64) [] []]
def E_slices_IndexFunc_impl_Box_impl_Box_impl_StoreFault_1 : Entry := ⟨55, ps_slices_IndexFunc_impl_Box_impl_Box_impl_StoreFault_1, rs_slices_IndexFunc_impl_Box_impl_Box_impl_StoreFault_1, fun n (c : Cont (kin ps_slices_IndexFunc_impl_Box_impl_Box_impl_StoreFault_1)) => F_slices_IndexFunc_impl_Box_impl_Box_impl_StoreFault_1 n c.1 c.2.1⟩
def H_slices_IndexFunc_impl_Box_impl_Box_impl_StoreFault_1 : Hint := ⟨0, [], [(0, [0, 1, 7, 8], [])], [], [(40, some 16, E_impl_StoreFault_1)], [], []⟩
theorem D_slices_IndexFunc_impl_Box_impl_Box_impl_StoreFault_1 : ∀ n (c : Cont (kin ps_slices_IndexFunc_impl_Box_impl_Box_impl_StoreFault_1)), denF T H_slices_IndexFunc_impl_Box_impl_Box_impl_StoreFault_1 Go.Proofs.Tryd.f55 ps_slices_IndexFunc_impl_Box_impl_Box_impl_StoreFault_1 rs_slices_IndexFunc_impl_Box_impl_Box_impl_StoreFault_1 n c = E_slices_IndexFunc_impl_Box_impl_Box_impl_StoreFault_1.F n c := by intro n c; kernel_rfl
theorem K_slices_IndexFunc_impl_Box_impl_Box_impl_StoreFault_1 [Fr] [LaidLib.LaidTab Go.Proofs.Tryd.prog] (n : Nat) : EntryOk Go.Proofs.Tryd.prog n E_slices_IndexFunc_impl_Box_impl_Box_impl_StoreFault_1 := fn_entry mixed tabOk (E := E_slices_IndexFunc_impl_Box_impl_Box_impl_StoreFault_1) Go.Proofs.Tryd.func55 (by kernel_rfl) (hi := H_slices_IndexFunc_impl_Box_impl_Box_impl_StoreFault_1) (ca_cons (K_impl_StoreFault_1 n) ca_nil) D_slices_IndexFunc_impl_Box_impl_Box_impl_StoreFault_1
/-- slices.ContainsFunc[[]loop.example/g00447/impl.Box,loop.example/g00447/impl.Box] -/
def F_slices_ContainsFunc_impl_Box_impl_Box_impl_StoreFault_1 (n : Nat) (a0 : List ((List Int) × Int × Int × (List (Int × Int × Int × (List Int) × Unit)) × Unit)) (a1_0 : (List Int) × Int × Int × (List (Int × Int × Int × (List Int) × Unit)) × Unit) : Option (Bool × Unit) := ((F_slices_IndexFunc_impl_Box_impl_Box_impl_StoreFault_1 n a0 a1_0).bind fun r1 => some (decide (r1.1 ≥ (0 : Int)), ()))
def ps_slices_ContainsFunc_impl_Box_impl_Box_impl_StoreFault_1 : List PSh := [.val (.sl 74 (.st (.pair .str (.pair (.int .i64) (.pair (.int .i64) (.pair (.sl 80 (.st (.pair (.int .i64) (.pair (.int .i64) (.pair (.int .i64) (.pair (.sl 5 (.int .u8)) .unit)))))) .unit)))))) [], .fn 40 [(.st (.pair .str (.pair (.int .i64) (.pair (.int .i64) (.pair (.sl 80 (.st (.pair (.int .i64) (.pair (.int .i64) (.pair (.int .i64) (.pair (.sl 5 (.int .u8)) .unit)))))) .unit)))))]]
def rs_slices_ContainsFunc_impl_Box_impl_Box_impl_StoreFault_1 : List RSh := [.val .bool [] []]
def E_slices_ContainsFunc_impl_Box_impl_Box_impl_StoreFault_1 : Entry := ⟨39, ps_slices_ContainsFunc_impl_Box_impl_Box_impl_StoreFault_1, rs_slices_ContainsFunc_impl_Box_impl_Box_impl_StoreFault_1, fun n (c : Cont (kin ps_slices_ContainsFunc_impl_Box_impl_Box_impl_StoreFault_1)) => F_slices_ContainsFunc_impl_Box_impl_Box_impl_StoreFault_1 n c.1 c.2.1⟩
def H_slices_ContainsFunc_impl_Box_impl_Box_impl_StoreFault_1 : Hint := ⟨0, [], [], [], [(55, some 7, E_slices_IndexFunc_impl_Box_impl_Box_impl_StoreFault_1)], [], []⟩
theorem D_slices_ContainsFunc_impl_Box_impl_Box_impl_StoreFault_1 : ∀ n (c : Cont (kin ps_slices_ContainsFunc_impl_Box_impl_Box_impl_StoreFault_1)), denF T H_slices_ContainsFunc_impl_Box_impl_Box_impl_StoreFault_1 Go.Proofs.Tryd.f39 ps_slices_ContainsFunc_impl_Box_impl_Box_impl_StoreFault_1 rs_slices_ContainsFunc_impl_Box_impl_Box_impl_StoreFault_1 n c = E_slices_ContainsFunc_impl_Box_impl_Box_impl_StoreFault_1.F n c := by intro n c; kernel_rfl
theorem K_slices_ContainsFunc_impl_Box_impl_Box_impl_StoreFault_1 [Fr] [LaidLib.LaidTab Go.Proofs.Tryd.prog] (n : Nat) : EntryOk Go.Proofs.Tryd.prog n E_slices_ContainsFunc_impl_Box_impl_Box_impl_StoreFault_1 := fn_entry mixed tabOk (E := E_slices_ContainsFunc_impl_Box_impl_Box_impl_StoreFault_1) Go.Proofs.Tryd.func39 (by kernel_rfl) (hi := H_slices_ContainsFunc_impl_Box_impl_Box_impl_StoreFault_1) (ca_cons (K_slices_IndexFunc_impl_Box_impl_Box_impl_StoreFault_1 n) ca_nil) D_slices_ContainsFunc_impl_Box_impl_Box_impl_StoreFault_1
/-- loop.example/g00447/impl.StoreFault -/
def F_impl_StoreFault (n : Nat) (a0 : Int × (List ((List Int) × Int × Int × (List (Int × Int × Int × (List Int) × Unit)) × Unit)) × Unit) : Option (Int × Unit) := ((F_impl_within n a0.1 (1 : Int) (1000 : Int)).bind fun r1 => (if (!r1.1) = true then some ((3 : Int), ()) else (if decide ((a0.2.1.length : Int) > (3 : Int)) = true then some ((2 : Int), ()) else (rounds (fun L2 (v2 : (List ((List Int) × Int × Int × (List (Int × Int × Int × (List Int) × Unit)) × Unit)) × Int × Int × (Int × (List ((List Int) × Int × Int × (List (Int × Int × Int × (List Int) × Unit)) × Unit)) × Unit) × Unit) => (if decide (v2.2.2.1 < v2.2.1) = true then (if inLen v2.2.2.1 v2.1.length then ((F_impl_BoxFault n (v2.1.getD v2.2.2.1.toNat (([] : List Int), (0 : Int), (0 : Int), ([] : List (Int × Int × Int × (List Int) × Unit)), ()))).bind fun r3 => (if (!decide (r3.1 = (0 : Int))) = true then some (r3.1, ()) else (if decide ((((v2.1.getD v2.2.2.1.toNat (([] : List Int), (0 : Int), (0 : Int), ([] : List (Int × Int × Int × (List Int) × Unit)), ())).2).1) ≥ v2.2.2.2.1.1) = true then some ((9 : Int), ()) else (if 0 ≤ v2.2.2.1 ∧ v2.2.2.1 ≤ (v2.2.2.2.1.2.1.length : Int) then ((F_slices_ContainsFunc_impl_Box_impl_Box_impl_StoreFault_1 n (v2.2.2.2.1.2.1.take v2.2.2.1.toNat) (v2.1.getD v2.2.2.1.toNat (([] : List Int), (0 : Int), (0 : Int), ([] : List (Int × Int × Int × (List Int) × Unit)), ()))).bind fun r4 => (if r4.1 = true then some ((6 : Int), ()) else L2 (v2.1, v2.2.1, IntKind.i64.wrap (v2.2.2.1 + (1 : Int)), v2.2.2.2.1, ()))) else none)))) else none) else some ((0 : Int), ()))) n (a0.2.1, (a0.2.1.length : Int), (0 : Int), a0, ())))))
def ps_impl_StoreFault : List PSh := [.val (.st (.pair (.int .i64) (.pair (.sl 74 (.st (.pair .str (.pair (.int .i64) (.pair (.int .i64) (.pair (.sl 80 (.st (.pair (.int .i64) (.pair (.int .i64) (.pair (.int .i64) (.pair (.sl 5 (.int .u8)) .unit)))))) .unit)))))) .unit))) []]
def rs_impl_StoreFault : List RSh := [.val (.int .i64) [] []]
def E_impl_StoreFault : Entry := ⟨27, ps_impl_StoreFault, rs_impl_StoreFault, fun n (c : Cont (kin ps_impl_StoreFault)) => F_impl_StoreFault n c.1⟩
def H_impl_StoreFault : Hint := ⟨0, [], [(1, [1, 17, 18, 19], [34])], [], [(20, some 9, E_impl_within), (38, some 25, E_impl_BoxFault), (39, some 41, E_slices_ContainsFunc_impl_Box_impl_Box_impl_StoreFault_1)], [], []⟩
theorem D_impl_StoreFault : ∀ n (c : Cont (kin ps_impl_StoreFault)), denF T H_impl_StoreFault Go.Proofs.Tryd.f27 ps_impl_StoreFault rs_impl_StoreFault n c = E_impl_StoreFault.F n c := by intro n c; kernel_rfl
theorem K_impl_StoreFault [Fr] [LaidLib.LaidTab Go.Proofs.Tryd.prog] (n : Nat) : EntryOk Go.Proofs.Tryd.prog n E_impl_StoreFault := fn_entry mixed tabOk (E := E_impl_StoreFault) Go.Proofs.Tryd.func27 (by kernel_rfl) (hi := H_impl_StoreFault) (ca_cons (K_impl_within n) (ca_cons (K_impl_BoxFault n) (ca_cons (K_slices_ContainsFunc_impl_Box_impl_Box_impl_StoreFault_1 n) ca_nil))) D_impl_StoreFault
def laysM173_ren : Go.Shelf.Ren := ⟨fun | 173 => 47 | 246 => 63 | 283 => 79 | 284 => 80 | 285 => 81 | 286 => 82 | 129 => 90 | 317 => 89 | 318 => 91 | 319 => 92 | 320 => 93 | 337 => 96 | 338 => 97 | n => n, fun | 2 => 2 | 3 => 3 | 9 => 9 | 4 => 4 | 171 => 126 | 0 => 0 | 53 => 100 | 37 => 78 | 5 => 5 | 173 => 129 | 212 => 140 | 51 => 141 | 20 => 20 | 213 => 142 | 46 => 103 | 232 => 149 | 233 => 150 | n => n, fun | 17 => 2 | 18 => 4 | 19 => 5 | n => n⟩
theorem laysM173 : Go.Proofs.LaysM.n173 Tryd.prog laysM173_ren := {
  mixed := by kernel_rfl
  f129 := Tryd.func90.trans (congrArg some (by kernel_rfl))
  f173 := Tryd.func47.trans (congrArg some (by kernel_rfl))
  f246 := Tryd.func63.trans (congrArg some (by kernel_rfl))
  f283 := Tryd.func79.trans (congrArg some (by kernel_rfl))
  f284 := Tryd.func80.trans (congrArg some (by kernel_rfl))
  f285 := Tryd.func81.trans (congrArg some (by kernel_rfl))
  f286 := Tryd.func82.trans (congrArg some (by kernel_rfl))
  f317 := Tryd.func89.trans (congrArg some (by kernel_rfl))
  f318 := Tryd.func91.trans (congrArg some (by kernel_rfl))
  f319 := Tryd.func92.trans (congrArg some (by kernel_rfl))
  f320 := Tryd.func93.trans (congrArg some (by kernel_rfl))
  f337 := Tryd.func96.trans (congrArg some (by kernel_rfl))
  f338 := Tryd.func97.trans (congrArg some (by kernel_rfl))
  t0 := Tryd.underlying0
  a0 := Tryd.isAgg0
  z0 := Tryd.sizeOf0
  v0 := Tryd.zeroValue0
  t2 := Tryd.underlying2
  a2 := Tryd.isAgg2
  z2 := Tryd.sizeOf2
  v2 := Tryd.zeroValue2
  t3 := Tryd.underlying3
  a3 := Tryd.isAgg3
  z3 := Tryd.sizeOf3
  v3 := Tryd.zeroValue3
  t4 := Tryd.underlying4
  a4 := Tryd.isAgg4
  z4 := Tryd.sizeOf4
  v4 := Tryd.zeroValue4
  t5 := Tryd.underlying5
  a5 := Tryd.isAgg5
  z5 := Tryd.sizeOf5
  v5 := Tryd.zeroValue5
  t9 := Tryd.underlying9
  a9 := Tryd.isAgg9
  z9 := Tryd.sizeOf9
  v9 := Tryd.zeroValue9
  t20 := Tryd.underlying20
  a20 := Tryd.isAgg20
  z20 := Tryd.sizeOf20
  v20 := Tryd.zeroValue20
  t37 := Tryd.underlying78
  a37 := Tryd.isAgg78
  z37 := Tryd.sizeOf78
  v37 := Tryd.zeroValue78
  t46 := Tryd.underlying103
  a46 := Tryd.isAgg103
  z46 := Tryd.sizeOf103
  v46 := Tryd.zeroValue103
  t51 := Tryd.underlying141
  a51 := Tryd.isAgg141
  z51 := Tryd.sizeOf141
  v51 := Tryd.zeroValue141
  t53 := Tryd.underlying100
  a53 := Tryd.isAgg100
  z53 := Tryd.sizeOf100
  v53 := Tryd.zeroValue100
  t171 := Tryd.underlying126
  a171 := Tryd.isAgg126
  z171 := Tryd.sizeOf126
  v171 := Tryd.zeroValue126
  t173 := Tryd.underlying129
  a173 := Tryd.isAgg129
  z173 := Tryd.sizeOf129
  v173 := Tryd.zeroValue129
  t212 := Tryd.underlying140
  a212 := Tryd.isAgg140
  z212 := Tryd.sizeOf140
  v212 := Tryd.zeroValue140
  t213 := Tryd.underlying142
  a213 := Tryd.isAgg142
  z213 := Tryd.sizeOf142
  t232 := Tryd.underlying149
  a232 := Tryd.isAgg149
  z232 := Tryd.sizeOf149
  v232 := Tryd.zeroValue149
  t233 := Tryd.underlying150
  a233 := Tryd.isAgg150
  z233 := Tryd.sizeOf150
  v233 := Tryd.zeroValue150
  g17 := by kernel_rfl
  g18 := by kernel_rfl
  g19 := by kernel_rfl
  i0 := by kernel_rfl
  i2 := by kernel_rfl
  i3 := by kernel_rfl
  i4 := by kernel_rfl
  i5 := by kernel_rfl
  i9 := by kernel_rfl
  i20 := by kernel_rfl
  i37 := by kernel_rfl
  i46 := by kernel_rfl
  i51 := by kernel_rfl
  i53 := by kernel_rfl
  i171 := by kernel_rfl
  i173 := by kernel_rfl
  i212 := by kernel_rfl
  i232 := by kernel_rfl
  i233 := by kernel_rfl
  m17 := by kernel_rfl
  m18 := by kernel_rfl
  m19 := by kernel_rfl }
open Go.Proofs Go.RowKit Go.Sort Go.Lib in
theorem strconv_FormatInt_10 (n : Int) (h0 : -9223372036854775808 ≤ n) (h1 : n ≤ 9223372036854775807) (w : World) (htab : Lib.TabIs Tryd.prog w "internal/strconv.uint64pow10" .u64 Lib.pow10Tab) :
    Calls Tryd.prog 47 #[.int .i64 n, .int .i64 10] w fun e w' => e = .returned (.string ⟨(Lib.itoa n).toArray⟩) ∧ ∃ k os, w' = grow (w.drewN k) os := Any.strconv_FormatInt_10 laysM173 n h0 h1 w htab
open Go.Proofs Go.Shelf Go.RowKit Go.Sort Go.Lib in
theorem decimal_call (n : Int) (h0 : -9223372036854775808 ≤ n) (h1 : n ≤ 9223372036854775807) (w : World) (htab : Lib.TabIs Tryd.prog w "internal/strconv.uint64pow10" .u64 Lib.pow10Tab) :
    Calls Tryd.prog 33 #[.int .i64 n] w fun e w' => e = .returned (.string ⟨(Lib.itoa n).toArray⟩) ∧ Below w.heap.size w w' := by
  have e47 : ∀ args w, (callFunc 47 args).run Tryd.prog w = .ok (.enter 47 args) w := fun args w => Go.MuLone.run_callFunc_enter Tryd.func47 (by kernel_rfl) rfl args w
  go_enter Tryd.func33, Tryd.ntmps33
  go_wp2_with (go_at_fn 47; refine (strconv_FormatInt_10 n h0 h1 _ htab).mono ?_; rintro e w' ⟨rfl, k, os, rfl⟩)
  go_ret
  exact ⟨rfl, ⟨rfl, rfl, rfl, by simp [grow, World.drewN], fun k hk => by simp [grow, World.drewN, Array.getElem?_append, hk]⟩⟩

def F_impl_decimal (n : Nat) (a0 : Int) : Option (List Int × Unit) := LaidLib.decF a0
def ps_impl_decimal : List PSh := [.val (.int .i64) []]
def rs_impl_decimal : List RSh := [.val .str [] []]
def E_impl_decimal : Entry := ⟨33, ps_impl_decimal, rs_impl_decimal, fun n (c : Cont (kin ps_impl_decimal)) => F_impl_decimal n c.1⟩
theorem K_impl_decimal [Fr] [LaidLib.LaidTab Go.Proofs.Tryd.prog] (n : Nat) : EntryOk Go.Proofs.Tryd.prog n E_impl_decimal := LaidLib.dec_entry decimal_call (Go.MuLone.run_callFunc_enter Go.Proofs.Tryd.func33 (by kernel_rfl) rfl)
def lays156_ren : Go.Shelf.Ren := ⟨fun | 156 => 56 | 165 => 70 | 166 => 71 | 169 => 72 | 240 => 85 | 241 => 86 | 276 => 94 | 277 => 95 | n => n, fun | 31 => 22 | 9 => 9 | 3 => 3 | 4 => 4 | 0 => 0 | 20 => 20 | 72 => 114 | 76 => 116 | 70 => 112 | 37 => 78 | 75 => 62 | 127 => 133 | 164 => 145 | 5 => 5 | 80 => 118 | n => n, fun | n => n⟩
theorem lays156 : Go.Proofs.Lays.n156 Tryd.prog lays156_ren := {
  mixed := by kernel_rfl
  f156 := Tryd.func56.trans (congrArg some (by kernel_rfl))
  f165 := Tryd.func70.trans (congrArg some (by kernel_rfl))
  f166 := Tryd.func71.trans (congrArg some (by kernel_rfl))
  f169 := Tryd.func72.trans (congrArg some (by kernel_rfl))
  f240 := Tryd.func85.trans (congrArg some (by kernel_rfl))
  f241 := Tryd.func86.trans (congrArg some (by kernel_rfl))
  f276 := Tryd.func94.trans (congrArg some (by kernel_rfl))
  f277 := Tryd.func95.trans (congrArg some (by kernel_rfl))
  t0 := Tryd.underlying0
  a0 := Tryd.isAgg0
  z0 := Tryd.sizeOf0
  v0 := Tryd.zeroValue0
  t3 := Tryd.underlying3
  a3 := Tryd.isAgg3
  z3 := Tryd.sizeOf3
  v3 := Tryd.zeroValue3
  t4 := Tryd.underlying4
  a4 := Tryd.isAgg4
  z4 := Tryd.sizeOf4
  v4 := Tryd.zeroValue4
  t9 := Tryd.underlying9
  a9 := Tryd.isAgg9
  z9 := Tryd.sizeOf9
  v9 := Tryd.zeroValue9
  t20 := Tryd.underlying20
  a20 := Tryd.isAgg20
  z20 := Tryd.sizeOf20
  v20 := Tryd.zeroValue20
  t31 := Tryd.underlying22
  a31 := Tryd.isAgg22
  z31 := Tryd.sizeOf22
  v31 := Tryd.zeroValue22
  t37 := Tryd.underlying78
  a37 := Tryd.isAgg78
  z37 := Tryd.sizeOf78
  v37 := Tryd.zeroValue78
  t70 := Tryd.underlying112
  a70 := Tryd.isAgg112
  z70 := Tryd.sizeOf112
  v70 := Tryd.zeroValue112
  t72 := Tryd.underlying114
  a72 := Tryd.isAgg114
  z72 := Tryd.sizeOf114
  v72 := Tryd.zeroValue114
  t75 := Tryd.underlying62
  a75 := Tryd.isAgg62
  z75 := Tryd.sizeOf62
  v75 := Tryd.zeroValue62
  t76 := Tryd.underlying116
  a76 := Tryd.isAgg116
  z76 := Tryd.sizeOf116
  v76 := Tryd.zeroValue116
  t127 := Tryd.underlying133
  a127 := Tryd.isAgg133
  z127 := Tryd.sizeOf133
  v127 := Tryd.zeroValue133
  t164 := Tryd.underlying145
  a164 := Tryd.isAgg145
  z164 := Tryd.sizeOf145
  v164 := Tryd.zeroValue145 }
theorem Builder_Extra_156 : Builder.Extra Tryd.prog lays156_ren := {
  sizeBuilder := by kernel_rfl
  liesBuilder := by kernel_rfl
  t5 := Tryd.underlying5
  a5 := Tryd.isAgg5
  z5 := Tryd.sizeOf5
  v5 := Tryd.zeroValue5
  infoByte := by kernel_rfl
  cellsByte := by kernel_rfl
  sizeByte := by kernel_rfl
  neB5 := by decide }
open Go.Proofs Go.RowKit in
theorem strings_Join_none (a : Option Addr) (c : Nat) (sep : ByteArray) (w : World) :
    Calls Tryd.prog 56 #[.slice a 0 c, .string sep] w fun e w' => e = .returned (.string ⟨#[]⟩) ∧ w' = w := Any.strings_Join_none lays156 Builder_Extra_156 a c sep w
open Go.Proofs Go.RowKit in
theorem strings_Join (bk o c : Nat) (xs : List ByteArray) (sep : ByteArray) (w : World) (hcells : ∀ (j : Nat) x, xs[j]? = some x → w.cell? ⟨bk, o + j, none⟩ = some (.string x)) (hbk : bk < w.heap.size) (hN : xs.length ≤ 140737488355328) (hcap : xs.length ≤ c) (hlen : (Lib.join (xs.map (·.data.toList)) sep.data.toList).length ≤ 140737488355328) :
    Calls Tryd.prog 56 #[.slice (some ⟨bk, o, none⟩) xs.length c, .string sep] w fun e w' => e = .returned (.string ⟨(Lib.join (xs.map (·.data.toList)) sep.data.toList).toArray⟩) ∧ Below w.heap.size w w' := Any.strings_Join lays156 Builder_Extra_156 bk o c xs sep w hcells hbk hN hcap hlen
def F_strings_Join (n : Nat) (a0 : List (List Int)) (a1 : List Int) : Option (List Int × Unit) := JoinLib.joinF a0 a1
def ps_strings_Join : List PSh := [.val (.sl 9 .str) [], .val .str []]
def rs_strings_Join : List RSh := [.val .str [] []]
def E_strings_Join : Entry := ⟨56, ps_strings_Join, rs_strings_Join, fun n (c : Cont (kin ps_strings_Join)) => F_strings_Join n c.1 c.2.1⟩
theorem K_strings_Join [Fr] [LaidLib.LaidTab Go.Proofs.Tryd.prog] (n : Nat) : EntryOk Go.Proofs.Tryd.prog n E_strings_Join := JoinLib.join_entry strings_Join_none strings_Join (Go.MuLone.run_callFunc_enter Go.Proofs.Tryd.func56 (by kernel_rfl) rfl)
/-- loop.example/g00447/impl.numbersText -/
def F_impl_numbersText (n : Nat) (a0 : List Int) (a1 : List Int) : Option ((List Int) × Unit) := (rounds (fun L1 (v1 : (List Int) × Int × Int × (List (List Int)) × Unit) => (if decide (v1.2.2.1 < v1.2.1) = true then (if inLen v1.2.2.1 v1.1.length then ((F_impl_decimal n (v1.1.getD v1.2.2.1.toNat (0 : Int))).bind fun r2 => (if (v1.2.2.2.1.length + [r2.1].length) * 16 ≤ 140737488355328 then L1 (v1.1, v1.2.1, IntKind.i64.wrap (v1.2.2.1 + (1 : Int)), v1.2.2.2.1 ++ [r2.1], ()) else none)) else none) else ((F_strings_Join n v1.2.2.2.1 [32]).bind fun r3 => some (r3.1, ())))) n (a1, (a1.length : Int), (0 : Int), [a0], ()))
def ps_impl_numbersText : List PSh := [.val .str [], .val (.sl 2 (.int .i64)) []]
def rs_impl_numbersText : List RSh := [.val .str [] []]
def E_impl_numbersText : Entry := ⟨41, ps_impl_numbersText, rs_impl_numbersText, fun n (c : Cont (kin ps_impl_numbersText)) => F_impl_numbersText n c.1 c.2.1⟩
def H_impl_numbersText : Hint := ⟨0, [], [(0, [5, 10, 11, 12], [290])], [], [(33, some 18, E_impl_decimal), (56, some 23, E_strings_Join)], [], []⟩
theorem D_impl_numbersText : ∀ n (c : Cont (kin ps_impl_numbersText)), denF T H_impl_numbersText Go.Proofs.Tryd.f41 ps_impl_numbersText rs_impl_numbersText n c = E_impl_numbersText.F n c := by intro n c; kernel_rfl
theorem K_impl_numbersText [Fr] [LaidLib.LaidTab Go.Proofs.Tryd.prog] (n : Nat) : EntryOk Go.Proofs.Tryd.prog n E_impl_numbersText := fn_entry mixed tabOk (E := E_impl_numbersText) Go.Proofs.Tryd.func41 (by kernel_rfl) (hi := H_impl_numbersText) (ca_cons (K_impl_decimal n) (ca_cons (K_strings_Join n) ca_nil)) D_impl_numbersText
/-- loop.example/g00447/impl.length[byte] -/
def F_impl_length_byte (n : Nat) (a0 : List Int) : Option (Int × Unit) := some ((a0.length : Int), ())
def ps_impl_length_byte : List PSh := [.val (.sl 5 (.int .u8)) []]
def rs_impl_length_byte : List RSh := [.val (.int .i64) [] []]
def E_impl_length_byte : Entry := ⟨42, ps_impl_length_byte, rs_impl_length_byte, fun n (c : Cont (kin ps_impl_length_byte)) => F_impl_length_byte n c.1⟩
def H_impl_length_byte : Hint := ⟨0, [], [], [], [], [], []⟩
theorem D_impl_length_byte : ∀ n (c : Cont (kin ps_impl_length_byte)), denF T H_impl_length_byte Go.Proofs.Tryd.f42 ps_impl_length_byte rs_impl_length_byte n c = E_impl_length_byte.F n c := by intro n c; kernel_rfl
theorem K_impl_length_byte [Fr] [LaidLib.LaidTab Go.Proofs.Tryd.prog] (n : Nat) : EntryOk Go.Proofs.Tryd.prog n E_impl_length_byte := fn_entry mixed tabOk (E := E_impl_length_byte) Go.Proofs.Tryd.func42 (by kernel_rfl) (hi := H_impl_length_byte) ca_nil D_impl_length_byte
/-- loop.example/g00447/impl.storeText -/
def F_impl_storeText (n : Nat) (a0 : Int × (List ((List Int) × Int × Int × (List (Int × Int × Int × (List Int) × Unit)) × Unit)) × Unit) : Option ((List Int) × Unit) := (rounds (fun L1 (v1 : (List Int) × (List ((List Int) × Int × Int × (List (Int × Int × Int × (List Int) × Unit)) × Unit)) × Int × Int × (Int × (List ((List Int) × Int × Int × (List (Int × Int × Int × (List Int) × Unit)) × Unit)) × Unit) × Unit) => (if decide (v1.2.2.2.1 < v1.2.2.1) = true then (if inLen v1.2.2.2.1 v1.2.1.length then (if [98, 111, 120, 32].length + ((v1.2.1.getD v1.2.2.2.1.toNat (([] : List Int), (0 : Int), (0 : Int), ([] : List (Int × Int × Int × (List Int) × Unit)), ())).1).length ≤ 9223372036854775807 then ((F_impl_numbersText n ([98, 111, 120, 32] ++ ((v1.2.1.getD v1.2.2.2.1.toNat (([] : List Int), (0 : Int), (0 : Int), ([] : List (Int × Int × Int × (List Int) × Unit)), ())).1)) [((v1.2.1.getD v1.2.2.2.1.toNat (([] : List Int), (0 : Int), (0 : Int), ([] : List (Int × Int × Int × (List Int) × Unit)), ())).2).1, (((v1.2.1.getD v1.2.2.2.1.toNat (([] : List Int), (0 : Int), (0 : Int), ([] : List (Int × Int × Int × (List Int) × Unit)), ())).2).2).1]).bind fun r2 => (if r2.1.length + [10].length ≤ 9223372036854775807 then (if v1.1.length + (r2.1 ++ [10]).length ≤ 9223372036854775807 then (rounds (fun L3 (v3 : (List Int) × (List ((List Int) × Int × Int × (List (Int × Int × Int × (List Int) × Unit)) × Unit)) × Int × Int × (List (Int × Int × Int × (List Int) × Unit)) × Int × Int × (Int × (List ((List Int) × Int × Int × (List (Int × Int × Int × (List Int) × Unit)) × Unit)) × Unit) × ((List Int) × Int × Int × (List (Int × Int × Int × (List Int) × Unit)) × Unit) × Unit) => (if decide (v3.2.2.2.2.2.2.1 < v3.2.2.2.2.2.1) = true then (if inLen v3.2.2.2.2.2.2.1 v3.2.2.2.2.1.length then ((F_impl_length_byte n (((((v3.2.2.2.2.1.getD v3.2.2.2.2.2.2.1.toNat ((0 : Int), (0 : Int), (0 : Int), ([] : List Int), ())).2).2).2).1)).bind fun r4 => ((F_impl_numbersText n [109, 101, 115, 115, 97, 103, 101] [(v3.2.2.2.2.1.getD v3.2.2.2.2.2.2.1.toNat ((0 : Int), (0 : Int), (0 : Int), ([] : List Int), ())).1, ((v3.2.2.2.2.1.getD v3.2.2.2.2.2.2.1.toNat ((0 : Int), (0 : Int), (0 : Int), ([] : List Int), ())).2).1, (((v3.2.2.2.2.1.getD v3.2.2.2.2.2.2.1.toNat ((0 : Int), (0 : Int), (0 : Int), ([] : List Int), ())).2).2).1, r4.1]).bind fun r5 => (if r5.1.length + [10].length ≤ 9223372036854775807 then (if v3.1.length + (r5.1 ++ [10]).length ≤ 9223372036854775807 then L3 (v3.1 ++ (r5.1 ++ [10]), v3.2.1, v3.2.2.1, v3.2.2.2.1, v3.2.2.2.2.1, v3.2.2.2.2.2.1, IntKind.i64.wrap (v3.2.2.2.2.2.2.1 + (1 : Int)), v3.2.2.2.2.2.2.2.1, v3.2.2.2.2.2.2.2.2.1, ()) else none) else none))) else none) else L1 (v3.1, v3.2.1, v3.2.2.1, IntKind.i64.wrap (v3.2.2.2.1 + (1 : Int)), v3.2.2.2.2.2.2.2.1, ()))) n (v1.1 ++ (r2.1 ++ [10]), v1.2.1, v1.2.2.1, v1.2.2.2.1, ((((v1.2.1.getD v1.2.2.2.1.toNat (([] : List Int), (0 : Int), (0 : Int), ([] : List (Int × Int × Int × (List Int) × Unit)), ())).2).2).2).1, ((((((v1.2.1.getD v1.2.2.2.1.toNat (([] : List Int), (0 : Int), (0 : Int), ([] : List (Int × Int × Int × (List Int) × Unit)), ())).2).2).2).1).length : Int), (0 : Int), v1.2.2.2.2.1, v1.2.1.getD v1.2.2.2.1.toNat (([] : List Int), (0 : Int), (0 : Int), ([] : List (Int × Int × Int × (List Int) × Unit)), ()), ())) else none) else none)) else none) else none) else (if decide (v1.1 = ([] : List Int)) = true then some ([110, 111, 110, 101, 10], ()) else some (v1.1, ())))) n (([] : List Int), a0.2.1, (a0.2.1.length : Int), (0 : Int), a0, ()))
def ps_impl_storeText : List PSh := [.val (.st (.pair (.int .i64) (.pair (.sl 74 (.st (.pair .str (.pair (.int .i64) (.pair (.int .i64) (.pair (.sl 80 (.st (.pair (.int .i64) (.pair (.int .i64) (.pair (.int .i64) (.pair (.sl 5 (.int .u8)) .unit)))))) .unit)))))) .unit))) []]
def rs_impl_storeText : List RSh := [.val .str [] []]
def E_impl_storeText : Entry := ⟨28, ps_impl_storeText, rs_impl_storeText, fun n (c : Cont (kin ps_impl_storeText)) => F_impl_storeText n c.1⟩
def H_impl_storeText : Hint := ⟨0, [], [(0, [3, 9, 10, 11], [34]), (2, [3, 9, 10, 11, 28, 29, 30], [34, 162])], [], [(41, some 24, E_impl_numbersText), (42, some 43, E_impl_length_byte), (41, some 45, E_impl_numbersText)], [], []⟩
theorem D_impl_storeText : ∀ n (c : Cont (kin ps_impl_storeText)), denF T H_impl_storeText Go.Proofs.Tryd.f28 ps_impl_storeText rs_impl_storeText n c = E_impl_storeText.F n c := by intro n c; kernel_rfl
theorem K_impl_storeText [Fr] [LaidLib.LaidTab Go.Proofs.Tryd.prog] (n : Nat) : EntryOk Go.Proofs.Tryd.prog n E_impl_storeText := fn_entry mixed tabOk (E := E_impl_storeText) Go.Proofs.Tryd.func28 (by kernel_rfl) (hi := H_impl_storeText) (ca_cons (K_impl_numbersText n) (ca_cons (K_impl_length_byte n) (ca_cons (K_impl_numbersText n) ca_nil))) D_impl_storeText
/-- loop.example/g00447/impl.StoreText -/
def F_impl_StoreText (n : Nat) (a0 : Int × (List ((List Int) × Int × Int × (List (Int × Int × Int × (List Int) × Unit)) × Unit)) × Unit) : Option ((Int × (List Int) × Unit) × Unit) := ((F_impl_StoreFault n a0).bind fun r1 => (if (!decide (r1.1 = (0 : Int))) = true then some ((r1.1, ([] : List Int), ()), ()) else ((F_impl_storeText n a0).bind fun r2 => some (((0 : Int), r2.1, ()), ()))))
def ps_impl_StoreText : List PSh := [.val (.st (.pair (.int .i64) (.pair (.sl 74 (.st (.pair .str (.pair (.int .i64) (.pair (.int .i64) (.pair (.sl 80 (.st (.pair (.int .i64) (.pair (.int .i64) (.pair (.int .i64) (.pair (.sl 5 (.int .u8)) .unit)))))) .unit)))))) .unit))) []]
def rs_impl_StoreText : List RSh := [.val (.st (.pair (.int .i64) (.pair .str .unit))) [] []]
def E_impl_StoreText : Entry := ⟨14, ps_impl_StoreText, rs_impl_StoreText, fun n (c : Cont (kin ps_impl_StoreText)) => F_impl_StoreText n c.1⟩
def H_impl_StoreText : Hint := ⟨0, [], [], [], [(27, some 5, E_impl_StoreFault), (28, some 11, E_impl_storeText)], [], []⟩
theorem D_impl_StoreText : ∀ n (c : Cont (kin ps_impl_StoreText)), denF T H_impl_StoreText Go.Proofs.Tryd.f14 ps_impl_StoreText rs_impl_StoreText n c = E_impl_StoreText.F n c := by intro n c; kernel_rfl
theorem K_impl_StoreText [Fr] [LaidLib.LaidTab Go.Proofs.Tryd.prog] (n : Nat) : EntryOk Go.Proofs.Tryd.prog n E_impl_StoreText := fn_entry mixed tabOk (E := E_impl_StoreText) Go.Proofs.Tryd.func14 (by kernel_rfl) (hi := H_impl_StoreText) (ca_cons (K_impl_StoreFault n) (ca_cons (K_impl_storeText n) ca_nil)) D_impl_StoreText
/-- loop.example/g00447/laws.eqTextResult -/
def F_laws_eqTextResult (n : Nat) (a0 : Int × (List Int) × Unit) (a1 : Int × (List Int) × Unit) : Option (Bool × Unit) := (if (!decide (a0.1 = a1.1)) = true then some (false, ()) else (if (!decide (a0.2.1 = a1.2.1)) = true then some (false, ()) else some (true, ())))
def ps_laws_eqTextResult : List PSh := [.val (.st (.pair (.int .i64) (.pair .str .unit))) [], .val (.st (.pair (.int .i64) (.pair .str .unit))) []]
def rs_laws_eqTextResult : List RSh := [.val .bool [] []]
def E_laws_eqTextResult : Entry := ⟨15, ps_laws_eqTextResult, rs_laws_eqTextResult, fun n (c : Cont (kin ps_laws_eqTextResult)) => F_laws_eqTextResult n c.1 c.2.1⟩
def H_laws_eqTextResult : Hint := ⟨0, [], [], [], [], [], []⟩
theorem D_laws_eqTextResult : ∀ n (c : Cont (kin ps_laws_eqTextResult)), denF T H_laws_eqTextResult Go.Proofs.Tryd.f15 ps_laws_eqTextResult rs_laws_eqTextResult n c = E_laws_eqTextResult.F n c := by intro n c; kernel_rfl
theorem K_laws_eqTextResult [Fr] [LaidLib.LaidTab Go.Proofs.Tryd.prog] (n : Nat) : EntryOk Go.Proofs.Tryd.prog n E_laws_eqTextResult := fn_entry mixed tabOk (E := E_laws_eqTextResult) Go.Proofs.Tryd.func15 (by kernel_rfl) (hi := H_laws_eqTextResult) ca_nil D_laws_eqTextResult
/-- loop.example/g00447/laws.eqByteS -/
def F_laws_eqByteS (n : Nat) (a0 : List Int) (a1 : List Int) : Option (Bool × Unit) := (if (!decide ((a0.length : Int) = (a1.length : Int))) = true then some (false, ()) else (rounds (fun L1 (v1 : (List Int) × (List Int) × Int × Unit) => (if decide (v1.2.2.1 < (v1.1.length : Int)) = true then (if inLen v1.2.2.1 v1.1.length then (if inLen v1.2.2.1 v1.2.1.length then (if (!decide ((v1.1.getD v1.2.2.1.toNat (0 : Int)) = (v1.2.1.getD v1.2.2.1.toNat (0 : Int)))) = true then some (false, ()) else L1 (v1.1, v1.2.1, IntKind.i64.wrap (v1.2.2.1 + (1 : Int)), ())) else none) else none) else some (true, ()))) n (a0, a1, (0 : Int), ())))
def ps_laws_eqByteS : List PSh := [.val (.sl 5 (.int .u8)) [], .val (.sl 5 (.int .u8)) []]
def rs_laws_eqByteS : List RSh := [.val .bool [] []]
def E_laws_eqByteS : Entry := ⟨87, ps_laws_eqByteS, rs_laws_eqByteS, fun n (c : Cont (kin ps_laws_eqByteS)) => F_laws_eqByteS n c.1 c.2.1⟩
def H_laws_eqByteS : Hint := ⟨0, [], [(0, [0, 1, 5], [])], [], [], [], []⟩
theorem D_laws_eqByteS : ∀ n (c : Cont (kin ps_laws_eqByteS)), denF T H_laws_eqByteS Go.Proofs.Tryd.f87 ps_laws_eqByteS rs_laws_eqByteS n c = E_laws_eqByteS.F n c := by intro n c; kernel_rfl
theorem K_laws_eqByteS [Fr] [LaidLib.LaidTab Go.Proofs.Tryd.prog] (n : Nat) : EntryOk Go.Proofs.Tryd.prog n E_laws_eqByteS := fn_entry mixed tabOk (E := E_laws_eqByteS) Go.Proofs.Tryd.func87 (by kernel_rfl) (hi := H_laws_eqByteS) ca_nil D_laws_eqByteS
/-- loop.example/g00447/laws.eqMessage -/
def F_laws_eqMessage (n : Nat) (a0 : Int × Int × Int × (List Int) × Unit) (a1 : Int × Int × Int × (List Int) × Unit) : Option (Bool × Unit) := (if (!decide (a0.1 = a1.1)) = true then some (false, ()) else (if (!decide (a0.2.1 = a1.2.1)) = true then some (false, ()) else (if (!decide (a0.2.2.1 = a1.2.2.1)) = true then some (false, ()) else ((F_laws_eqByteS n a0.2.2.2.1 a1.2.2.2.1).bind fun r1 => (if (!r1.1) = true then some (false, ()) else some (true, ()))))))
def ps_laws_eqMessage : List PSh := [.val (.st (.pair (.int .i64) (.pair (.int .i64) (.pair (.int .i64) (.pair (.sl 5 (.int .u8)) .unit))))) [], .val (.st (.pair (.int .i64) (.pair (.int .i64) (.pair (.int .i64) (.pair (.sl 5 (.int .u8)) .unit))))) []]
def rs_laws_eqMessage : List RSh := [.val .bool [] []]
def E_laws_eqMessage : Entry := ⟨73, ps_laws_eqMessage, rs_laws_eqMessage, fun n (c : Cont (kin ps_laws_eqMessage)) => F_laws_eqMessage n c.1 c.2.1⟩
def H_laws_eqMessage : Hint := ⟨0, [], [], [], [(87, some 24, E_laws_eqByteS)], [], []⟩
theorem D_laws_eqMessage : ∀ n (c : Cont (kin ps_laws_eqMessage)), denF T H_laws_eqMessage Go.Proofs.Tryd.f73 ps_laws_eqMessage rs_laws_eqMessage n c = E_laws_eqMessage.F n c := by intro n c; kernel_rfl
theorem K_laws_eqMessage [Fr] [LaidLib.LaidTab Go.Proofs.Tryd.prog] (n : Nat) : EntryOk Go.Proofs.Tryd.prog n E_laws_eqMessage := fn_entry mixed tabOk (E := E_laws_eqMessage) Go.Proofs.Tryd.func73 (by kernel_rfl) (hi := H_laws_eqMessage) (ca_cons (K_laws_eqByteS n) ca_nil) D_laws_eqMessage
/-- loop.example/g00447/laws.eqMessageS -/
def F_laws_eqMessageS (n : Nat) (a0 : List (Int × Int × Int × (List Int) × Unit)) (a1 : List (Int × Int × Int × (List Int) × Unit)) : Option (Bool × Unit) := (if (!decide ((a0.length : Int) = (a1.length : Int))) = true then some (false, ()) else (rounds (fun L1 (v1 : (List (Int × Int × Int × (List Int) × Unit)) × (List (Int × Int × Int × (List Int) × Unit)) × Int × Unit) => (if decide (v1.2.2.1 < (v1.1.length : Int)) = true then (if inLen v1.2.2.1 v1.1.length then (if inLen v1.2.2.1 v1.2.1.length then ((F_laws_eqMessage n (v1.1.getD v1.2.2.1.toNat ((0 : Int), (0 : Int), (0 : Int), ([] : List Int), ())) (v1.2.1.getD v1.2.2.1.toNat ((0 : Int), (0 : Int), (0 : Int), ([] : List Int), ()))).bind fun r2 => (if (!r2.1) = true then some (false, ()) else L1 (v1.1, v1.2.1, IntKind.i64.wrap (v1.2.2.1 + (1 : Int)), ()))) else none) else none) else some (true, ()))) n (a0, a1, (0 : Int), ())))
def ps_laws_eqMessageS : List PSh := [.val (.sl 80 (.st (.pair (.int .i64) (.pair (.int .i64) (.pair (.int .i64) (.pair (.sl 5 (.int .u8)) .unit)))))) [], .val (.sl 80 (.st (.pair (.int .i64) (.pair (.int .i64) (.pair (.int .i64) (.pair (.sl 5 (.int .u8)) .unit)))))) []]
def rs_laws_eqMessageS : List RSh := [.val .bool [] []]
def E_laws_eqMessageS : Entry := ⟨57, ps_laws_eqMessageS, rs_laws_eqMessageS, fun n (c : Cont (kin ps_laws_eqMessageS)) => F_laws_eqMessageS n c.1 c.2.1⟩
def H_laws_eqMessageS : Hint := ⟨0, [], [(0, [0, 1, 5], [])], [], [(73, some 25, E_laws_eqMessage)], [], []⟩
theorem D_laws_eqMessageS : ∀ n (c : Cont (kin ps_laws_eqMessageS)), denF T H_laws_eqMessageS Go.Proofs.Tryd.f57 ps_laws_eqMessageS rs_laws_eqMessageS n c = E_laws_eqMessageS.F n c := by intro n c; kernel_rfl
theorem K_laws_eqMessageS [Fr] [LaidLib.LaidTab Go.Proofs.Tryd.prog] (n : Nat) : EntryOk Go.Proofs.Tryd.prog n E_laws_eqMessageS := fn_entry mixed tabOk (E := E_laws_eqMessageS) Go.Proofs.Tryd.func57 (by kernel_rfl) (hi := H_laws_eqMessageS) (ca_cons (K_laws_eqMessage n) ca_nil) D_laws_eqMessageS
/-- loop.example/g00447/laws.eqBox -/
def F_laws_eqBox (n : Nat) (a0 : (List Int) × Int × Int × (List (Int × Int × Int × (List Int) × Unit)) × Unit) (a1 : (List Int) × Int × Int × (List (Int × Int × Int × (List Int) × Unit)) × Unit) : Option (Bool × Unit) := (if (!decide (a0.1 = a1.1)) = true then some (false, ()) else (if (!decide (a0.2.1 = a1.2.1)) = true then some (false, ()) else (if (!decide (a0.2.2.1 = a1.2.2.1)) = true then some (false, ()) else ((F_laws_eqMessageS n a0.2.2.2.1 a1.2.2.2.1).bind fun r1 => (if (!r1.1) = true then some (false, ()) else some (true, ()))))))
def ps_laws_eqBox : List PSh := [.val (.st (.pair .str (.pair (.int .i64) (.pair (.int .i64) (.pair (.sl 80 (.st (.pair (.int .i64) (.pair (.int .i64) (.pair (.int .i64) (.pair (.sl 5 (.int .u8)) .unit)))))) .unit))))) [], .val (.st (.pair .str (.pair (.int .i64) (.pair (.int .i64) (.pair (.sl 80 (.st (.pair (.int .i64) (.pair (.int .i64) (.pair (.int .i64) (.pair (.sl 5 (.int .u8)) .unit)))))) .unit))))) []]
def rs_laws_eqBox : List RSh := [.val .bool [] []]
def E_laws_eqBox : Entry := ⟨43, ps_laws_eqBox, rs_laws_eqBox, fun n (c : Cont (kin ps_laws_eqBox)) => F_laws_eqBox n c.1 c.2.1⟩
def H_laws_eqBox : Hint := ⟨0, [], [], [], [(57, some 24, E_laws_eqMessageS)], [], []⟩
theorem D_laws_eqBox : ∀ n (c : Cont (kin ps_laws_eqBox)), denF T H_laws_eqBox Go.Proofs.Tryd.f43 ps_laws_eqBox rs_laws_eqBox n c = E_laws_eqBox.F n c := by intro n c; kernel_rfl
theorem K_laws_eqBox [Fr] [LaidLib.LaidTab Go.Proofs.Tryd.prog] (n : Nat) : EntryOk Go.Proofs.Tryd.prog n E_laws_eqBox := fn_entry mixed tabOk (E := E_laws_eqBox) Go.Proofs.Tryd.func43 (by kernel_rfl) (hi := H_laws_eqBox) (ca_cons (K_laws_eqMessageS n) ca_nil) D_laws_eqBox
/-- loop.example/g00447/laws.eqBoxS -/
def F_laws_eqBoxS (n : Nat) (a0 : List ((List Int) × Int × Int × (List (Int × Int × Int × (List Int) × Unit)) × Unit)) (a1 : List ((List Int) × Int × Int × (List (Int × Int × Int × (List Int) × Unit)) × Unit)) : Option (Bool × Unit) := (if (!decide ((a0.length : Int) = (a1.length : Int))) = true then some (false, ()) else (rounds (fun L1 (v1 : (List ((List Int) × Int × Int × (List (Int × Int × Int × (List Int) × Unit)) × Unit)) × (List ((List Int) × Int × Int × (List (Int × Int × Int × (List Int) × Unit)) × Unit)) × Int × Unit) => (if decide (v1.2.2.1 < (v1.1.length : Int)) = true then (if inLen v1.2.2.1 v1.1.length then (if inLen v1.2.2.1 v1.2.1.length then ((F_laws_eqBox n (v1.1.getD v1.2.2.1.toNat (([] : List Int), (0 : Int), (0 : Int), ([] : List (Int × Int × Int × (List Int) × Unit)), ())) (v1.2.1.getD v1.2.2.1.toNat (([] : List Int), (0 : Int), (0 : Int), ([] : List (Int × Int × Int × (List Int) × Unit)), ()))).bind fun r2 => (if (!r2.1) = true then some (false, ()) else L1 (v1.1, v1.2.1, IntKind.i64.wrap (v1.2.2.1 + (1 : Int)), ()))) else none) else none) else some (true, ()))) n (a0, a1, (0 : Int), ())))
def ps_laws_eqBoxS : List PSh := [.val (.sl 74 (.st (.pair .str (.pair (.int .i64) (.pair (.int .i64) (.pair (.sl 80 (.st (.pair (.int .i64) (.pair (.int .i64) (.pair (.int .i64) (.pair (.sl 5 (.int .u8)) .unit)))))) .unit)))))) [], .val (.sl 74 (.st (.pair .str (.pair (.int .i64) (.pair (.int .i64) (.pair (.sl 80 (.st (.pair (.int .i64) (.pair (.int .i64) (.pair (.int .i64) (.pair (.sl 5 (.int .u8)) .unit)))))) .unit)))))) []]
def rs_laws_eqBoxS : List RSh := [.val .bool [] []]
def E_laws_eqBoxS : Entry := ⟨29, ps_laws_eqBoxS, rs_laws_eqBoxS, fun n (c : Cont (kin ps_laws_eqBoxS)) => F_laws_eqBoxS n c.1 c.2.1⟩
def H_laws_eqBoxS : Hint := ⟨0, [], [(0, [0, 1, 5], [])], [], [(43, some 25, E_laws_eqBox)], [], []⟩
theorem D_laws_eqBoxS : ∀ n (c : Cont (kin ps_laws_eqBoxS)), denF T H_laws_eqBoxS Go.Proofs.Tryd.f29 ps_laws_eqBoxS rs_laws_eqBoxS n c = E_laws_eqBoxS.F n c := by intro n c; kernel_rfl
theorem K_laws_eqBoxS [Fr] [LaidLib.LaidTab Go.Proofs.Tryd.prog] (n : Nat) : EntryOk Go.Proofs.Tryd.prog n E_laws_eqBoxS := fn_entry mixed tabOk (E := E_laws_eqBoxS) Go.Proofs.Tryd.func29 (by kernel_rfl) (hi := H_laws_eqBoxS) (ca_cons (K_laws_eqBox n) ca_nil) D_laws_eqBoxS
/-- loop.example/g00447/laws.eqStore -/
def F_laws_eqStore (n : Nat) (a0 : Int × (List ((List Int) × Int × Int × (List (Int × Int × Int × (List Int) × Unit)) × Unit)) × Unit) (a1 : Int × (List ((List Int) × Int × Int × (List (Int × Int × Int × (List Int) × Unit)) × Unit)) × Unit) : Option (Bool × Unit) := (if (!decide (a0.1 = a1.1)) = true then some (false, ()) else ((F_laws_eqBoxS n a0.2.1 a1.2.1).bind fun r1 => (if (!r1.1) = true then some (false, ()) else some (true, ()))))
def ps_laws_eqStore : List PSh := [.val (.st (.pair (.int .i64) (.pair (.sl 74 (.st (.pair .str (.pair (.int .i64) (.pair (.int .i64) (.pair (.sl 80 (.st (.pair (.int .i64) (.pair (.int .i64) (.pair (.int .i64) (.pair (.sl 5 (.int .u8)) .unit)))))) .unit)))))) .unit))) [], .val (.st (.pair (.int .i64) (.pair (.sl 74 (.st (.pair .str (.pair (.int .i64) (.pair (.int .i64) (.pair (.sl 80 (.st (.pair (.int .i64) (.pair (.int .i64) (.pair (.int .i64) (.pair (.sl 5 (.int .u8)) .unit)))))) .unit)))))) .unit))) []]
def rs_laws_eqStore : List RSh := [.val .bool [] []]
def E_laws_eqStore : Entry := ⟨16, ps_laws_eqStore, rs_laws_eqStore, fun n (c : Cont (kin ps_laws_eqStore)) => F_laws_eqStore n c.1 c.2.1⟩
def H_laws_eqStore : Hint := ⟨0, [], [], [], [(29, some 14, E_laws_eqBoxS)], [], []⟩
theorem D_laws_eqStore : ∀ n (c : Cont (kin ps_laws_eqStore)), denF T H_laws_eqStore Go.Proofs.Tryd.f16 ps_laws_eqStore rs_laws_eqStore n c = E_laws_eqStore.F n c := by intro n c; kernel_rfl
theorem K_laws_eqStore [Fr] [LaidLib.LaidTab Go.Proofs.Tryd.prog] (n : Nat) : EntryOk Go.Proofs.Tryd.prog n E_laws_eqStore := fn_entry mixed tabOk (E := E_laws_eqStore) Go.Proofs.Tryd.func16 (by kernel_rfl) (hi := H_laws_eqStore) (ca_cons (K_laws_eqBoxS n) ca_nil) D_laws_eqStore
/-- loop.example/g00447/laws.FnExactStoreText -/
def F_laws_FnExactStoreText (n : Nat) (a0 : Int × (List ((List Int) × Int × Int × (List (Int × Int × Int × (List Int) × Unit)) × Unit)) × Unit) : Option (Bool × Unit) := ((F_laws_szStore n a0 (1048576 : Int)).bind fun r1 => (if decide (r1.1 < (0 : Int)) = true then some (true, ()) else ((F_laws_toStore n a0).bind fun r2 => ((F_spec_StoreText n r2.1).bind fun r3 => ((F_laws_toStore n a0).bind fun r4 => ((F_impl_StoreText n r4.1).bind fun r5 => ((F_laws_eqTextResult n r5.1 r3.1).bind fun r6 => (if (!r6.1) = true then some (false, ()) else ((F_laws_toStore n a0).bind fun r7 => ((F_laws_eqStore n r4.1 r7.1).bind fun r8 => (if (!r8.1) = true then some (false, ()) else some (true, ()))))))))))))
def ps_laws_FnExactStoreText : List PSh := [.val (.st (.pair (.int .i64) (.pair (.sl 69 (.st (.pair .str (.pair (.int .i64) (.pair (.int .i64) (.pair (.sl 108 (.st (.pair (.int .i64) (.pair (.int .i64) (.pair (.int .i64) (.pair (.sl 5 (.int .u8)) .unit)))))) .unit)))))) .unit))) []]
def rs_laws_FnExactStoreText : List RSh := [.val .bool [] []]
def E_laws_FnExactStoreText : Entry := ⟨4, ps_laws_FnExactStoreText, rs_laws_FnExactStoreText, fun n (c : Cont (kin ps_laws_FnExactStoreText)) => F_laws_FnExactStoreText n c.1⟩
def H_laws_FnExactStoreText : Hint := ⟨0, [], [], [], [(11, some 9, E_laws_szStore), (13, some 13, E_laws_toStore), (12, some 14, E_spec_StoreText), (13, some 16, E_laws_toStore), (14, some 18, E_impl_StoreText), (15, some 21, E_laws_eqTextResult), (13, some 25, E_laws_toStore), (16, some 26, E_laws_eqStore)], [], []⟩
theorem D_laws_FnExactStoreText : ∀ n (c : Cont (kin ps_laws_FnExactStoreText)), denF T H_laws_FnExactStoreText Go.Proofs.Tryd.f4 ps_laws_FnExactStoreText rs_laws_FnExactStoreText n c = E_laws_FnExactStoreText.F n c := by intro n c; kernel_rfl
theorem K_laws_FnExactStoreText [Fr] [LaidLib.LaidTab Go.Proofs.Tryd.prog] (n : Nat) : EntryOk Go.Proofs.Tryd.prog n E_laws_FnExactStoreText := fn_entry mixed tabOk (E := E_laws_FnExactStoreText) Go.Proofs.Tryd.func4 (by kernel_rfl) (hi := H_laws_FnExactStoreText) (ca_cons (K_laws_szStore n) (ca_cons (K_laws_toStore n) (ca_cons (K_spec_StoreText n) (ca_cons (K_laws_toStore n) (ca_cons (K_impl_StoreText n) (ca_cons (K_laws_eqTextResult n) (ca_cons (K_laws_toStore n) (ca_cons (K_laws_eqStore n) ca_nil)))))))) D_laws_FnExactStoreText
end Go.Proofs.YtcelknaomealbaaDoor.TextF
