/-
  No cell of these rows narrows 'for every input' (looked for: loops, veiled, ifaces, maps, wideKeys, modest, calm, conditions, laid).
  DERIVED. THE GIVEN ROWS OF THIS SEAT. 5 by the template 'for every input the law returns true; each argument reads behind the call as it read before'; 0 by the template 'total and deterministic' (their statements: YtailcbngagacaaaGreatTotals.lean).
  GIVEN WITH THE SEED: the statements are not yours to turn. If you find one false, say at which input.
  Laid BY PROGRAM, IN A SANDBOX (cutbox-rows.mjs): the forced cells as the released guide's own fill.sh prints them over the translation 188cd71979daa50d… (all of the seat's roots in one cut). By AI agents, Wed Nov 11 2026. No macro, syntax, notation, axiom, sorry.
-/
import Derived.Test.YtailcbngagacaaaGreatChecked
import GoSem.Claim
import GoSem.ClaimJoined
import GoSem.ClaimMapViews
import Derived.JoinedTies
import Derived.KernelRfl
namespace Go.Proofs.YtailcbngagacaaaGreat
/- THE CELL 'sum', in the pinned program and in every row, IS THE sha256 OF THE DUMP (.gsa) THAT YtailcbngagacaaaGreatProg.lean LOADS. Nothing in Lean hashes anything: it is a label: what it is worth is what the hold of that sum in a sandbox is worth. -/
noncomputable def Tryz.pinned : Pinned := { name := "ytailcbngagacaaagreat", sum := "188cd71979daa50dde8647767fccb7f50a39e59a35ad2ea899cfbdc244a0ed37", checked := Tryz.checked }
namespace Rows
def none {H : Type} : Left H := { results := [], args := [] }

/-- 'laws.FnExactVaultFault': WHATEVER THE INPUT: true; the input reads as it did. -/
def fnExactVaultFaultSpec : ChangeSpec := { name := "fnExactVaultFault", fn := fun _ => fun
  | [d] => { results := [.lit (.bool true)], args := [d] }
  | _ => none }
def fnExactVaultFaultRow : OpenClaim := { program := "ytailcbngagacaaagreat", sum := "188cd71979daa50dde8647767fccb7f50a39e59a35ad2ea899cfbdc244a0ed37", func := "loop.example/g00447/laws.FnExactVaultFault", spec := "fnExactVaultFault", unfollowed := true, recurses := true, apart := false }
def FnExactVaultFaultSaid : Prop := fnExactVaultFaultRow.holds Tryz.pinned (OpenSpec.ofChange fnExactVaultFaultSpec)

/-- ITS FALSE NEIGHBOUR: 'it returns false'. Refute it at one input. -/
def fnExactVaultFaultWrong : ChangeSpec := { name := "fnExactVaultFault", fn := fun _ => fun
  | [d] => { results := [.lit (.bool false)], args := [d] }
  | _ => none }
def FnExactVaultFaultWrongFalsely : Prop := fnExactVaultFaultRow.holds Tryz.pinned (OpenSpec.ofChange fnExactVaultFaultWrong)

/-- 'laws.FnExactWorldFault': WHATEVER THE INPUT: true; the input reads as it did. -/
def fnExactWorldFaultSpec : ChangeSpec := { name := "fnExactWorldFault", fn := fun _ => fun
  | [d] => { results := [.lit (.bool true)], args := [d] }
  | _ => none }
def fnExactWorldFaultRow : OpenClaim := { program := "ytailcbngagacaaagreat", sum := "188cd71979daa50dde8647767fccb7f50a39e59a35ad2ea899cfbdc244a0ed37", func := "loop.example/g00447/laws.FnExactWorldFault", spec := "fnExactWorldFault", unfollowed := true, recurses := true, apart := false }
def FnExactWorldFaultSaid : Prop := fnExactWorldFaultRow.holds Tryz.pinned (OpenSpec.ofChange fnExactWorldFaultSpec)

/-- ITS FALSE NEIGHBOUR: 'it returns false'. Refute it at one input. -/
def fnExactWorldFaultWrong : ChangeSpec := { name := "fnExactWorldFault", fn := fun _ => fun
  | [d] => { results := [.lit (.bool false)], args := [d] }
  | _ => none }
def FnExactWorldFaultWrongFalsely : Prop := fnExactWorldFaultRow.holds Tryz.pinned (OpenSpec.ofChange fnExactWorldFaultWrong)

/-- 'laws.FnExactRecoverVault': WHATEVER THE INPUT: true; the input reads as it did. -/
def fnExactRecoverVaultSpec : ChangeSpec := { name := "fnExactRecoverVault", fn := fun _ => fun
  | [d] => { results := [.lit (.bool true)], args := [d] }
  | _ => none }
def fnExactRecoverVaultRow : OpenClaim := { program := "ytailcbngagacaaagreat", sum := "188cd71979daa50dde8647767fccb7f50a39e59a35ad2ea899cfbdc244a0ed37", func := "loop.example/g00447/laws.FnExactRecoverVault", spec := "fnExactRecoverVault", unfollowed := true, recurses := true, apart := false }
def FnExactRecoverVaultSaid : Prop := fnExactRecoverVaultRow.holds Tryz.pinned (OpenSpec.ofChange fnExactRecoverVaultSpec)

/-- ITS FALSE NEIGHBOUR: 'it returns false'. Refute it at one input. -/
def fnExactRecoverVaultWrong : ChangeSpec := { name := "fnExactRecoverVault", fn := fun _ => fun
  | [d] => { results := [.lit (.bool false)], args := [d] }
  | _ => none }
def FnExactRecoverVaultWrongFalsely : Prop := fnExactRecoverVaultRow.holds Tryz.pinned (OpenSpec.ofChange fnExactRecoverVaultWrong)

/-- 'laws.FnCrashes': WHATEVER THE INPUT: true; the input reads as it did. -/
def fnCrashesSpec : ChangeSpec := { name := "fnCrashes", fn := fun _ => fun
  | [d] => { results := [.lit (.bool true)], args := [d] }
  | _ => none }
def fnCrashesRow : OpenClaim := { program := "ytailcbngagacaaagreat", sum := "188cd71979daa50dde8647767fccb7f50a39e59a35ad2ea899cfbdc244a0ed37", func := "loop.example/g00447/laws.FnCrashes", spec := "fnCrashes", unfollowed := true, recurses := true, apart := false }
def FnCrashesSaid : Prop := fnCrashesRow.holds Tryz.pinned (OpenSpec.ofChange fnCrashesSpec)

/-- ITS FALSE NEIGHBOUR: 'it returns false'. Refute it at one input. -/
def fnCrashesWrong : ChangeSpec := { name := "fnCrashes", fn := fun _ => fun
  | [d] => { results := [.lit (.bool false)], args := [d] }
  | _ => none }
def FnCrashesWrongFalsely : Prop := fnCrashesRow.holds Tryz.pinned (OpenSpec.ofChange fnCrashesWrong)

/-- 'laws.FnTidies': WHATEVER THE INPUT: true; the input reads as it did. -/
def fnTidiesSpec : ChangeSpec := { name := "fnTidies", fn := fun _ => fun
  | [d] => { results := [.lit (.bool true)], args := [d] }
  | _ => none }
def fnTidiesRow : OpenClaim := { program := "ytailcbngagacaaagreat", sum := "188cd71979daa50dde8647767fccb7f50a39e59a35ad2ea899cfbdc244a0ed37", func := "loop.example/g00447/laws.FnTidies", spec := "fnTidies", unfollowed := true, recurses := true, apart := false }
def FnTidiesSaid : Prop := fnTidiesRow.holds Tryz.pinned (OpenSpec.ofChange fnTidiesSpec)

/-- ITS FALSE NEIGHBOUR: 'it returns false'. Refute it at one input. -/
def fnTidiesWrong : ChangeSpec := { name := "fnTidies", fn := fun _ => fun
  | [d] => { results := [.lit (.bool false)], args := [d] }
  | _ => none }
def FnTidiesWrongFalsely : Prop := fnTidiesRow.holds Tryz.pinned (OpenSpec.ofChange fnTidiesWrong)

/- THE SECOND FORM. 'bulk': how many values and letters a reading holds, each counted each time it is reached (what is shared counts as often as it is met; a slice's spare places count too). A statement '..UptoSaid' is the law's where the arguments, and the package variables that the reading takes, are together of bulk at most 1048576: NARROWER than '..Said'. Prove '..Said' where nothing that the law and all that it calls make is longer than what came in: it says more and counts as full. Else prove '..UptoSaid'. A law counts once. -/
mutual
def uptoBulk {H : Type} : DataW H → Nat
  | .lit (.string bytes) => bytes.length + 1
  | .lit _ => 1
  | .nil => 1
  | .ptr d => uptoBulk d + 1
  | .slice elems spare => uptoBulkAll elems + uptoBulkAll spare + 1
  | .agg parts => uptoBulkAll parts + 1
  | .iface _ d => uptoBulk d + 1
  | .map entries => uptoBulkEntries entries + 1
  | .held _ => 1
def uptoBulkAll {H : Type} : List (DataW H) → Nat
  | [] => 0
  | d :: r => uptoBulk d + uptoBulkAll r
def uptoBulkEntries {H : Type} : List (Lit × DataW H) → Nat
  | [] => 0
  | x :: r => uptoBulkEntry x + uptoBulkEntries r
def uptoBulkEntry {H : Type} : Lit × DataW H → Nat
  | (.string bytes, d) => bytes.length + uptoBulk d + 1
  | (_, d) => uptoBulk d + 1
 end
def uptoSmall : (H : Type) → List (DataW H) → Bool := fun _ ds => decide (uptoBulkAll ds ≤ 1048576)
def OpenSpec.upto (s : _root_.Go.ChangeSpec) : _root_.Go.OpenSpec := { _root_.Go.OpenSpec.ofChange s with cond := some uptoSmall }

/-- 'laws.FnExactVaultFault', WHERE WHAT IT READS IS OF BULK AT MOST 1048576: true; the input reads as it did. -/
def fnExactVaultFaultUptoRow : OpenClaim := { program := "ytailcbngagacaaagreat", sum := "188cd71979daa50dde8647767fccb7f50a39e59a35ad2ea899cfbdc244a0ed37", func := "loop.example/g00447/laws.FnExactVaultFault", spec := "fnExactVaultFault", unfollowed := true, recurses := true, apart := false, narrowed := true }
def FnExactVaultFaultUptoSaid : Prop := fnExactVaultFaultUptoRow.holds Tryz.pinned (OpenSpec.upto fnExactVaultFaultSpec)

/-- 'laws.FnExactWorldFault', WHERE WHAT IT READS IS OF BULK AT MOST 1048576: true; the input reads as it did. -/
def fnExactWorldFaultUptoRow : OpenClaim := { program := "ytailcbngagacaaagreat", sum := "188cd71979daa50dde8647767fccb7f50a39e59a35ad2ea899cfbdc244a0ed37", func := "loop.example/g00447/laws.FnExactWorldFault", spec := "fnExactWorldFault", unfollowed := true, recurses := true, apart := false, narrowed := true }
def FnExactWorldFaultUptoSaid : Prop := fnExactWorldFaultUptoRow.holds Tryz.pinned (OpenSpec.upto fnExactWorldFaultSpec)

/-- 'laws.FnExactRecoverVault', WHERE WHAT IT READS IS OF BULK AT MOST 1048576: true; the input reads as it did. -/
def fnExactRecoverVaultUptoRow : OpenClaim := { program := "ytailcbngagacaaagreat", sum := "188cd71979daa50dde8647767fccb7f50a39e59a35ad2ea899cfbdc244a0ed37", func := "loop.example/g00447/laws.FnExactRecoverVault", spec := "fnExactRecoverVault", unfollowed := true, recurses := true, apart := false, narrowed := true }
def FnExactRecoverVaultUptoSaid : Prop := fnExactRecoverVaultUptoRow.holds Tryz.pinned (OpenSpec.upto fnExactRecoverVaultSpec)

/-- 'laws.FnCrashes', WHERE WHAT IT READS IS OF BULK AT MOST 1048576: true; the input reads as it did. -/
def fnCrashesUptoRow : OpenClaim := { program := "ytailcbngagacaaagreat", sum := "188cd71979daa50dde8647767fccb7f50a39e59a35ad2ea899cfbdc244a0ed37", func := "loop.example/g00447/laws.FnCrashes", spec := "fnCrashes", unfollowed := true, recurses := true, apart := false, narrowed := true }
def FnCrashesUptoSaid : Prop := fnCrashesUptoRow.holds Tryz.pinned (OpenSpec.upto fnCrashesSpec)

/-- 'laws.FnTidies', WHERE WHAT IT READS IS OF BULK AT MOST 1048576: true; the input reads as it did. -/
def fnTidiesUptoRow : OpenClaim := { program := "ytailcbngagacaaagreat", sum := "188cd71979daa50dde8647767fccb7f50a39e59a35ad2ea899cfbdc244a0ed37", func := "loop.example/g00447/laws.FnTidies", spec := "fnTidies", unfollowed := true, recurses := true, apart := false, narrowed := true }
def FnTidiesUptoSaid : Prop := fnTidiesUptoRow.holds Tryz.pinned (OpenSpec.upto fnTidiesSpec)

end Rows
end Go.Proofs.YtailcbngagacaaaGreat
