/-
  No cell of these rows narrows 'for every input' (looked for: loops, veiled, ifaces, maps, wideKeys, modest, calm, conditions, laid).
  DERIVED. THE GIVEN ROWS OF THIS SEAT. 6 by the template 'for every input the law returns true; each argument reads behind the call as it read before'; 0 by the template 'total and deterministic' (their statements: YtailcbngagacaabGreatTotals.lean).
  GIVEN WITH THE SEED: the statements are not yours to turn. If you find one false, say at which input.
  Laid BY PROGRAM, IN A SANDBOX (cutbox-rows.mjs): the forced cells as the released guide's own fill.sh prints them over the translation c5977f6ac4da5015… (all of the seat's roots in one cut). By AI agents, Wed Nov 11 2026. No macro, syntax, notation, axiom, sorry.
-/
import Derived.Test.YtailcbngagacaabGreatChecked
import GoSem.Claim
import GoSem.ClaimJoined
import GoSem.ClaimMapViews
import Derived.JoinedTies
import Derived.KernelRfl
namespace Go.Proofs.YtailcbngagacaabGreat
/- THE CELL 'sum', in the pinned program and in every row, IS THE sha256 OF THE DUMP (.gsa) THAT YtailcbngagacaabGreatProg.lean LOADS. Nothing in Lean hashes anything: it is a label: what it is worth is what the hold of that sum in a sandbox is worth. -/
noncomputable def Tryz.pinned : Pinned := { name := "ytailcbngagacaabgreat", sum := "c5977f6ac4da501558fb33d8f7defdee878cbe99e1c610a7ac12560d6fa011f1", checked := Tryz.checked }
namespace Rows
def none {H : Type} : Left H := { results := [], args := [] }

/-- 'laws.FnExactCrashVault': WHATEVER THE INPUT: true; the input reads as it did. -/
def fnExactCrashVaultSpec : ChangeSpec := { name := "fnExactCrashVault", fn := fun _ => fun
  | [d1, d2] => { results := [.lit (.bool true)], args := [d1, d2] }
  | _ => none }
def fnExactCrashVaultRow : OpenClaim := { program := "ytailcbngagacaabgreat", sum := "c5977f6ac4da501558fb33d8f7defdee878cbe99e1c610a7ac12560d6fa011f1", func := "loop.example/g00447/laws.FnExactCrashVault", spec := "fnExactCrashVault", unfollowed := true, recurses := true, apart := false }
def FnExactCrashVaultSaid : Prop := fnExactCrashVaultRow.holds Tryz.pinned (OpenSpec.ofChange fnExactCrashVaultSpec)

/-- ITS FALSE NEIGHBOUR: 'it returns false'. Refute it at one input. -/
def fnExactCrashVaultWrong : ChangeSpec := { name := "fnExactCrashVault", fn := fun _ => fun
  | [d1, d2] => { results := [.lit (.bool false)], args := [d1, d2] }
  | _ => none }
def FnExactCrashVaultWrongFalsely : Prop := fnExactCrashVaultRow.holds Tryz.pinned (OpenSpec.ofChange fnExactCrashVaultWrong)

/-- 'laws.FnExactTidyVault': WHATEVER THE INPUT: true; the input reads as it did. -/
def fnExactTidyVaultSpec : ChangeSpec := { name := "fnExactTidyVault", fn := fun _ => fun
  | [d] => { results := [.lit (.bool true)], args := [d] }
  | _ => none }
def fnExactTidyVaultRow : OpenClaim := { program := "ytailcbngagacaabgreat", sum := "c5977f6ac4da501558fb33d8f7defdee878cbe99e1c610a7ac12560d6fa011f1", func := "loop.example/g00447/laws.FnExactTidyVault", spec := "fnExactTidyVault", unfollowed := true, recurses := true, apart := false }
def FnExactTidyVaultSaid : Prop := fnExactTidyVaultRow.holds Tryz.pinned (OpenSpec.ofChange fnExactTidyVaultSpec)

/-- ITS FALSE NEIGHBOUR: 'it returns false'. Refute it at one input. -/
def fnExactTidyVaultWrong : ChangeSpec := { name := "fnExactTidyVault", fn := fun _ => fun
  | [d] => { results := [.lit (.bool false)], args := [d] }
  | _ => none }
def FnExactTidyVaultWrongFalsely : Prop := fnExactTidyVaultRow.holds Tryz.pinned (OpenSpec.ofChange fnExactTidyVaultWrong)

/-- 'laws.FnExactFlushVault': WHATEVER THE INPUT: true; the input reads as it did. -/
def fnExactFlushVaultSpec : ChangeSpec := { name := "fnExactFlushVault", fn := fun _ => fun
  | [d] => { results := [.lit (.bool true)], args := [d] }
  | _ => none }
def fnExactFlushVaultRow : OpenClaim := { program := "ytailcbngagacaabgreat", sum := "c5977f6ac4da501558fb33d8f7defdee878cbe99e1c610a7ac12560d6fa011f1", func := "loop.example/g00447/laws.FnExactFlushVault", spec := "fnExactFlushVault", unfollowed := true, recurses := true, apart := false }
def FnExactFlushVaultSaid : Prop := fnExactFlushVaultRow.holds Tryz.pinned (OpenSpec.ofChange fnExactFlushVaultSpec)

/-- ITS FALSE NEIGHBOUR: 'it returns false'. Refute it at one input. -/
def fnExactFlushVaultWrong : ChangeSpec := { name := "fnExactFlushVault", fn := fun _ => fun
  | [d] => { results := [.lit (.bool false)], args := [d] }
  | _ => none }
def FnExactFlushVaultWrongFalsely : Prop := fnExactFlushVaultRow.holds Tryz.pinned (OpenSpec.ofChange fnExactFlushVaultWrong)

/-- 'laws.FnVaults': WHATEVER THE INPUT: true; the input reads as it did. -/
def fnVaultsSpec : ChangeSpec := { name := "fnVaults", fn := fun _ => fun
  | [d] => { results := [.lit (.bool true)], args := [d] }
  | _ => none }
def fnVaultsRow : OpenClaim := { program := "ytailcbngagacaabgreat", sum := "c5977f6ac4da501558fb33d8f7defdee878cbe99e1c610a7ac12560d6fa011f1", func := "loop.example/g00447/laws.FnVaults", spec := "fnVaults", unfollowed := true, recurses := true, apart := false }
def FnVaultsSaid : Prop := fnVaultsRow.holds Tryz.pinned (OpenSpec.ofChange fnVaultsSpec)

/-- ITS FALSE NEIGHBOUR: 'it returns false'. Refute it at one input. -/
def fnVaultsWrong : ChangeSpec := { name := "fnVaults", fn := fun _ => fun
  | [d] => { results := [.lit (.bool false)], args := [d] }
  | _ => none }
def FnVaultsWrongFalsely : Prop := fnVaultsRow.holds Tryz.pinned (OpenSpec.ofChange fnVaultsWrong)

/-- 'laws.FnExactWriteVault': WHATEVER THE INPUT: true; the input reads as it did. -/
def fnExactWriteVaultSpec : ChangeSpec := { name := "fnExactWriteVault", fn := fun _ => fun
  | [d1, d2] => { results := [.lit (.bool true)], args := [d1, d2] }
  | _ => none }
def fnExactWriteVaultRow : OpenClaim := { program := "ytailcbngagacaabgreat", sum := "c5977f6ac4da501558fb33d8f7defdee878cbe99e1c610a7ac12560d6fa011f1", func := "loop.example/g00447/laws.FnExactWriteVault", spec := "fnExactWriteVault", unfollowed := true, recurses := true, apart := false }
def FnExactWriteVaultSaid : Prop := fnExactWriteVaultRow.holds Tryz.pinned (OpenSpec.ofChange fnExactWriteVaultSpec)

/-- ITS FALSE NEIGHBOUR: 'it returns false'. Refute it at one input. -/
def fnExactWriteVaultWrong : ChangeSpec := { name := "fnExactWriteVault", fn := fun _ => fun
  | [d1, d2] => { results := [.lit (.bool false)], args := [d1, d2] }
  | _ => none }
def FnExactWriteVaultWrongFalsely : Prop := fnExactWriteVaultRow.holds Tryz.pinned (OpenSpec.ofChange fnExactWriteVaultWrong)

/-- 'laws.FnExactDoVault': WHATEVER THE INPUT: true; the input reads as it did. -/
def fnExactDoVaultSpec : ChangeSpec := { name := "fnExactDoVault", fn := fun _ => fun
  | [d1, d2] => { results := [.lit (.bool true)], args := [d1, d2] }
  | _ => none }
def fnExactDoVaultRow : OpenClaim := { program := "ytailcbngagacaabgreat", sum := "c5977f6ac4da501558fb33d8f7defdee878cbe99e1c610a7ac12560d6fa011f1", func := "loop.example/g00447/laws.FnExactDoVault", spec := "fnExactDoVault", unfollowed := true, recurses := true, apart := false }
def FnExactDoVaultSaid : Prop := fnExactDoVaultRow.holds Tryz.pinned (OpenSpec.ofChange fnExactDoVaultSpec)

/-- ITS FALSE NEIGHBOUR: 'it returns false'. Refute it at one input. -/
def fnExactDoVaultWrong : ChangeSpec := { name := "fnExactDoVault", fn := fun _ => fun
  | [d1, d2] => { results := [.lit (.bool false)], args := [d1, d2] }
  | _ => none }
def FnExactDoVaultWrongFalsely : Prop := fnExactDoVaultRow.holds Tryz.pinned (OpenSpec.ofChange fnExactDoVaultWrong)

/- THE SECOND FORM. 'bulk': how many values and letters a reading holds, each counted each time it is reached (what is shared counts as often as it is met; a slice's spare places count too). A statement '..UptoSaid' is the law's where the arguments, and the package variables that the reading takes, are together of bulk at most 1048576: NARROWER than '..Said'. Prove '..Said' where nothing that the law and all that it calls make is longer than what came in: it says more and counts as full. Else prove '..UptoSaid'. A law counts once. -/
mutual
def uptoBulk {H : Type} : DataW H → Nat
  | .lit (.string bytes) => bytes.length + 1
  | .lit _ => 1
  | .nil => 1
  | .ptr d => uptoBulk d + 1
  | .slice elems spare => uptoBulkAll elems + uptoBulkAll spare + 1
  | .agg parts => uptoBulkAll parts + 1
  | .iface _ d => uptoBulk d + 1
  | .map entries => uptoBulkEntries entries + 1
  | .held _ => 1
def uptoBulkAll {H : Type} : List (DataW H) → Nat
  | [] => 0
  | d :: r => uptoBulk d + uptoBulkAll r
def uptoBulkEntries {H : Type} : List (Lit × DataW H) → Nat
  | [] => 0
  | x :: r => uptoBulkEntry x + uptoBulkEntries r
def uptoBulkEntry {H : Type} : Lit × DataW H → Nat
  | (.string bytes, d) => bytes.length + uptoBulk d + 1
  | (_, d) => uptoBulk d + 1
 end
def uptoSmall : (H : Type) → List (DataW H) → Bool := fun _ ds => decide (uptoBulkAll ds ≤ 1048576)
def OpenSpec.upto (s : _root_.Go.ChangeSpec) : _root_.Go.OpenSpec := { _root_.Go.OpenSpec.ofChange s with cond := some uptoSmall }

/-- 'laws.FnExactCrashVault', WHERE WHAT IT READS IS OF BULK AT MOST 1048576: true; the input reads as it did. -/
def fnExactCrashVaultUptoRow : OpenClaim := { program := "ytailcbngagacaabgreat", sum := "c5977f6ac4da501558fb33d8f7defdee878cbe99e1c610a7ac12560d6fa011f1", func := "loop.example/g00447/laws.FnExactCrashVault", spec := "fnExactCrashVault", unfollowed := true, recurses := true, apart := false, narrowed := true }
def FnExactCrashVaultUptoSaid : Prop := fnExactCrashVaultUptoRow.holds Tryz.pinned (OpenSpec.upto fnExactCrashVaultSpec)

/-- 'laws.FnExactTidyVault', WHERE WHAT IT READS IS OF BULK AT MOST 1048576: true; the input reads as it did. -/
def fnExactTidyVaultUptoRow : OpenClaim := { program := "ytailcbngagacaabgreat", sum := "c5977f6ac4da501558fb33d8f7defdee878cbe99e1c610a7ac12560d6fa011f1", func := "loop.example/g00447/laws.FnExactTidyVault", spec := "fnExactTidyVault", unfollowed := true, recurses := true, apart := false, narrowed := true }
def FnExactTidyVaultUptoSaid : Prop := fnExactTidyVaultUptoRow.holds Tryz.pinned (OpenSpec.upto fnExactTidyVaultSpec)

/-- 'laws.FnExactFlushVault', WHERE WHAT IT READS IS OF BULK AT MOST 1048576: true; the input reads as it did. -/
def fnExactFlushVaultUptoRow : OpenClaim := { program := "ytailcbngagacaabgreat", sum := "c5977f6ac4da501558fb33d8f7defdee878cbe99e1c610a7ac12560d6fa011f1", func := "loop.example/g00447/laws.FnExactFlushVault", spec := "fnExactFlushVault", unfollowed := true, recurses := true, apart := false, narrowed := true }
def FnExactFlushVaultUptoSaid : Prop := fnExactFlushVaultUptoRow.holds Tryz.pinned (OpenSpec.upto fnExactFlushVaultSpec)

/-- 'laws.FnVaults', WHERE WHAT IT READS IS OF BULK AT MOST 1048576: true; the input reads as it did. -/
def fnVaultsUptoRow : OpenClaim := { program := "ytailcbngagacaabgreat", sum := "c5977f6ac4da501558fb33d8f7defdee878cbe99e1c610a7ac12560d6fa011f1", func := "loop.example/g00447/laws.FnVaults", spec := "fnVaults", unfollowed := true, recurses := true, apart := false, narrowed := true }
def FnVaultsUptoSaid : Prop := fnVaultsUptoRow.holds Tryz.pinned (OpenSpec.upto fnVaultsSpec)

/-- 'laws.FnExactWriteVault', WHERE WHAT IT READS IS OF BULK AT MOST 1048576: true; the input reads as it did. -/
def fnExactWriteVaultUptoRow : OpenClaim := { program := "ytailcbngagacaabgreat", sum := "c5977f6ac4da501558fb33d8f7defdee878cbe99e1c610a7ac12560d6fa011f1", func := "loop.example/g00447/laws.FnExactWriteVault", spec := "fnExactWriteVault", unfollowed := true, recurses := true, apart := false, narrowed := true }
def FnExactWriteVaultUptoSaid : Prop := fnExactWriteVaultUptoRow.holds Tryz.pinned (OpenSpec.upto fnExactWriteVaultSpec)

/-- 'laws.FnExactDoVault', WHERE WHAT IT READS IS OF BULK AT MOST 1048576: true; the input reads as it did. -/
def fnExactDoVaultUptoRow : OpenClaim := { program := "ytailcbngagacaabgreat", sum := "c5977f6ac4da501558fb33d8f7defdee878cbe99e1c610a7ac12560d6fa011f1", func := "loop.example/g00447/laws.FnExactDoVault", spec := "fnExactDoVault", unfollowed := true, recurses := true, apart := false, narrowed := true }
def FnExactDoVaultUptoSaid : Prop := fnExactDoVaultUptoRow.holds Tryz.pinned (OpenSpec.upto fnExactDoVaultSpec)

end Rows
end Go.Proofs.YtailcbngagacaabGreat
