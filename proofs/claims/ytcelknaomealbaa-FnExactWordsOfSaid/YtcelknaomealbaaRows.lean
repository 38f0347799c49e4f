/-
  No cell of these rows narrows 'for every input' (looked for: loops, veiled, ifaces, maps, wideKeys, modest, calm, conditions, laid).
  DERIVED. THE GIVEN ROWS OF THIS SEAT. 4 by the template 'for every input the law returns true; each argument reads behind the call as it read before'; 0 by the template 'total and deterministic' (their statements: YtcelknaomealbaaTotals.lean).
  GIVEN WITH THE SEED: the statements are not yours to turn. If you find one false, say at which input.
  Laid BY PROGRAM, IN A SANDBOX (cutbox-rows.mjs): the forced cells as the released guide's own fill.sh prints them over the translation 9cd91e453bcd59ed… (all of the seat's roots in one cut). By AI agents, Wed Nov 11 2026. No macro, syntax, notation, axiom, sorry.
-/
import Derived.Test.YtcelknaomealbaaChecked
import GoSem.Claim
import GoSem.ClaimJoined
import GoSem.ClaimMapViews
import Derived.JoinedTies
import Derived.KernelRfl
namespace Go.Proofs.Ytcelknaomealbaa
/- THE CELL 'sum', in the pinned program and in every row, IS THE sha256 OF THE DUMP (.gsa) THAT YtcelknaomealbaaProg.lean LOADS. Nothing in Lean hashes anything: it is a label: what it is worth is what the hold of that sum in a sandbox is worth. -/
noncomputable def Try.pinned : Pinned := { name := "ytcelknaomealbaa", sum := "9cd91e453bcd59edc9b62d01e6138495f70ee92c0db5965b1e7af1fc91711c18", checked := Try.checked }
namespace Rows
def none {H : Type} : Left H := { results := [], args := [] }

/-- 'laws.FnExactWordsOf': WHATEVER THE INPUT: true; the input reads as it did. -/
def fnExactWordsOfSpec : ChangeSpec := { name := "fnExactWordsOf", fn := fun _ => fun
  | [d] => { results := [.lit (.bool true)], args := [d] }
  | _ => none }
def fnExactWordsOfRow : OpenClaim := { program := "ytcelknaomealbaa", sum := "9cd91e453bcd59edc9b62d01e6138495f70ee92c0db5965b1e7af1fc91711c18", func := "loop.example/g00447/laws.FnExactWordsOf", spec := "fnExactWordsOf", unfollowed := true, recurses := true, apart := false }
def FnExactWordsOfSaid : Prop := fnExactWordsOfRow.holds Try.pinned (OpenSpec.ofChange fnExactWordsOfSpec)

/-- ITS FALSE NEIGHBOUR: 'it returns false'. Refute it at one input. -/
def fnExactWordsOfWrong : ChangeSpec := { name := "fnExactWordsOf", fn := fun _ => fun
  | [d] => { results := [.lit (.bool false)], args := [d] }
  | _ => none }
def FnExactWordsOfWrongFalsely : Prop := fnExactWordsOfRow.holds Try.pinned (OpenSpec.ofChange fnExactWordsOfWrong)

/-- 'laws.FnExactBoxOf': WHATEVER THE INPUT: true; the input reads as it did. -/
def fnExactBoxOfSpec : ChangeSpec := { name := "fnExactBoxOf", fn := fun _ => fun
  | [d1, d2] => { results := [.lit (.bool true)], args := [d1, d2] }
  | _ => none }
def fnExactBoxOfRow : OpenClaim := { program := "ytcelknaomealbaa", sum := "9cd91e453bcd59edc9b62d01e6138495f70ee92c0db5965b1e7af1fc91711c18", func := "loop.example/g00447/laws.FnExactBoxOf", spec := "fnExactBoxOf", unfollowed := true, recurses := true, apart := false }
def FnExactBoxOfSaid : Prop := fnExactBoxOfRow.holds Try.pinned (OpenSpec.ofChange fnExactBoxOfSpec)

/-- ITS FALSE NEIGHBOUR: 'it returns false'. Refute it at one input. -/
def fnExactBoxOfWrong : ChangeSpec := { name := "fnExactBoxOf", fn := fun _ => fun
  | [d1, d2] => { results := [.lit (.bool false)], args := [d1, d2] }
  | _ => none }
def FnExactBoxOfWrongFalsely : Prop := fnExactBoxOfRow.holds Try.pinned (OpenSpec.ofChange fnExactBoxOfWrong)

/-- 'laws.FnExactNewWorld': WHATEVER THE INPUT: true; the input reads as it did. -/
def fnExactNewWorldSpec : ChangeSpec := { name := "fnExactNewWorld", fn := fun _ => fun
  | [d] => { results := [.lit (.bool true)], args := [d] }
  | _ => none }
def fnExactNewWorldRow : OpenClaim := { program := "ytcelknaomealbaa", sum := "9cd91e453bcd59edc9b62d01e6138495f70ee92c0db5965b1e7af1fc91711c18", func := "loop.example/g00447/laws.FnExactNewWorld", spec := "fnExactNewWorld", apart := false }
def FnExactNewWorldSaid : Prop := fnExactNewWorldRow.holds Try.pinned (OpenSpec.ofChange fnExactNewWorldSpec)

/-- ITS FALSE NEIGHBOUR: 'it returns false'. Refute it at one input. -/
def fnExactNewWorldWrong : ChangeSpec := { name := "fnExactNewWorld", fn := fun _ => fun
  | [d] => { results := [.lit (.bool false)], args := [d] }
  | _ => none }
def FnExactNewWorldWrongFalsely : Prop := fnExactNewWorldRow.holds Try.pinned (OpenSpec.ofChange fnExactNewWorldWrong)

/-- 'laws.FnFlags': WHATEVER THE INPUT: true; the input reads as it did. -/
def fnFlagsSpec : ChangeSpec := { name := "fnFlags", fn := fun _ => fun
  | [d] => { results := [.lit (.bool true)], args := [d] }
  | _ => none }
def fnFlagsRow : OpenClaim := { program := "ytcelknaomealbaa", sum := "9cd91e453bcd59edc9b62d01e6138495f70ee92c0db5965b1e7af1fc91711c18", func := "loop.example/g00447/laws.FnFlags", spec := "fnFlags", inPlace := ["internal/abi.NoEscape", "internal/bytealg.MakeNoZero"], unfollowed := true, recurses := true, apart := false }
def FnFlagsSaid : Prop := fnFlagsRow.holds Try.pinned (OpenSpec.ofChange fnFlagsSpec)

/-- ITS FALSE NEIGHBOUR: 'it returns false'. Refute it at one input. -/
def fnFlagsWrong : ChangeSpec := { name := "fnFlags", fn := fun _ => fun
  | [d] => { results := [.lit (.bool false)], args := [d] }
  | _ => none }
def FnFlagsWrongFalsely : Prop := fnFlagsRow.holds Try.pinned (OpenSpec.ofChange fnFlagsWrong)

/- THE SECOND FORM. 'bulk': how many values and letters a reading holds, each counted each time it is reached (what is shared counts as often as it is met; a slice's spare places count too). A statement '..UptoSaid' is the law's where the arguments, and the package variables that the reading takes, are together of bulk at most 1048576: NARROWER than '..Said'. Prove '..Said' where nothing that the law and all that it calls make is longer than what came in: it says more and counts as full. Else prove '..UptoSaid'. A law counts once. -/
mutual
def uptoBulk {H : Type} : DataW H → Nat
  | .lit (.string bytes) => bytes.length + 1
  | .lit _ => 1
  | .nil => 1
  | .ptr d => uptoBulk d + 1
  | .slice elems spare => uptoBulkAll elems + uptoBulkAll spare + 1
  | .agg parts => uptoBulkAll parts + 1
  | .iface _ d => uptoBulk d + 1
  | .map entries => uptoBulkEntries entries + 1
  | .held _ => 1
def uptoBulkAll {H : Type} : List (DataW H) → Nat
  | [] => 0
  | d :: r => uptoBulk d + uptoBulkAll r
def uptoBulkEntries {H : Type} : List (Lit × DataW H) → Nat
  | [] => 0
  | x :: r => uptoBulkEntry x + uptoBulkEntries r
def uptoBulkEntry {H : Type} : Lit × DataW H → Nat
  | (.string bytes, d) => bytes.length + uptoBulk d + 1
  | (_, d) => uptoBulk d + 1
 end
def uptoSmall : (H : Type) → List (DataW H) → Bool := fun _ ds => decide (uptoBulkAll ds ≤ 1048576)
def OpenSpec.upto (s : _root_.Go.ChangeSpec) : _root_.Go.OpenSpec := { _root_.Go.OpenSpec.ofChange s with cond := some uptoSmall }

/-- 'laws.FnExactWordsOf', WHERE WHAT IT READS IS OF BULK AT MOST 1048576: true; the input reads as it did. -/
def fnExactWordsOfUptoRow : OpenClaim := { program := "ytcelknaomealbaa", sum := "9cd91e453bcd59edc9b62d01e6138495f70ee92c0db5965b1e7af1fc91711c18", func := "loop.example/g00447/laws.FnExactWordsOf", spec := "fnExactWordsOf", unfollowed := true, recurses := true, apart := false, narrowed := true }
def FnExactWordsOfUptoSaid : Prop := fnExactWordsOfUptoRow.holds Try.pinned (OpenSpec.upto fnExactWordsOfSpec)

/-- 'laws.FnExactBoxOf', WHERE WHAT IT READS IS OF BULK AT MOST 1048576: true; the input reads as it did. -/
def fnExactBoxOfUptoRow : OpenClaim := { program := "ytcelknaomealbaa", sum := "9cd91e453bcd59edc9b62d01e6138495f70ee92c0db5965b1e7af1fc91711c18", func := "loop.example/g00447/laws.FnExactBoxOf", spec := "fnExactBoxOf", unfollowed := true, recurses := true, apart := false, narrowed := true }
def FnExactBoxOfUptoSaid : Prop := fnExactBoxOfUptoRow.holds Try.pinned (OpenSpec.upto fnExactBoxOfSpec)

/-- 'laws.FnExactNewWorld', WHERE WHAT IT READS IS OF BULK AT MOST 1048576: true; the input reads as it did. -/
def fnExactNewWorldUptoRow : OpenClaim := { program := "ytcelknaomealbaa", sum := "9cd91e453bcd59edc9b62d01e6138495f70ee92c0db5965b1e7af1fc91711c18", func := "loop.example/g00447/laws.FnExactNewWorld", spec := "fnExactNewWorld", apart := false, narrowed := true }
def FnExactNewWorldUptoSaid : Prop := fnExactNewWorldUptoRow.holds Try.pinned (OpenSpec.upto fnExactNewWorldSpec)

/-- 'laws.FnFlags', WHERE WHAT IT READS IS OF BULK AT MOST 1048576: true; the input reads as it did. -/
def fnFlagsUptoRow : OpenClaim := { program := "ytcelknaomealbaa", sum := "9cd91e453bcd59edc9b62d01e6138495f70ee92c0db5965b1e7af1fc91711c18", func := "loop.example/g00447/laws.FnFlags", spec := "fnFlags", inPlace := ["internal/abi.NoEscape", "internal/bytealg.MakeNoZero"], unfollowed := true, recurses := true, apart := false, narrowed := true }
def FnFlagsUptoSaid : Prop := fnFlagsUptoRow.holds Try.pinned (OpenSpec.upto fnFlagsSpec)

end Rows
end Go.Proofs.Ytcelknaomealbaa
