/-
  No cell of these rows narrows 'for every input' (looked for: loops, veiled, ifaces, maps, wideKeys, modest, calm, conditions, laid).
  DERIVED. THE GIVEN ROWS OF THIS SEAT. 6 by the template 'for every input the law returns true; each argument reads behind the call as it read before'; 0 by the template 'total and deterministic' (their statements: YtgbncfjabnaokaaTotals.lean).
  GIVEN WITH THE SEED: the statements are not yours to turn. If you find one false, say at which input.
  Laid BY PROGRAM, IN A SANDBOX (cutbox-rows.mjs): the forced cells as the released guide's own fill.sh prints them over the translation c26b7732f1458901… (all of the seat's roots in one cut). By AI agents, Wed Nov 11 2026. No macro, syntax, notation, axiom, sorry.
-/
import Derived.Test.YtgbncfjabnaokaaChecked
import GoSem.Claim
import GoSem.ClaimJoined
import GoSem.ClaimMapViews
import Derived.JoinedTies
import Derived.KernelRfl
namespace Go.Proofs.Ytgbncfjabnaokaa
/- THE CELL 'sum', in the pinned program and in every row, IS THE sha256 OF THE DUMP (.gsa) THAT YtgbncfjabnaokaaProg.lean LOADS. Nothing in Lean hashes anything: it is a label: what it is worth is what the hold of that sum in a sandbox is worth. -/
noncomputable def Try.pinned : Pinned := { name := "ytgbncfjabnaokaa", sum := "c26b7732f1458901406eb90c8e24bcd91f997992b39c68e57993863a292ef7b0", checked := Try.checked }
namespace Rows
def none {H : Type} : Left H := { results := [], args := [] }

/-- 'laws.FnExactSpaceIn': WHATEVER THE INPUT: true; the input reads as it did. -/
def fnExactSpaceInSpec : ChangeSpec := { name := "fnExactSpaceIn", fn := fun _ => fun
  | [d] => { results := [.lit (.bool true)], args := [d] }
  | _ => none }
def fnExactSpaceInRow : OpenClaim := { program := "ytgbncfjabnaokaa", sum := "c26b7732f1458901406eb90c8e24bcd91f997992b39c68e57993863a292ef7b0", func := "loop.example/g03317/laws.FnExactSpaceIn", spec := "fnExactSpaceIn", apart := false }
def FnExactSpaceInSaid : Prop := fnExactSpaceInRow.holds Try.pinned (OpenSpec.ofChange fnExactSpaceInSpec)

/-- ITS FALSE NEIGHBOUR: 'it returns false'. Refute it at one input. -/
def fnExactSpaceInWrong : ChangeSpec := { name := "fnExactSpaceIn", fn := fun _ => fun
  | [d] => { results := [.lit (.bool false)], args := [d] }
  | _ => none }
def FnExactSpaceInWrongFalsely : Prop := fnExactSpaceInRow.holds Try.pinned (OpenSpec.ofChange fnExactSpaceInWrong)

/-- 'laws.FnExactRiverOk': WHATEVER THE INPUT: true; the input reads as it did. -/
def fnExactRiverOkSpec : ChangeSpec := { name := "fnExactRiverOk", fn := fun _ => fun
  | [d] => { results := [.lit (.bool true)], args := [d] }
  | _ => none }
def fnExactRiverOkRow : OpenClaim := { program := "ytgbncfjabnaokaa", sum := "c26b7732f1458901406eb90c8e24bcd91f997992b39c68e57993863a292ef7b0", func := "loop.example/g03317/laws.FnExactRiverOk", spec := "fnExactRiverOk", apart := false }
def FnExactRiverOkSaid : Prop := fnExactRiverOkRow.holds Try.pinned (OpenSpec.ofChange fnExactRiverOkSpec)

/-- ITS FALSE NEIGHBOUR: 'it returns false'. Refute it at one input. -/
def fnExactRiverOkWrong : ChangeSpec := { name := "fnExactRiverOk", fn := fun _ => fun
  | [d] => { results := [.lit (.bool false)], args := [d] }
  | _ => none }
def FnExactRiverOkWrongFalsely : Prop := fnExactRiverOkRow.holds Try.pinned (OpenSpec.ofChange fnExactRiverOkWrong)

/-- 'laws.FnExactRiverTotal': WHATEVER THE INPUT: true; the input reads as it did. -/
def fnExactRiverTotalSpec : ChangeSpec := { name := "fnExactRiverTotal", fn := fun _ => fun
  | [d] => { results := [.lit (.bool true)], args := [d] }
  | _ => none }
def fnExactRiverTotalRow : OpenClaim := { program := "ytgbncfjabnaokaa", sum := "c26b7732f1458901406eb90c8e24bcd91f997992b39c68e57993863a292ef7b0", func := "loop.example/g03317/laws.FnExactRiverTotal", spec := "fnExactRiverTotal", apart := false }
def FnExactRiverTotalSaid : Prop := fnExactRiverTotalRow.holds Try.pinned (OpenSpec.ofChange fnExactRiverTotalSpec)

/-- ITS FALSE NEIGHBOUR: 'it returns false'. Refute it at one input. -/
def fnExactRiverTotalWrong : ChangeSpec := { name := "fnExactRiverTotal", fn := fun _ => fun
  | [d] => { results := [.lit (.bool false)], args := [d] }
  | _ => none }
def FnExactRiverTotalWrongFalsely : Prop := fnExactRiverTotalRow.holds Try.pinned (OpenSpec.ofChange fnExactRiverTotalWrong)

/-- 'laws.FnExactLevelOf': WHATEVER THE INPUT: true; the input reads as it did. -/
def fnExactLevelOfSpec : ChangeSpec := { name := "fnExactLevelOf", fn := fun _ => fun
  | [d] => { results := [.lit (.bool true)], args := [d] }
  | _ => none }
def fnExactLevelOfRow : OpenClaim := { program := "ytgbncfjabnaokaa", sum := "c26b7732f1458901406eb90c8e24bcd91f997992b39c68e57993863a292ef7b0", func := "loop.example/g03317/laws.FnExactLevelOf", spec := "fnExactLevelOf", apart := false }
def FnExactLevelOfSaid : Prop := fnExactLevelOfRow.holds Try.pinned (OpenSpec.ofChange fnExactLevelOfSpec)

/-- ITS FALSE NEIGHBOUR: 'it returns false'. Refute it at one input. -/
def fnExactLevelOfWrong : ChangeSpec := { name := "fnExactLevelOf", fn := fun _ => fun
  | [d] => { results := [.lit (.bool false)], args := [d] }
  | _ => none }
def FnExactLevelOfWrongFalsely : Prop := fnExactLevelOfRow.holds Try.pinned (OpenSpec.ofChange fnExactLevelOfWrong)

/-- 'laws.FnExactNewReach': WHATEVER THE INPUT: true; the input reads as it did. -/
def fnExactNewReachSpec : ChangeSpec := { name := "fnExactNewReach", fn := fun _ => fun
  | [d1, d2, d3] => { results := [.lit (.bool true)], args := [d1, d2, d3] }
  | _ => none }
def fnExactNewReachRow : OpenClaim := { program := "ytgbncfjabnaokaa", sum := "c26b7732f1458901406eb90c8e24bcd91f997992b39c68e57993863a292ef7b0", func := "loop.example/g03317/laws.FnExactNewReach", spec := "fnExactNewReach", apart := false }
def FnExactNewReachSaid : Prop := fnExactNewReachRow.holds Try.pinned (OpenSpec.ofChange fnExactNewReachSpec)

/-- ITS FALSE NEIGHBOUR: 'it returns false'. Refute it at one input. -/
def fnExactNewReachWrong : ChangeSpec := { name := "fnExactNewReach", fn := fun _ => fun
  | [d1, d2, d3] => { results := [.lit (.bool false)], args := [d1, d2, d3] }
  | _ => none }
def FnExactNewReachWrongFalsely : Prop := fnExactNewReachRow.holds Try.pinned (OpenSpec.ofChange fnExactNewReachWrong)

/-- 'laws.FnExactTakeOff': WHATEVER THE INPUT: true; the input reads as it did. -/
def fnExactTakeOffSpec : ChangeSpec := { name := "fnExactTakeOff", fn := fun _ => fun
  | [d1, d2, d3] => { results := [.lit (.bool true)], args := [d1, d2, d3] }
  | _ => none }
def fnExactTakeOffRow : OpenClaim := { program := "ytgbncfjabnaokaa", sum := "c26b7732f1458901406eb90c8e24bcd91f997992b39c68e57993863a292ef7b0", func := "loop.example/g03317/laws.FnExactTakeOff", spec := "fnExactTakeOff", apart := false }
def FnExactTakeOffSaid : Prop := fnExactTakeOffRow.holds Try.pinned (OpenSpec.ofChange fnExactTakeOffSpec)

/-- ITS FALSE NEIGHBOUR: 'it returns false'. Refute it at one input. -/
def fnExactTakeOffWrong : ChangeSpec := { name := "fnExactTakeOff", fn := fun _ => fun
  | [d1, d2, d3] => { results := [.lit (.bool false)], args := [d1, d2, d3] }
  | _ => none }
def FnExactTakeOffWrongFalsely : Prop := fnExactTakeOffRow.holds Try.pinned (OpenSpec.ofChange fnExactTakeOffWrong)

/- THE SECOND FORM. 'bulk': how many values and letters a reading holds, each counted each time it is reached (what is shared counts as often as it is met; a slice's spare places count too). A statement '..UptoSaid' is the law's where the arguments, and the package variables that the reading takes, are together of bulk at most 1048576: NARROWER than '..Said'. Prove '..Said' where nothing that the law and all that it calls make is longer than what came in: it says more and counts as full. Else prove '..UptoSaid'. A law counts once. -/
mutual
def uptoBulk {H : Type} : DataW H → Nat
  | .lit (.string bytes) => bytes.length + 1
  | .lit _ => 1
  | .nil => 1
  | .ptr d => uptoBulk d + 1
  | .slice elems spare => uptoBulkAll elems + uptoBulkAll spare + 1
  | .agg parts => uptoBulkAll parts + 1
  | .iface _ d => uptoBulk d + 1
  | .map entries => uptoBulkEntries entries + 1
  | .held _ => 1
def uptoBulkAll {H : Type} : List (DataW H) → Nat
  | [] => 0
  | d :: r => uptoBulk d + uptoBulkAll r
def uptoBulkEntries {H : Type} : List (Lit × DataW H) → Nat
  | [] => 0
  | x :: r => uptoBulkEntry x + uptoBulkEntries r
def uptoBulkEntry {H : Type} : Lit × DataW H → Nat
  | (.string bytes, d) => bytes.length + uptoBulk d + 1
  | (_, d) => uptoBulk d + 1
 end
def uptoSmall : (H : Type) → List (DataW H) → Bool := fun _ ds => decide (uptoBulkAll ds ≤ 1048576)
def OpenSpec.upto (s : _root_.Go.ChangeSpec) : _root_.Go.OpenSpec := { _root_.Go.OpenSpec.ofChange s with cond := some uptoSmall }

/-- 'laws.FnExactSpaceIn', WHERE WHAT IT READS IS OF BULK AT MOST 1048576: true; the input reads as it did. -/
def fnExactSpaceInUptoRow : OpenClaim := { program := "ytgbncfjabnaokaa", sum := "c26b7732f1458901406eb90c8e24bcd91f997992b39c68e57993863a292ef7b0", func := "loop.example/g03317/laws.FnExactSpaceIn", spec := "fnExactSpaceIn", apart := false, narrowed := true }
def FnExactSpaceInUptoSaid : Prop := fnExactSpaceInUptoRow.holds Try.pinned (OpenSpec.upto fnExactSpaceInSpec)

/-- 'laws.FnExactRiverOk', WHERE WHAT IT READS IS OF BULK AT MOST 1048576: true; the input reads as it did. -/
def fnExactRiverOkUptoRow : OpenClaim := { program := "ytgbncfjabnaokaa", sum := "c26b7732f1458901406eb90c8e24bcd91f997992b39c68e57993863a292ef7b0", func := "loop.example/g03317/laws.FnExactRiverOk", spec := "fnExactRiverOk", apart := false, narrowed := true }
def FnExactRiverOkUptoSaid : Prop := fnExactRiverOkUptoRow.holds Try.pinned (OpenSpec.upto fnExactRiverOkSpec)

/-- 'laws.FnExactRiverTotal', WHERE WHAT IT READS IS OF BULK AT MOST 1048576: true; the input reads as it did. -/
def fnExactRiverTotalUptoRow : OpenClaim := { program := "ytgbncfjabnaokaa", sum := "c26b7732f1458901406eb90c8e24bcd91f997992b39c68e57993863a292ef7b0", func := "loop.example/g03317/laws.FnExactRiverTotal", spec := "fnExactRiverTotal", apart := false, narrowed := true }
def FnExactRiverTotalUptoSaid : Prop := fnExactRiverTotalUptoRow.holds Try.pinned (OpenSpec.upto fnExactRiverTotalSpec)

/-- 'laws.FnExactLevelOf', WHERE WHAT IT READS IS OF BULK AT MOST 1048576: true; the input reads as it did. -/
def fnExactLevelOfUptoRow : OpenClaim := { program := "ytgbncfjabnaokaa", sum := "c26b7732f1458901406eb90c8e24bcd91f997992b39c68e57993863a292ef7b0", func := "loop.example/g03317/laws.FnExactLevelOf", spec := "fnExactLevelOf", apart := false, narrowed := true }
def FnExactLevelOfUptoSaid : Prop := fnExactLevelOfUptoRow.holds Try.pinned (OpenSpec.upto fnExactLevelOfSpec)

/-- 'laws.FnExactNewReach', WHERE WHAT IT READS IS OF BULK AT MOST 1048576: true; the input reads as it did. -/
def fnExactNewReachUptoRow : OpenClaim := { program := "ytgbncfjabnaokaa", sum := "c26b7732f1458901406eb90c8e24bcd91f997992b39c68e57993863a292ef7b0", func := "loop.example/g03317/laws.FnExactNewReach", spec := "fnExactNewReach", apart := false, narrowed := true }
def FnExactNewReachUptoSaid : Prop := fnExactNewReachUptoRow.holds Try.pinned (OpenSpec.upto fnExactNewReachSpec)

/-- 'laws.FnExactTakeOff', WHERE WHAT IT READS IS OF BULK AT MOST 1048576: true; the input reads as it did. -/
def fnExactTakeOffUptoRow : OpenClaim := { program := "ytgbncfjabnaokaa", sum := "c26b7732f1458901406eb90c8e24bcd91f997992b39c68e57993863a292ef7b0", func := "loop.example/g03317/laws.FnExactTakeOff", spec := "fnExactTakeOff", apart := false, narrowed := true }
def FnExactTakeOffUptoSaid : Prop := fnExactTakeOffUptoRow.holds Try.pinned (OpenSpec.upto fnExactTakeOffSpec)

end Rows
end Go.Proofs.Ytgbncfjabnaokaa
