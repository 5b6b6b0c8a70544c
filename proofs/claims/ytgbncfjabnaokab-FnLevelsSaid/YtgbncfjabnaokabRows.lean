/-
  No cell of these rows narrows 'for every input' (looked for: loops, veiled, ifaces, maps, wideKeys, modest, calm, conditions, laid).
  DERIVED. THE GIVEN ROWS OF THIS SEAT. 6 by the template 'for every input the law returns true; each argument reads behind the call as it read before'; 0 by the template 'total and deterministic' (their statements: YtgbncfjabnaokabTotals.lean).
  GIVEN WITH THE SEED: the statements are not yours to turn. If you find one false, say at which input.
  Laid BY PROGRAM, IN A SANDBOX (cutbox-rows.mjs): the forced cells as the released guide's own fill.sh prints them over the translation 844e681cd2d7c79e… (all of the seat's roots in one cut). By AI agents, Wed Nov 11 2026. No macro, syntax, notation, axiom, sorry.
-/
import Derived.Test.YtgbncfjabnaokabChecked
import GoSem.Claim
import GoSem.ClaimJoined
import GoSem.ClaimMapViews
import Derived.JoinedTies
import Derived.KernelRfl
namespace Go.Proofs.Ytgbncfjabnaokab
/- THE CELL 'sum', in the pinned program and in every row, IS THE sha256 OF THE DUMP (.gsa) THAT YtgbncfjabnaokabProg.lean LOADS. Nothing in Lean hashes anything: it is a label: what it is worth is what the hold of that sum in a sandbox is worth. -/
noncomputable def Try.pinned : Pinned := { name := "ytgbncfjabnaokab", sum := "844e681cd2d7c79e68399e361f2b29d51f89037c9f8e5dbf0add3e6a435dc8f6", checked := Try.checked }
namespace Rows
def none {H : Type} : Left H := { results := [], args := [] }

/-- 'laws.FnExactFlowIn': WHATEVER THE INPUT: true; the input reads as it did. -/
def fnExactFlowInSpec : ChangeSpec := { name := "fnExactFlowIn", fn := fun _ => fun
  | [d] => { results := [.lit (.bool true)], args := [d] }
  | _ => none }
def fnExactFlowInRow : OpenClaim := { program := "ytgbncfjabnaokab", sum := "844e681cd2d7c79e68399e361f2b29d51f89037c9f8e5dbf0add3e6a435dc8f6", func := "loop.example/g03317/laws.FnExactFlowIn", spec := "fnExactFlowIn", apart := false }
def FnExactFlowInSaid : Prop := fnExactFlowInRow.holds Try.pinned (OpenSpec.ofChange fnExactFlowInSpec)

/-- ITS FALSE NEIGHBOUR: 'it returns false'. Refute it at one input. -/
def fnExactFlowInWrong : ChangeSpec := { name := "fnExactFlowIn", fn := fun _ => fun
  | [d] => { results := [.lit (.bool false)], args := [d] }
  | _ => none }
def FnExactFlowInWrongFalsely : Prop := fnExactFlowInRow.holds Try.pinned (OpenSpec.ofChange fnExactFlowInWrong)

/-- 'laws.FnExactSendTo': WHATEVER THE INPUT: true; the input reads as it did. -/
def fnExactSendToSpec : ChangeSpec := { name := "fnExactSendTo", fn := fun _ => fun
  | [d1, d2] => { results := [.lit (.bool true)], args := [d1, d2] }
  | _ => none }
def fnExactSendToRow : OpenClaim := { program := "ytgbncfjabnaokab", sum := "844e681cd2d7c79e68399e361f2b29d51f89037c9f8e5dbf0add3e6a435dc8f6", func := "loop.example/g03317/laws.FnExactSendTo", spec := "fnExactSendTo", apart := false }
def FnExactSendToSaid : Prop := fnExactSendToRow.holds Try.pinned (OpenSpec.ofChange fnExactSendToSpec)

/-- ITS FALSE NEIGHBOUR: 'it returns false'. Refute it at one input. -/
def fnExactSendToWrong : ChangeSpec := { name := "fnExactSendTo", fn := fun _ => fun
  | [d1, d2] => { results := [.lit (.bool false)], args := [d1, d2] }
  | _ => none }
def FnExactSendToWrongFalsely : Prop := fnExactSendToRow.holds Try.pinned (OpenSpec.ofChange fnExactSendToWrong)

/-- 'laws.FnExactPassOn': WHATEVER THE INPUT: true; the input reads as it did. -/
def fnExactPassOnSpec : ChangeSpec := { name := "fnExactPassOn", fn := fun _ => fun
  | [d1, d2, d3, d4] => { results := [.lit (.bool true)], args := [d1, d2, d3, d4] }
  | _ => none }
def fnExactPassOnRow : OpenClaim := { program := "ytgbncfjabnaokab", sum := "844e681cd2d7c79e68399e361f2b29d51f89037c9f8e5dbf0add3e6a435dc8f6", func := "loop.example/g03317/laws.FnExactPassOn", spec := "fnExactPassOn", apart := false }
def FnExactPassOnSaid : Prop := fnExactPassOnRow.holds Try.pinned (OpenSpec.ofChange fnExactPassOnSpec)

/-- ITS FALSE NEIGHBOUR: 'it returns false'. Refute it at one input. -/
def fnExactPassOnWrong : ChangeSpec := { name := "fnExactPassOn", fn := fun _ => fun
  | [d1, d2, d3, d4] => { results := [.lit (.bool false)], args := [d1, d2, d3, d4] }
  | _ => none }
def FnExactPassOnWrongFalsely : Prop := fnExactPassOnRow.holds Try.pinned (OpenSpec.ofChange fnExactPassOnWrong)

/-- 'laws.FnPassedOn': WHATEVER THE INPUT: true; the input reads as it did. -/
def fnPassedOnSpec : ChangeSpec := { name := "fnPassedOn", fn := fun _ => fun
  | [d] => { results := [.lit (.bool true)], args := [d] }
  | _ => none }
def fnPassedOnRow : OpenClaim := { program := "ytgbncfjabnaokab", sum := "844e681cd2d7c79e68399e361f2b29d51f89037c9f8e5dbf0add3e6a435dc8f6", func := "loop.example/g03317/laws.FnPassedOn", spec := "fnPassedOn", apart := false }
def FnPassedOnSaid : Prop := fnPassedOnRow.holds Try.pinned (OpenSpec.ofChange fnPassedOnSpec)

/-- ITS FALSE NEIGHBOUR: 'it returns false'. Refute it at one input. -/
def fnPassedOnWrong : ChangeSpec := { name := "fnPassedOn", fn := fun _ => fun
  | [d] => { results := [.lit (.bool false)], args := [d] }
  | _ => none }
def FnPassedOnWrongFalsely : Prop := fnPassedOnRow.holds Try.pinned (OpenSpec.ofChange fnPassedOnWrong)

/-- 'laws.FnPipes': WHATEVER THE INPUT: true; the input reads as it did. -/
def fnPipesSpec : ChangeSpec := { name := "fnPipes", fn := fun _ => fun
  | [d] => { results := [.lit (.bool true)], args := [d] }
  | _ => none }
def fnPipesRow : OpenClaim := { program := "ytgbncfjabnaokab", sum := "844e681cd2d7c79e68399e361f2b29d51f89037c9f8e5dbf0add3e6a435dc8f6", func := "loop.example/g03317/laws.FnPipes", spec := "fnPipes", apart := false }
def FnPipesSaid : Prop := fnPipesRow.holds Try.pinned (OpenSpec.ofChange fnPipesSpec)

/-- ITS FALSE NEIGHBOUR: 'it returns false'. Refute it at one input. -/
def fnPipesWrong : ChangeSpec := { name := "fnPipes", fn := fun _ => fun
  | [d] => { results := [.lit (.bool false)], args := [d] }
  | _ => none }
def FnPipesWrongFalsely : Prop := fnPipesRow.holds Try.pinned (OpenSpec.ofChange fnPipesWrong)

/-- 'laws.FnLevels': WHATEVER THE INPUT: true; the input reads as it did. -/
def fnLevelsSpec : ChangeSpec := { name := "fnLevels", fn := fun _ => fun
  | [d] => { results := [.lit (.bool true)], args := [d] }
  | _ => none }
def fnLevelsRow : OpenClaim := { program := "ytgbncfjabnaokab", sum := "844e681cd2d7c79e68399e361f2b29d51f89037c9f8e5dbf0add3e6a435dc8f6", func := "loop.example/g03317/laws.FnLevels", spec := "fnLevels", apart := false }
def FnLevelsSaid : Prop := fnLevelsRow.holds Try.pinned (OpenSpec.ofChange fnLevelsSpec)

/-- ITS FALSE NEIGHBOUR: 'it returns false'. Refute it at one input. -/
def fnLevelsWrong : ChangeSpec := { name := "fnLevels", fn := fun _ => fun
  | [d] => { results := [.lit (.bool false)], args := [d] }
  | _ => none }
def FnLevelsWrongFalsely : Prop := fnLevelsRow.holds Try.pinned (OpenSpec.ofChange fnLevelsWrong)

/- THE SECOND FORM. 'bulk': how many values and letters a reading holds, each counted each time it is reached (what is shared counts as often as it is met; a slice's spare places count too). A statement '..UptoSaid' is the law's where the arguments, and the package variables that the reading takes, are together of bulk at most 1048576: NARROWER than '..Said'. Prove '..Said' where nothing that the law and all that it calls make is longer than what came in: it says more and counts as full. Else prove '..UptoSaid'. A law counts once. -/
mutual
def uptoBulk {H : Type} : DataW H → Nat
  | .lit (.string bytes) => bytes.length + 1
  | .lit _ => 1
  | .nil => 1
  | .ptr d => uptoBulk d + 1
  | .slice elems spare => uptoBulkAll elems + uptoBulkAll spare + 1
  | .agg parts => uptoBulkAll parts + 1
  | .iface _ d => uptoBulk d + 1
  | .map entries => uptoBulkEntries entries + 1
  | .held _ => 1
def uptoBulkAll {H : Type} : List (DataW H) → Nat
  | [] => 0
  | d :: r => uptoBulk d + uptoBulkAll r
def uptoBulkEntries {H : Type} : List (Lit × DataW H) → Nat
  | [] => 0
  | x :: r => uptoBulkEntry x + uptoBulkEntries r
def uptoBulkEntry {H : Type} : Lit × DataW H → Nat
  | (.string bytes, d) => bytes.length + uptoBulk d + 1
  | (_, d) => uptoBulk d + 1
 end
def uptoSmall : (H : Type) → List (DataW H) → Bool := fun _ ds => decide (uptoBulkAll ds ≤ 1048576)
def OpenSpec.upto (s : _root_.Go.ChangeSpec) : _root_.Go.OpenSpec := { _root_.Go.OpenSpec.ofChange s with cond := some uptoSmall }

/-- 'laws.FnExactFlowIn', WHERE WHAT IT READS IS OF BULK AT MOST 1048576: true; the input reads as it did. -/
def fnExactFlowInUptoRow : OpenClaim := { program := "ytgbncfjabnaokab", sum := "844e681cd2d7c79e68399e361f2b29d51f89037c9f8e5dbf0add3e6a435dc8f6", func := "loop.example/g03317/laws.FnExactFlowIn", spec := "fnExactFlowIn", apart := false, narrowed := true }
def FnExactFlowInUptoSaid : Prop := fnExactFlowInUptoRow.holds Try.pinned (OpenSpec.upto fnExactFlowInSpec)

/-- 'laws.FnExactSendTo', WHERE WHAT IT READS IS OF BULK AT MOST 1048576: true; the input reads as it did. -/
def fnExactSendToUptoRow : OpenClaim := { program := "ytgbncfjabnaokab", sum := "844e681cd2d7c79e68399e361f2b29d51f89037c9f8e5dbf0add3e6a435dc8f6", func := "loop.example/g03317/laws.FnExactSendTo", spec := "fnExactSendTo", apart := false, narrowed := true }
def FnExactSendToUptoSaid : Prop := fnExactSendToUptoRow.holds Try.pinned (OpenSpec.upto fnExactSendToSpec)

/-- 'laws.FnExactPassOn', WHERE WHAT IT READS IS OF BULK AT MOST 1048576: true; the input reads as it did. -/
def fnExactPassOnUptoRow : OpenClaim := { program := "ytgbncfjabnaokab", sum := "844e681cd2d7c79e68399e361f2b29d51f89037c9f8e5dbf0add3e6a435dc8f6", func := "loop.example/g03317/laws.FnExactPassOn", spec := "fnExactPassOn", apart := false, narrowed := true }
def FnExactPassOnUptoSaid : Prop := fnExactPassOnUptoRow.holds Try.pinned (OpenSpec.upto fnExactPassOnSpec)

/-- 'laws.FnPassedOn', WHERE WHAT IT READS IS OF BULK AT MOST 1048576: true; the input reads as it did. -/
def fnPassedOnUptoRow : OpenClaim := { program := "ytgbncfjabnaokab", sum := "844e681cd2d7c79e68399e361f2b29d51f89037c9f8e5dbf0add3e6a435dc8f6", func := "loop.example/g03317/laws.FnPassedOn", spec := "fnPassedOn", apart := false, narrowed := true }
def FnPassedOnUptoSaid : Prop := fnPassedOnUptoRow.holds Try.pinned (OpenSpec.upto fnPassedOnSpec)

/-- 'laws.FnPipes', WHERE WHAT IT READS IS OF BULK AT MOST 1048576: true; the input reads as it did. -/
def fnPipesUptoRow : OpenClaim := { program := "ytgbncfjabnaokab", sum := "844e681cd2d7c79e68399e361f2b29d51f89037c9f8e5dbf0add3e6a435dc8f6", func := "loop.example/g03317/laws.FnPipes", spec := "fnPipes", apart := false, narrowed := true }
def FnPipesUptoSaid : Prop := fnPipesUptoRow.holds Try.pinned (OpenSpec.upto fnPipesSpec)

/-- 'laws.FnLevels', WHERE WHAT IT READS IS OF BULK AT MOST 1048576: true; the input reads as it did. -/
def fnLevelsUptoRow : OpenClaim := { program := "ytgbncfjabnaokab", sum := "844e681cd2d7c79e68399e361f2b29d51f89037c9f8e5dbf0add3e6a435dc8f6", func := "loop.example/g03317/laws.FnLevels", spec := "fnLevels", apart := false, narrowed := true }
def FnLevelsUptoSaid : Prop := fnLevelsUptoRow.holds Try.pinned (OpenSpec.upto fnLevelsSpec)

end Rows
end Go.Proofs.Ytgbncfjabnaokab
