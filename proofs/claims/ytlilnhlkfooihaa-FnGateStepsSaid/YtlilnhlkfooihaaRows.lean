/-
  No cell of these rows narrows 'for every input' (looked for: loops, veiled, ifaces, maps, wideKeys, modest, calm, conditions, laid).
  DERIVED. THE GIVEN ROWS OF THIS SEAT. 17 by the template 'for every input the law returns true; each argument reads behind the call as it read before'; 0 by the template 'total and deterministic' (their statements: YtlilnhlkfooihaaTotals.lean).
  GIVEN WITH THE SEED: the statements are not yours to turn. If you find one false, say at which input.
  Laid BY PROGRAM, IN A SANDBOX (cutbox-rows.mjs): the forced cells as the released guide's own fill.sh prints them over the translation b1cd0b8493745081… (all of the seat's roots in one cut). By AI agents, Wed Nov 11 2026. No macro, syntax, notation, axiom, sorry.
-/
import Derived.Test.YtlilnhlkfooihaaChecked
import GoSem.Claim
import GoSem.ClaimJoined
import GoSem.ClaimMapViews
import Derived.JoinedTies
import Derived.KernelRfl
namespace Go.Proofs.Ytlilnhlkfooihaa
/- THE CELL 'sum', in the pinned program and in every row, IS THE sha256 OF THE DUMP (.gsa) THAT YtlilnhlkfooihaaProg.lean LOADS. Nothing in Lean hashes anything: it is a label: what it is worth is what the hold of that sum in a sandbox is worth. -/
noncomputable def Try.pinned : Pinned := { name := "ytlilnhlkfooihaa", sum := "b1cd0b8493745081c73273e6469388b98979e523003951f190b95b92ccac01a8", checked := Try.checked }
namespace Rows
def none {H : Type} : Left H := { results := [], args := [] }

/-- 'laws.FnExactConstants': WHATEVER THE INPUT: true; the input reads as it did. -/
def fnExactConstantsSpec : ChangeSpec := { name := "fnExactConstants", fn := fun _ => fun
  | [] => { results := [.lit (.bool true)], args := [] }
  | _ => none }
def fnExactConstantsRow : OpenClaim := { program := "ytlilnhlkfooihaa", sum := "b1cd0b8493745081c73273e6469388b98979e523003951f190b95b92ccac01a8", func := "loop.example/g03317/laws.FnExactConstants", spec := "fnExactConstants", apart := false }
def FnExactConstantsSaid : Prop := fnExactConstantsRow.holds Try.pinned (OpenSpec.ofChange fnExactConstantsSpec)

/-- ITS FALSE NEIGHBOUR: 'it returns false'. Refute it at one input. -/
def fnExactConstantsWrong : ChangeSpec := { name := "fnExactConstants", fn := fun _ => fun
  | [] => { results := [.lit (.bool false)], args := [] }
  | _ => none }
def FnExactConstantsWrongFalsely : Prop := fnExactConstantsRow.holds Try.pinned (OpenSpec.ofChange fnExactConstantsWrong)

/-- 'laws.FnExactNextRandom': WHATEVER THE INPUT: true; the input reads as it did. -/
def fnExactNextRandomSpec : ChangeSpec := { name := "fnExactNextRandom", fn := fun _ => fun
  | [d] => { results := [.lit (.bool true)], args := [d] }
  | _ => none }
def fnExactNextRandomRow : OpenClaim := { program := "ytlilnhlkfooihaa", sum := "b1cd0b8493745081c73273e6469388b98979e523003951f190b95b92ccac01a8", func := "loop.example/g03317/laws.FnExactNextRandom", spec := "fnExactNextRandom", apart := false }
def FnExactNextRandomSaid : Prop := fnExactNextRandomRow.holds Try.pinned (OpenSpec.ofChange fnExactNextRandomSpec)

/-- ITS FALSE NEIGHBOUR: 'it returns false'. Refute it at one input. -/
def fnExactNextRandomWrong : ChangeSpec := { name := "fnExactNextRandom", fn := fun _ => fun
  | [d] => { results := [.lit (.bool false)], args := [d] }
  | _ => none }
def FnExactNextRandomWrongFalsely : Prop := fnExactNextRandomRow.holds Try.pinned (OpenSpec.ofChange fnExactNextRandomWrong)

/-- 'laws.FnExactClamp': WHATEVER THE INPUT: true; the input reads as it did. -/
def fnExactClampSpec : ChangeSpec := { name := "fnExactClamp", fn := fun _ => fun
  | [d1, d2, d3] => { results := [.lit (.bool true)], args := [d1, d2, d3] }
  | _ => none }
def fnExactClampRow : OpenClaim := { program := "ytlilnhlkfooihaa", sum := "b1cd0b8493745081c73273e6469388b98979e523003951f190b95b92ccac01a8", func := "loop.example/g03317/laws.FnExactClamp", spec := "fnExactClamp", apart := false }
def FnExactClampSaid : Prop := fnExactClampRow.holds Try.pinned (OpenSpec.ofChange fnExactClampSpec)

/-- ITS FALSE NEIGHBOUR: 'it returns false'. Refute it at one input. -/
def fnExactClampWrong : ChangeSpec := { name := "fnExactClamp", fn := fun _ => fun
  | [d1, d2, d3] => { results := [.lit (.bool false)], args := [d1, d2, d3] }
  | _ => none }
def FnExactClampWrongFalsely : Prop := fnExactClampRow.holds Try.pinned (OpenSpec.ofChange fnExactClampWrong)

/-- 'laws.FnExactRuleOk': WHATEVER THE INPUT: true; the input reads as it did. -/
def fnExactRuleOkSpec : ChangeSpec := { name := "fnExactRuleOk", fn := fun _ => fun
  | [d] => { results := [.lit (.bool true)], args := [d] }
  | _ => none }
def fnExactRuleOkRow : OpenClaim := { program := "ytlilnhlkfooihaa", sum := "b1cd0b8493745081c73273e6469388b98979e523003951f190b95b92ccac01a8", func := "loop.example/g03317/laws.FnExactRuleOk", spec := "fnExactRuleOk", apart := false }
def FnExactRuleOkSaid : Prop := fnExactRuleOkRow.holds Try.pinned (OpenSpec.ofChange fnExactRuleOkSpec)

/-- ITS FALSE NEIGHBOUR: 'it returns false'. Refute it at one input. -/
def fnExactRuleOkWrong : ChangeSpec := { name := "fnExactRuleOk", fn := fun _ => fun
  | [d] => { results := [.lit (.bool false)], args := [d] }
  | _ => none }
def FnExactRuleOkWrongFalsely : Prop := fnExactRuleOkRow.holds Try.pinned (OpenSpec.ofChange fnExactRuleOkWrong)

/-- 'laws.FnExactFloorDiv': WHATEVER THE INPUT: true; the input reads as it did. -/
def fnExactFloorDivSpec : ChangeSpec := { name := "fnExactFloorDiv", fn := fun _ => fun
  | [d1, d2] => { results := [.lit (.bool true)], args := [d1, d2] }
  | _ => none }
def fnExactFloorDivRow : OpenClaim := { program := "ytlilnhlkfooihaa", sum := "b1cd0b8493745081c73273e6469388b98979e523003951f190b95b92ccac01a8", func := "loop.example/g03317/laws.FnExactFloorDiv", spec := "fnExactFloorDiv", apart := false }
def FnExactFloorDivSaid : Prop := fnExactFloorDivRow.holds Try.pinned (OpenSpec.ofChange fnExactFloorDivSpec)

/-- ITS FALSE NEIGHBOUR: 'it returns false'. Refute it at one input. -/
def fnExactFloorDivWrong : ChangeSpec := { name := "fnExactFloorDiv", fn := fun _ => fun
  | [d1, d2] => { results := [.lit (.bool false)], args := [d1, d2] }
  | _ => none }
def FnExactFloorDivWrongFalsely : Prop := fnExactFloorDivRow.holds Try.pinned (OpenSpec.ofChange fnExactFloorDivWrong)

/-- 'laws.FnExactWeirOk': WHATEVER THE INPUT: true; the input reads as it did. -/
def fnExactWeirOkSpec : ChangeSpec := { name := "fnExactWeirOk", fn := fun _ => fun
  | [d] => { results := [.lit (.bool true)], args := [d] }
  | _ => none }
def fnExactWeirOkRow : OpenClaim := { program := "ytlilnhlkfooihaa", sum := "b1cd0b8493745081c73273e6469388b98979e523003951f190b95b92ccac01a8", func := "loop.example/g03317/laws.FnExactWeirOk", spec := "fnExactWeirOk", apart := false }
def FnExactWeirOkSaid : Prop := fnExactWeirOkRow.holds Try.pinned (OpenSpec.ofChange fnExactWeirOkSpec)

/-- ITS FALSE NEIGHBOUR: 'it returns false'. Refute it at one input. -/
def fnExactWeirOkWrong : ChangeSpec := { name := "fnExactWeirOk", fn := fun _ => fun
  | [d] => { results := [.lit (.bool false)], args := [d] }
  | _ => none }
def FnExactWeirOkWrongFalsely : Prop := fnExactWeirOkRow.holds Try.pinned (OpenSpec.ofChange fnExactWeirOkWrong)

/-- 'laws.FnExactRandomBelow': WHATEVER THE INPUT: true; the input reads as it did. -/
def fnExactRandomBelowSpec : ChangeSpec := { name := "fnExactRandomBelow", fn := fun _ => fun
  | [d1, d2] => { results := [.lit (.bool true)], args := [d1, d2] }
  | _ => none }
def fnExactRandomBelowRow : OpenClaim := { program := "ytlilnhlkfooihaa", sum := "b1cd0b8493745081c73273e6469388b98979e523003951f190b95b92ccac01a8", func := "loop.example/g03317/laws.FnExactRandomBelow", spec := "fnExactRandomBelow", apart := false }
def FnExactRandomBelowSaid : Prop := fnExactRandomBelowRow.holds Try.pinned (OpenSpec.ofChange fnExactRandomBelowSpec)

/-- ITS FALSE NEIGHBOUR: 'it returns false'. Refute it at one input. -/
def fnExactRandomBelowWrong : ChangeSpec := { name := "fnExactRandomBelow", fn := fun _ => fun
  | [d1, d2] => { results := [.lit (.bool false)], args := [d1, d2] }
  | _ => none }
def FnExactRandomBelowWrongFalsely : Prop := fnExactRandomBelowRow.holds Try.pinned (OpenSpec.ofChange fnExactRandomBelowWrong)

/-- 'laws.FnExactWantedFlow': WHATEVER THE INPUT: true; the input reads as it did. -/
def fnExactWantedFlowSpec : ChangeSpec := { name := "fnExactWantedFlow", fn := fun _ => fun
  | [d1, d2, d3] => { results := [.lit (.bool true)], args := [d1, d2, d3] }
  | _ => none }
def fnExactWantedFlowRow : OpenClaim := { program := "ytlilnhlkfooihaa", sum := "b1cd0b8493745081c73273e6469388b98979e523003951f190b95b92ccac01a8", func := "loop.example/g03317/laws.FnExactWantedFlow", spec := "fnExactWantedFlow", apart := false }
def FnExactWantedFlowSaid : Prop := fnExactWantedFlowRow.holds Try.pinned (OpenSpec.ofChange fnExactWantedFlowSpec)

/-- ITS FALSE NEIGHBOUR: 'it returns false'. Refute it at one input. -/
def fnExactWantedFlowWrong : ChangeSpec := { name := "fnExactWantedFlow", fn := fun _ => fun
  | [d1, d2, d3] => { results := [.lit (.bool false)], args := [d1, d2, d3] }
  | _ => none }
def FnExactWantedFlowWrongFalsely : Prop := fnExactWantedFlowRow.holds Try.pinned (OpenSpec.ofChange fnExactWantedFlowWrong)

/-- 'laws.FnExactRootOf': WHATEVER THE INPUT: true; the input reads as it did. -/
def fnExactRootOfSpec : ChangeSpec := { name := "fnExactRootOf", fn := fun _ => fun
  | [d] => { results := [.lit (.bool true)], args := [d] }
  | _ => none }
def fnExactRootOfRow : OpenClaim := { program := "ytlilnhlkfooihaa", sum := "b1cd0b8493745081c73273e6469388b98979e523003951f190b95b92ccac01a8", func := "loop.example/g03317/laws.FnExactRootOf", spec := "fnExactRootOf", apart := false }
def FnExactRootOfSaid : Prop := fnExactRootOfRow.holds Try.pinned (OpenSpec.ofChange fnExactRootOfSpec)

/-- ITS FALSE NEIGHBOUR: 'it returns false'. Refute it at one input. -/
def fnExactRootOfWrong : ChangeSpec := { name := "fnExactRootOf", fn := fun _ => fun
  | [d] => { results := [.lit (.bool false)], args := [d] }
  | _ => none }
def FnExactRootOfWrongFalsely : Prop := fnExactRootOfRow.holds Try.pinned (OpenSpec.ofChange fnExactRootOfWrong)

/-- 'laws.FnQuotients': WHATEVER THE INPUT: true; the input reads as it did. -/
def fnQuotientsSpec : ChangeSpec := { name := "fnQuotients", fn := fun _ => fun
  | [d] => { results := [.lit (.bool true)], args := [d] }
  | _ => none }
def fnQuotientsRow : OpenClaim := { program := "ytlilnhlkfooihaa", sum := "b1cd0b8493745081c73273e6469388b98979e523003951f190b95b92ccac01a8", func := "loop.example/g03317/laws.FnQuotients", spec := "fnQuotients", apart := false }
def FnQuotientsSaid : Prop := fnQuotientsRow.holds Try.pinned (OpenSpec.ofChange fnQuotientsSpec)

/-- ITS FALSE NEIGHBOUR: 'it returns false'. Refute it at one input. -/
def fnQuotientsWrong : ChangeSpec := { name := "fnQuotients", fn := fun _ => fun
  | [d] => { results := [.lit (.bool false)], args := [d] }
  | _ => none }
def FnQuotientsWrongFalsely : Prop := fnQuotientsRow.holds Try.pinned (OpenSpec.ofChange fnQuotientsWrong)

/-- 'laws.FnClamped': WHATEVER THE INPUT: true; the input reads as it did. -/
def fnClampedSpec : ChangeSpec := { name := "fnClamped", fn := fun _ => fun
  | [d] => { results := [.lit (.bool true)], args := [d] }
  | _ => none }
def fnClampedRow : OpenClaim := { program := "ytlilnhlkfooihaa", sum := "b1cd0b8493745081c73273e6469388b98979e523003951f190b95b92ccac01a8", func := "loop.example/g03317/laws.FnClamped", spec := "fnClamped", apart := false }
def FnClampedSaid : Prop := fnClampedRow.holds Try.pinned (OpenSpec.ofChange fnClampedSpec)

/-- ITS FALSE NEIGHBOUR: 'it returns false'. Refute it at one input. -/
def fnClampedWrong : ChangeSpec := { name := "fnClamped", fn := fun _ => fun
  | [d] => { results := [.lit (.bool false)], args := [d] }
  | _ => none }
def FnClampedWrongFalsely : Prop := fnClampedRow.holds Try.pinned (OpenSpec.ofChange fnClampedWrong)

/-- 'laws.FnExactMoveGate': WHATEVER THE INPUT: true; the input reads as it did. -/
def fnExactMoveGateSpec : ChangeSpec := { name := "fnExactMoveGate", fn := fun _ => fun
  | [d1, d2] => { results := [.lit (.bool true)], args := [d1, d2] }
  | _ => none }
def fnExactMoveGateRow : OpenClaim := { program := "ytlilnhlkfooihaa", sum := "b1cd0b8493745081c73273e6469388b98979e523003951f190b95b92ccac01a8", func := "loop.example/g03317/laws.FnExactMoveGate", spec := "fnExactMoveGate", apart := false }
def FnExactMoveGateSaid : Prop := fnExactMoveGateRow.holds Try.pinned (OpenSpec.ofChange fnExactMoveGateSpec)

/-- ITS FALSE NEIGHBOUR: 'it returns false'. Refute it at one input. -/
def fnExactMoveGateWrong : ChangeSpec := { name := "fnExactMoveGate", fn := fun _ => fun
  | [d1, d2] => { results := [.lit (.bool false)], args := [d1, d2] }
  | _ => none }
def FnExactMoveGateWrongFalsely : Prop := fnExactMoveGateRow.holds Try.pinned (OpenSpec.ofChange fnExactMoveGateWrong)

/-- 'laws.FnExactGateFlow': WHATEVER THE INPUT: true; the input reads as it did. -/
def fnExactGateFlowSpec : ChangeSpec := { name := "fnExactGateFlow", fn := fun _ => fun
  | [d1, d2, d3] => { results := [.lit (.bool true)], args := [d1, d2, d3] }
  | _ => none }
def fnExactGateFlowRow : OpenClaim := { program := "ytlilnhlkfooihaa", sum := "b1cd0b8493745081c73273e6469388b98979e523003951f190b95b92ccac01a8", func := "loop.example/g03317/laws.FnExactGateFlow", spec := "fnExactGateFlow", apart := false }
def FnExactGateFlowSaid : Prop := fnExactGateFlowRow.holds Try.pinned (OpenSpec.ofChange fnExactGateFlowSpec)

/-- ITS FALSE NEIGHBOUR: 'it returns false'. Refute it at one input. -/
def fnExactGateFlowWrong : ChangeSpec := { name := "fnExactGateFlow", fn := fun _ => fun
  | [d1, d2, d3] => { results := [.lit (.bool false)], args := [d1, d2, d3] }
  | _ => none }
def FnExactGateFlowWrongFalsely : Prop := fnExactGateFlowRow.holds Try.pinned (OpenSpec.ofChange fnExactGateFlowWrong)

/-- 'laws.FnGates': WHATEVER THE INPUT: true; the input reads as it did. -/
def fnGatesSpec : ChangeSpec := { name := "fnGates", fn := fun _ => fun
  | [d] => { results := [.lit (.bool true)], args := [d] }
  | _ => none }
def fnGatesRow : OpenClaim := { program := "ytlilnhlkfooihaa", sum := "b1cd0b8493745081c73273e6469388b98979e523003951f190b95b92ccac01a8", func := "loop.example/g03317/laws.FnGates", spec := "fnGates", apart := false }
def FnGatesSaid : Prop := fnGatesRow.holds Try.pinned (OpenSpec.ofChange fnGatesSpec)

/-- ITS FALSE NEIGHBOUR: 'it returns false'. Refute it at one input. -/
def fnGatesWrong : ChangeSpec := { name := "fnGates", fn := fun _ => fun
  | [d] => { results := [.lit (.bool false)], args := [d] }
  | _ => none }
def FnGatesWrongFalsely : Prop := fnGatesRow.holds Try.pinned (OpenSpec.ofChange fnGatesWrong)

/-- 'laws.FnExactOpenFor': WHATEVER THE INPUT: true; the input reads as it did. -/
def fnExactOpenForSpec : ChangeSpec := { name := "fnExactOpenFor", fn := fun _ => fun
  | [d1, d2, d3, d4] => { results := [.lit (.bool true)], args := [d1, d2, d3, d4] }
  | _ => none }
def fnExactOpenForRow : OpenClaim := { program := "ytlilnhlkfooihaa", sum := "b1cd0b8493745081c73273e6469388b98979e523003951f190b95b92ccac01a8", func := "loop.example/g03317/laws.FnExactOpenFor", spec := "fnExactOpenFor", apart := false }
def FnExactOpenForSaid : Prop := fnExactOpenForRow.holds Try.pinned (OpenSpec.ofChange fnExactOpenForSpec)

/-- ITS FALSE NEIGHBOUR: 'it returns false'. Refute it at one input. -/
def fnExactOpenForWrong : ChangeSpec := { name := "fnExactOpenFor", fn := fun _ => fun
  | [d1, d2, d3, d4] => { results := [.lit (.bool false)], args := [d1, d2, d3, d4] }
  | _ => none }
def FnExactOpenForWrongFalsely : Prop := fnExactOpenForRow.holds Try.pinned (OpenSpec.ofChange fnExactOpenForWrong)

/-- 'laws.FnGateSteps': WHATEVER THE INPUT: true; the input reads as it did. -/
def fnGateStepsSpec : ChangeSpec := { name := "fnGateSteps", fn := fun _ => fun
  | [d] => { results := [.lit (.bool true)], args := [d] }
  | _ => none }
def fnGateStepsRow : OpenClaim := { program := "ytlilnhlkfooihaa", sum := "b1cd0b8493745081c73273e6469388b98979e523003951f190b95b92ccac01a8", func := "loop.example/g03317/laws.FnGateSteps", spec := "fnGateSteps", apart := false }
def FnGateStepsSaid : Prop := fnGateStepsRow.holds Try.pinned (OpenSpec.ofChange fnGateStepsSpec)

/-- ITS FALSE NEIGHBOUR: 'it returns false'. Refute it at one input. -/
def fnGateStepsWrong : ChangeSpec := { name := "fnGateSteps", fn := fun _ => fun
  | [d] => { results := [.lit (.bool false)], args := [d] }
  | _ => none }
def FnGateStepsWrongFalsely : Prop := fnGateStepsRow.holds Try.pinned (OpenSpec.ofChange fnGateStepsWrong)

/-- 'laws.FnExactSteerWeir': WHATEVER THE INPUT: true; the input reads as it did. -/
def fnExactSteerWeirSpec : ChangeSpec := { name := "fnExactSteerWeir", fn := fun _ => fun
  | [d1, d2, d3, d4, d5] => { results := [.lit (.bool true)], args := [d1, d2, d3, d4, d5] }
  | _ => none }
def fnExactSteerWeirRow : OpenClaim := { program := "ytlilnhlkfooihaa", sum := "b1cd0b8493745081c73273e6469388b98979e523003951f190b95b92ccac01a8", func := "loop.example/g03317/laws.FnExactSteerWeir", spec := "fnExactSteerWeir", apart := false }
def FnExactSteerWeirSaid : Prop := fnExactSteerWeirRow.holds Try.pinned (OpenSpec.ofChange fnExactSteerWeirSpec)

/-- ITS FALSE NEIGHBOUR: 'it returns false'. Refute it at one input. -/
def fnExactSteerWeirWrong : ChangeSpec := { name := "fnExactSteerWeir", fn := fun _ => fun
  | [d1, d2, d3, d4, d5] => { results := [.lit (.bool false)], args := [d1, d2, d3, d4, d5] }
  | _ => none }
def FnExactSteerWeirWrongFalsely : Prop := fnExactSteerWeirRow.holds Try.pinned (OpenSpec.ofChange fnExactSteerWeirWrong)

/- THE SECOND FORM. 'bulk': how many values and letters a reading holds, each counted each time it is reached (what is shared counts as often as it is met; a slice's spare places count too). A statement '..UptoSaid' is the law's where the arguments, and the package variables that the reading takes, are together of bulk at most 1048576: NARROWER than '..Said'. Prove '..Said' where nothing that the law and all that it calls make is longer than what came in: it says more and counts as full. Else prove '..UptoSaid'. A law counts once. -/
mutual
def uptoBulk {H : Type} : DataW H → Nat
  | .lit (.string bytes) => bytes.length + 1
  | .lit _ => 1
  | .nil => 1
  | .ptr d => uptoBulk d + 1
  | .slice elems spare => uptoBulkAll elems + uptoBulkAll spare + 1
  | .agg parts => uptoBulkAll parts + 1
  | .iface _ d => uptoBulk d + 1
  | .map entries => uptoBulkEntries entries + 1
  | .held _ => 1
def uptoBulkAll {H : Type} : List (DataW H) → Nat
  | [] => 0
  | d :: r => uptoBulk d + uptoBulkAll r
def uptoBulkEntries {H : Type} : List (Lit × DataW H) → Nat
  | [] => 0
  | x :: r => uptoBulkEntry x + uptoBulkEntries r
def uptoBulkEntry {H : Type} : Lit × DataW H → Nat
  | (.string bytes, d) => bytes.length + uptoBulk d + 1
  | (_, d) => uptoBulk d + 1
 end
def uptoSmall : (H : Type) → List (DataW H) → Bool := fun _ ds => decide (uptoBulkAll ds ≤ 1048576)
def OpenSpec.upto (s : _root_.Go.ChangeSpec) : _root_.Go.OpenSpec := { _root_.Go.OpenSpec.ofChange s with cond := some uptoSmall }

/-- 'laws.FnExactConstants', WHERE WHAT IT READS IS OF BULK AT MOST 1048576: true; the input reads as it did. -/
def fnExactConstantsUptoRow : OpenClaim := { program := "ytlilnhlkfooihaa", sum := "b1cd0b8493745081c73273e6469388b98979e523003951f190b95b92ccac01a8", func := "loop.example/g03317/laws.FnExactConstants", spec := "fnExactConstants", apart := false, narrowed := true }
def FnExactConstantsUptoSaid : Prop := fnExactConstantsUptoRow.holds Try.pinned (OpenSpec.upto fnExactConstantsSpec)

/-- 'laws.FnExactNextRandom', WHERE WHAT IT READS IS OF BULK AT MOST 1048576: true; the input reads as it did. -/
def fnExactNextRandomUptoRow : OpenClaim := { program := "ytlilnhlkfooihaa", sum := "b1cd0b8493745081c73273e6469388b98979e523003951f190b95b92ccac01a8", func := "loop.example/g03317/laws.FnExactNextRandom", spec := "fnExactNextRandom", apart := false, narrowed := true }
def FnExactNextRandomUptoSaid : Prop := fnExactNextRandomUptoRow.holds Try.pinned (OpenSpec.upto fnExactNextRandomSpec)

/-- 'laws.FnExactClamp', WHERE WHAT IT READS IS OF BULK AT MOST 1048576: true; the input reads as it did. -/
def fnExactClampUptoRow : OpenClaim := { program := "ytlilnhlkfooihaa", sum := "b1cd0b8493745081c73273e6469388b98979e523003951f190b95b92ccac01a8", func := "loop.example/g03317/laws.FnExactClamp", spec := "fnExactClamp", apart := false, narrowed := true }
def FnExactClampUptoSaid : Prop := fnExactClampUptoRow.holds Try.pinned (OpenSpec.upto fnExactClampSpec)

/-- 'laws.FnExactRuleOk', WHERE WHAT IT READS IS OF BULK AT MOST 1048576: true; the input reads as it did. -/
def fnExactRuleOkUptoRow : OpenClaim := { program := "ytlilnhlkfooihaa", sum := "b1cd0b8493745081c73273e6469388b98979e523003951f190b95b92ccac01a8", func := "loop.example/g03317/laws.FnExactRuleOk", spec := "fnExactRuleOk", apart := false, narrowed := true }
def FnExactRuleOkUptoSaid : Prop := fnExactRuleOkUptoRow.holds Try.pinned (OpenSpec.upto fnExactRuleOkSpec)

/-- 'laws.FnExactFloorDiv', WHERE WHAT IT READS IS OF BULK AT MOST 1048576: true; the input reads as it did. -/
def fnExactFloorDivUptoRow : OpenClaim := { program := "ytlilnhlkfooihaa", sum := "b1cd0b8493745081c73273e6469388b98979e523003951f190b95b92ccac01a8", func := "loop.example/g03317/laws.FnExactFloorDiv", spec := "fnExactFloorDiv", apart := false, narrowed := true }
def FnExactFloorDivUptoSaid : Prop := fnExactFloorDivUptoRow.holds Try.pinned (OpenSpec.upto fnExactFloorDivSpec)

/-- 'laws.FnExactWeirOk', WHERE WHAT IT READS IS OF BULK AT MOST 1048576: true; the input reads as it did. -/
def fnExactWeirOkUptoRow : OpenClaim := { program := "ytlilnhlkfooihaa", sum := "b1cd0b8493745081c73273e6469388b98979e523003951f190b95b92ccac01a8", func := "loop.example/g03317/laws.FnExactWeirOk", spec := "fnExactWeirOk", apart := false, narrowed := true }
def FnExactWeirOkUptoSaid : Prop := fnExactWeirOkUptoRow.holds Try.pinned (OpenSpec.upto fnExactWeirOkSpec)

/-- 'laws.FnExactRandomBelow', WHERE WHAT IT READS IS OF BULK AT MOST 1048576: true; the input reads as it did. -/
def fnExactRandomBelowUptoRow : OpenClaim := { program := "ytlilnhlkfooihaa", sum := "b1cd0b8493745081c73273e6469388b98979e523003951f190b95b92ccac01a8", func := "loop.example/g03317/laws.FnExactRandomBelow", spec := "fnExactRandomBelow", apart := false, narrowed := true }
def FnExactRandomBelowUptoSaid : Prop := fnExactRandomBelowUptoRow.holds Try.pinned (OpenSpec.upto fnExactRandomBelowSpec)

/-- 'laws.FnExactWantedFlow', WHERE WHAT IT READS IS OF BULK AT MOST 1048576: true; the input reads as it did. -/
def fnExactWantedFlowUptoRow : OpenClaim := { program := "ytlilnhlkfooihaa", sum := "b1cd0b8493745081c73273e6469388b98979e523003951f190b95b92ccac01a8", func := "loop.example/g03317/laws.FnExactWantedFlow", spec := "fnExactWantedFlow", apart := false, narrowed := true }
def FnExactWantedFlowUptoSaid : Prop := fnExactWantedFlowUptoRow.holds Try.pinned (OpenSpec.upto fnExactWantedFlowSpec)

/-- 'laws.FnExactRootOf', WHERE WHAT IT READS IS OF BULK AT MOST 1048576: true; the input reads as it did. -/
def fnExactRootOfUptoRow : OpenClaim := { program := "ytlilnhlkfooihaa", sum := "b1cd0b8493745081c73273e6469388b98979e523003951f190b95b92ccac01a8", func := "loop.example/g03317/laws.FnExactRootOf", spec := "fnExactRootOf", apart := false, narrowed := true }
def FnExactRootOfUptoSaid : Prop := fnExactRootOfUptoRow.holds Try.pinned (OpenSpec.upto fnExactRootOfSpec)

/-- 'laws.FnQuotients', WHERE WHAT IT READS IS OF BULK AT MOST 1048576: true; the input reads as it did. -/
def fnQuotientsUptoRow : OpenClaim := { program := "ytlilnhlkfooihaa", sum := "b1cd0b8493745081c73273e6469388b98979e523003951f190b95b92ccac01a8", func := "loop.example/g03317/laws.FnQuotients", spec := "fnQuotients", apart := false, narrowed := true }
def FnQuotientsUptoSaid : Prop := fnQuotientsUptoRow.holds Try.pinned (OpenSpec.upto fnQuotientsSpec)

/-- 'laws.FnClamped', WHERE WHAT IT READS IS OF BULK AT MOST 1048576: true; the input reads as it did. -/
def fnClampedUptoRow : OpenClaim := { program := "ytlilnhlkfooihaa", sum := "b1cd0b8493745081c73273e6469388b98979e523003951f190b95b92ccac01a8", func := "loop.example/g03317/laws.FnClamped", spec := "fnClamped", apart := false, narrowed := true }
def FnClampedUptoSaid : Prop := fnClampedUptoRow.holds Try.pinned (OpenSpec.upto fnClampedSpec)

/-- 'laws.FnExactMoveGate', WHERE WHAT IT READS IS OF BULK AT MOST 1048576: true; the input reads as it did. -/
def fnExactMoveGateUptoRow : OpenClaim := { program := "ytlilnhlkfooihaa", sum := "b1cd0b8493745081c73273e6469388b98979e523003951f190b95b92ccac01a8", func := "loop.example/g03317/laws.FnExactMoveGate", spec := "fnExactMoveGate", apart := false, narrowed := true }
def FnExactMoveGateUptoSaid : Prop := fnExactMoveGateUptoRow.holds Try.pinned (OpenSpec.upto fnExactMoveGateSpec)

/-- 'laws.FnExactGateFlow', WHERE WHAT IT READS IS OF BULK AT MOST 1048576: true; the input reads as it did. -/
def fnExactGateFlowUptoRow : OpenClaim := { program := "ytlilnhlkfooihaa", sum := "b1cd0b8493745081c73273e6469388b98979e523003951f190b95b92ccac01a8", func := "loop.example/g03317/laws.FnExactGateFlow", spec := "fnExactGateFlow", apart := false, narrowed := true }
def FnExactGateFlowUptoSaid : Prop := fnExactGateFlowUptoRow.holds Try.pinned (OpenSpec.upto fnExactGateFlowSpec)

/-- 'laws.FnGates', WHERE WHAT IT READS IS OF BULK AT MOST 1048576: true; the input reads as it did. -/
def fnGatesUptoRow : OpenClaim := { program := "ytlilnhlkfooihaa", sum := "b1cd0b8493745081c73273e6469388b98979e523003951f190b95b92ccac01a8", func := "loop.example/g03317/laws.FnGates", spec := "fnGates", apart := false, narrowed := true }
def FnGatesUptoSaid : Prop := fnGatesUptoRow.holds Try.pinned (OpenSpec.upto fnGatesSpec)

/-- 'laws.FnExactOpenFor', WHERE WHAT IT READS IS OF BULK AT MOST 1048576: true; the input reads as it did. -/
def fnExactOpenForUptoRow : OpenClaim := { program := "ytlilnhlkfooihaa", sum := "b1cd0b8493745081c73273e6469388b98979e523003951f190b95b92ccac01a8", func := "loop.example/g03317/laws.FnExactOpenFor", spec := "fnExactOpenFor", apart := false, narrowed := true }
def FnExactOpenForUptoSaid : Prop := fnExactOpenForUptoRow.holds Try.pinned (OpenSpec.upto fnExactOpenForSpec)

/-- 'laws.FnGateSteps', WHERE WHAT IT READS IS OF BULK AT MOST 1048576: true; the input reads as it did. -/
def fnGateStepsUptoRow : OpenClaim := { program := "ytlilnhlkfooihaa", sum := "b1cd0b8493745081c73273e6469388b98979e523003951f190b95b92ccac01a8", func := "loop.example/g03317/laws.FnGateSteps", spec := "fnGateSteps", apart := false, narrowed := true }
def FnGateStepsUptoSaid : Prop := fnGateStepsUptoRow.holds Try.pinned (OpenSpec.upto fnGateStepsSpec)

/-- 'laws.FnExactSteerWeir', WHERE WHAT IT READS IS OF BULK AT MOST 1048576: true; the input reads as it did. -/
def fnExactSteerWeirUptoRow : OpenClaim := { program := "ytlilnhlkfooihaa", sum := "b1cd0b8493745081c73273e6469388b98979e523003951f190b95b92ccac01a8", func := "loop.example/g03317/laws.FnExactSteerWeir", spec := "fnExactSteerWeir", apart := false, narrowed := true }
def FnExactSteerWeirUptoSaid : Prop := fnExactSteerWeirUptoRow.holds Try.pinned (OpenSpec.upto fnExactSteerWeirSpec)

end Rows
end Go.Proofs.Ytlilnhlkfooihaa
