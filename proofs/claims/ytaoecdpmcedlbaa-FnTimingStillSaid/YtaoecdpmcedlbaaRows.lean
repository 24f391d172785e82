/-
  No cell of these rows narrows 'for every input' (looked for: loops, veiled, ifaces, maps, wideKeys, modest, calm, conditions, laid).
  DERIVED. THE GIVEN ROWS OF THIS SEAT. 9 by the template 'for every input the law returns true; each argument reads behind the call as it read before'; 0 by the template 'total and deterministic' (their statements: YtaoecdpmcedlbaaTotals.lean).
  GIVEN WITH THE SEED: the statements are not yours to turn. If you find one false, say at which input.
  Laid BY PROGRAM, IN A SANDBOX (cutbox-rows.mjs): the forced cells as the released guide's own fill.sh prints them over the translation 69f8350cf942d248… (all of the seat's roots in one cut). By AI agents, Wed Nov 11 2026. No macro, syntax, notation, axiom, sorry.
-/
import Derived.Test.YtaoecdpmcedlbaaChecked
import GoSem.Claim
import GoSem.ClaimJoined
import GoSem.ClaimMapViews
import Derived.JoinedTies
import Derived.KernelRfl
namespace Go.Proofs.Ytaoecdpmcedlbaa
/- THE CELL 'sum', in the pinned program and in every row, IS THE sha256 OF THE DUMP (.gsa) THAT YtaoecdpmcedlbaaProg.lean LOADS. Nothing in Lean hashes anything: it is a label: what it is worth is what the hold of that sum in a sandbox is worth. -/
noncomputable def Try.pinned : Pinned := { name := "ytaoecdpmcedlbaa", sum := "69f8350cf942d2482613e244a2bfce379de7a0de45905d0d89bc932178068a80", checked := Try.checked }
namespace Rows
def none {H : Type} : Left H := { results := [], args := [] }

/-- 'laws.FnExactTimingValid': WHATEVER THE INPUT: true; the input reads as it did. -/
def fnExactTimingValidSpec : ChangeSpec := { name := "fnExactTimingValid", fn := fun _ => fun
  | [d] => { results := [.lit (.bool true)], args := [d] }
  | _ => none }
def fnExactTimingValidRow : OpenClaim := { program := "ytaoecdpmcedlbaa", sum := "69f8350cf942d2482613e244a2bfce379de7a0de45905d0d89bc932178068a80", func := "loop.example/loadbalancer/laws.FnExactTimingValid", spec := "fnExactTimingValid", apart := false }
def FnExactTimingValidSaid : Prop := fnExactTimingValidRow.holds Try.pinned (OpenSpec.ofChange fnExactTimingValidSpec)

/-- ITS FALSE NEIGHBOUR: 'it returns false'. Refute it at one input. -/
def fnExactTimingValidWrong : ChangeSpec := { name := "fnExactTimingValid", fn := fun _ => fun
  | [d] => { results := [.lit (.bool false)], args := [d] }
  | _ => none }
def FnExactTimingValidWrongFalsely : Prop := fnExactTimingValidRow.holds Try.pinned (OpenSpec.ofChange fnExactTimingValidWrong)

/-- 'laws.FnExactWaitOf': WHATEVER THE INPUT: true; the input reads as it did. -/
def fnExactWaitOfSpec : ChangeSpec := { name := "fnExactWaitOf", fn := fun _ => fun
  | [d] => { results := [.lit (.bool true)], args := [d] }
  | _ => none }
def fnExactWaitOfRow : OpenClaim := { program := "ytaoecdpmcedlbaa", sum := "69f8350cf942d2482613e244a2bfce379de7a0de45905d0d89bc932178068a80", func := "loop.example/loadbalancer/laws.FnExactWaitOf", spec := "fnExactWaitOf", apart := false }
def FnExactWaitOfSaid : Prop := fnExactWaitOfRow.holds Try.pinned (OpenSpec.ofChange fnExactWaitOfSpec)

/-- ITS FALSE NEIGHBOUR: 'it returns false'. Refute it at one input. -/
def fnExactWaitOfWrong : ChangeSpec := { name := "fnExactWaitOf", fn := fun _ => fun
  | [d] => { results := [.lit (.bool false)], args := [d] }
  | _ => none }
def FnExactWaitOfWrongFalsely : Prop := fnExactWaitOfRow.holds Try.pinned (OpenSpec.ofChange fnExactWaitOfWrong)

/-- 'laws.FnTimingValid': WHATEVER THE INPUT: true; the input reads as it did. -/
def fnTimingValidSpec : ChangeSpec := { name := "fnTimingValid", fn := fun _ => fun
  | [d] => { results := [.lit (.bool true)], args := [d] }
  | _ => none }
def fnTimingValidRow : OpenClaim := { program := "ytaoecdpmcedlbaa", sum := "69f8350cf942d2482613e244a2bfce379de7a0de45905d0d89bc932178068a80", func := "loop.example/loadbalancer/laws.FnTimingValid", spec := "fnTimingValid", apart := false }
def FnTimingValidSaid : Prop := fnTimingValidRow.holds Try.pinned (OpenSpec.ofChange fnTimingValidSpec)

/-- ITS FALSE NEIGHBOUR: 'it returns false'. Refute it at one input. -/
def fnTimingValidWrong : ChangeSpec := { name := "fnTimingValid", fn := fun _ => fun
  | [d] => { results := [.lit (.bool false)], args := [d] }
  | _ => none }
def FnTimingValidWrongFalsely : Prop := fnTimingValidRow.holds Try.pinned (OpenSpec.ofChange fnTimingValidWrong)

/-- 'laws.FnExactTimingStep': WHATEVER THE INPUT: true; the input reads as it did. -/
def fnExactTimingStepSpec : ChangeSpec := { name := "fnExactTimingStep", fn := fun _ => fun
  | [d1, d2] => { results := [.lit (.bool true)], args := [d1, d2] }
  | _ => none }
def fnExactTimingStepRow : OpenClaim := { program := "ytaoecdpmcedlbaa", sum := "69f8350cf942d2482613e244a2bfce379de7a0de45905d0d89bc932178068a80", func := "loop.example/loadbalancer/laws.FnExactTimingStep", spec := "fnExactTimingStep", apart := false }
def FnExactTimingStepSaid : Prop := fnExactTimingStepRow.holds Try.pinned (OpenSpec.ofChange fnExactTimingStepSpec)

/-- ITS FALSE NEIGHBOUR: 'it returns false'. Refute it at one input. -/
def fnExactTimingStepWrong : ChangeSpec := { name := "fnExactTimingStep", fn := fun _ => fun
  | [d1, d2] => { results := [.lit (.bool false)], args := [d1, d2] }
  | _ => none }
def FnExactTimingStepWrongFalsely : Prop := fnExactTimingStepRow.holds Try.pinned (OpenSpec.ofChange fnExactTimingStepWrong)

/-- 'laws.FnWaitOf': WHATEVER THE INPUT: true; the input reads as it did. -/
def fnWaitOfSpec : ChangeSpec := { name := "fnWaitOf", fn := fun _ => fun
  | [d] => { results := [.lit (.bool true)], args := [d] }
  | _ => none }
def fnWaitOfRow : OpenClaim := { program := "ytaoecdpmcedlbaa", sum := "69f8350cf942d2482613e244a2bfce379de7a0de45905d0d89bc932178068a80", func := "loop.example/loadbalancer/laws.FnWaitOf", spec := "fnWaitOf", apart := false }
def FnWaitOfSaid : Prop := fnWaitOfRow.holds Try.pinned (OpenSpec.ofChange fnWaitOfSpec)

/-- ITS FALSE NEIGHBOUR: 'it returns false'. Refute it at one input. -/
def fnWaitOfWrong : ChangeSpec := { name := "fnWaitOf", fn := fun _ => fun
  | [d] => { results := [.lit (.bool false)], args := [d] }
  | _ => none }
def FnWaitOfWrongFalsely : Prop := fnWaitOfRow.holds Try.pinned (OpenSpec.ofChange fnWaitOfWrong)

/-- 'laws.FnTimingStep': WHATEVER THE INPUT: true; the input reads as it did. -/
def fnTimingStepSpec : ChangeSpec := { name := "fnTimingStep", fn := fun _ => fun
  | [d] => { results := [.lit (.bool true)], args := [d] }
  | _ => none }
def fnTimingStepRow : OpenClaim := { program := "ytaoecdpmcedlbaa", sum := "69f8350cf942d2482613e244a2bfce379de7a0de45905d0d89bc932178068a80", func := "loop.example/loadbalancer/laws.FnTimingStep", spec := "fnTimingStep", apart := false }
def FnTimingStepSaid : Prop := fnTimingStepRow.holds Try.pinned (OpenSpec.ofChange fnTimingStepSpec)

/-- ITS FALSE NEIGHBOUR: 'it returns false'. Refute it at one input. -/
def fnTimingStepWrong : ChangeSpec := { name := "fnTimingStep", fn := fun _ => fun
  | [d] => { results := [.lit (.bool false)], args := [d] }
  | _ => none }
def FnTimingStepWrongFalsely : Prop := fnTimingStepRow.holds Try.pinned (OpenSpec.ofChange fnTimingStepWrong)

/-- 'laws.FnTimingStill': WHATEVER THE INPUT: true; the input reads as it did. -/
def fnTimingStillSpec : ChangeSpec := { name := "fnTimingStill", fn := fun _ => fun
  | [d] => { results := [.lit (.bool true)], args := [d] }
  | _ => none }
def fnTimingStillRow : OpenClaim := { program := "ytaoecdpmcedlbaa", sum := "69f8350cf942d2482613e244a2bfce379de7a0de45905d0d89bc932178068a80", func := "loop.example/loadbalancer/laws.FnTimingStill", spec := "fnTimingStill", apart := false }
def FnTimingStillSaid : Prop := fnTimingStillRow.holds Try.pinned (OpenSpec.ofChange fnTimingStillSpec)

/-- ITS FALSE NEIGHBOUR: 'it returns false'. Refute it at one input. -/
def fnTimingStillWrong : ChangeSpec := { name := "fnTimingStill", fn := fun _ => fun
  | [d] => { results := [.lit (.bool false)], args := [d] }
  | _ => none }
def FnTimingStillWrongFalsely : Prop := fnTimingStillRow.holds Try.pinned (OpenSpec.ofChange fnTimingStillWrong)

/-- 'laws.FnExactTimingRun': WHATEVER THE INPUT: true; the input reads as it did. -/
def fnExactTimingRunSpec : ChangeSpec := { name := "fnExactTimingRun", fn := fun _ => fun
  | [d] => { results := [.lit (.bool true)], args := [d] }
  | _ => none }
def fnExactTimingRunRow : OpenClaim := { program := "ytaoecdpmcedlbaa", sum := "69f8350cf942d2482613e244a2bfce379de7a0de45905d0d89bc932178068a80", func := "loop.example/loadbalancer/laws.FnExactTimingRun", spec := "fnExactTimingRun", apart := false }
def FnExactTimingRunSaid : Prop := fnExactTimingRunRow.holds Try.pinned (OpenSpec.ofChange fnExactTimingRunSpec)

/-- ITS FALSE NEIGHBOUR: 'it returns false'. Refute it at one input. -/
def fnExactTimingRunWrong : ChangeSpec := { name := "fnExactTimingRun", fn := fun _ => fun
  | [d] => { results := [.lit (.bool false)], args := [d] }
  | _ => none }
def FnExactTimingRunWrongFalsely : Prop := fnExactTimingRunRow.holds Try.pinned (OpenSpec.ofChange fnExactTimingRunWrong)

/-- 'laws.FnTimingRun': WHATEVER THE INPUT: true; the input reads as it did. -/
def fnTimingRunSpec : ChangeSpec := { name := "fnTimingRun", fn := fun _ => fun
  | [d] => { results := [.lit (.bool true)], args := [d] }
  | _ => none }
def fnTimingRunRow : OpenClaim := { program := "ytaoecdpmcedlbaa", sum := "69f8350cf942d2482613e244a2bfce379de7a0de45905d0d89bc932178068a80", func := "loop.example/loadbalancer/laws.FnTimingRun", spec := "fnTimingRun", apart := false }
def FnTimingRunSaid : Prop := fnTimingRunRow.holds Try.pinned (OpenSpec.ofChange fnTimingRunSpec)

/-- ITS FALSE NEIGHBOUR: 'it returns false'. Refute it at one input. -/
def fnTimingRunWrong : ChangeSpec := { name := "fnTimingRun", fn := fun _ => fun
  | [d] => { results := [.lit (.bool false)], args := [d] }
  | _ => none }
def FnTimingRunWrongFalsely : Prop := fnTimingRunRow.holds Try.pinned (OpenSpec.ofChange fnTimingRunWrong)

/- THE SECOND FORM. 'bulk': how many values and letters a reading holds, each counted each time it is reached (what is shared counts as often as it is met; a slice's spare places count too). A statement '..UptoSaid' is the law's where the arguments, and the package variables that the reading takes, are together of bulk at most 1048576: NARROWER than '..Said'. Prove '..Said' where nothing that the law and all that it calls make is longer than what came in: it says more and counts as full. Else prove '..UptoSaid'. A law counts once. -/
mutual
def uptoBulk {H : Type} : DataW H → Nat
  | .lit (.string bytes) => bytes.length + 1
  | .lit _ => 1
  | .nil => 1
  | .ptr d => uptoBulk d + 1
  | .slice elems spare => uptoBulkAll elems + uptoBulkAll spare + 1
  | .agg parts => uptoBulkAll parts + 1
  | .iface _ d => uptoBulk d + 1
  | .map entries => uptoBulkEntries entries + 1
  | .held _ => 1
def uptoBulkAll {H : Type} : List (DataW H) → Nat
  | [] => 0
  | d :: r => uptoBulk d + uptoBulkAll r
def uptoBulkEntries {H : Type} : List (Lit × DataW H) → Nat
  | [] => 0
  | x :: r => uptoBulkEntry x + uptoBulkEntries r
def uptoBulkEntry {H : Type} : Lit × DataW H → Nat
  | (.string bytes, d) => bytes.length + uptoBulk d + 1
  | (_, d) => uptoBulk d + 1
 end
def uptoSmall : (H : Type) → List (DataW H) → Bool := fun _ ds => decide (uptoBulkAll ds ≤ 1048576)
def OpenSpec.upto (s : _root_.Go.ChangeSpec) : _root_.Go.OpenSpec := { _root_.Go.OpenSpec.ofChange s with cond := some uptoSmall }

/-- 'laws.FnExactTimingValid', WHERE WHAT IT READS IS OF BULK AT MOST 1048576: true; the input reads as it did. -/
def fnExactTimingValidUptoRow : OpenClaim := { program := "ytaoecdpmcedlbaa", sum := "69f8350cf942d2482613e244a2bfce379de7a0de45905d0d89bc932178068a80", func := "loop.example/loadbalancer/laws.FnExactTimingValid", spec := "fnExactTimingValid", apart := false, narrowed := true }
def FnExactTimingValidUptoSaid : Prop := fnExactTimingValidUptoRow.holds Try.pinned (OpenSpec.upto fnExactTimingValidSpec)

/-- 'laws.FnExactWaitOf', WHERE WHAT IT READS IS OF BULK AT MOST 1048576: true; the input reads as it did. -/
def fnExactWaitOfUptoRow : OpenClaim := { program := "ytaoecdpmcedlbaa", sum := "69f8350cf942d2482613e244a2bfce379de7a0de45905d0d89bc932178068a80", func := "loop.example/loadbalancer/laws.FnExactWaitOf", spec := "fnExactWaitOf", apart := false, narrowed := true }
def FnExactWaitOfUptoSaid : Prop := fnExactWaitOfUptoRow.holds Try.pinned (OpenSpec.upto fnExactWaitOfSpec)

/-- 'laws.FnTimingValid', WHERE WHAT IT READS IS OF BULK AT MOST 1048576: true; the input reads as it did. -/
def fnTimingValidUptoRow : OpenClaim := { program := "ytaoecdpmcedlbaa", sum := "69f8350cf942d2482613e244a2bfce379de7a0de45905d0d89bc932178068a80", func := "loop.example/loadbalancer/laws.FnTimingValid", spec := "fnTimingValid", apart := false, narrowed := true }
def FnTimingValidUptoSaid : Prop := fnTimingValidUptoRow.holds Try.pinned (OpenSpec.upto fnTimingValidSpec)

/-- 'laws.FnExactTimingStep', WHERE WHAT IT READS IS OF BULK AT MOST 1048576: true; the input reads as it did. -/
def fnExactTimingStepUptoRow : OpenClaim := { program := "ytaoecdpmcedlbaa", sum := "69f8350cf942d2482613e244a2bfce379de7a0de45905d0d89bc932178068a80", func := "loop.example/loadbalancer/laws.FnExactTimingStep", spec := "fnExactTimingStep", apart := false, narrowed := true }
def FnExactTimingStepUptoSaid : Prop := fnExactTimingStepUptoRow.holds Try.pinned (OpenSpec.upto fnExactTimingStepSpec)

/-- 'laws.FnWaitOf', WHERE WHAT IT READS IS OF BULK AT MOST 1048576: true; the input reads as it did. -/
def fnWaitOfUptoRow : OpenClaim := { program := "ytaoecdpmcedlbaa", sum := "69f8350cf942d2482613e244a2bfce379de7a0de45905d0d89bc932178068a80", func := "loop.example/loadbalancer/laws.FnWaitOf", spec := "fnWaitOf", apart := false, narrowed := true }
def FnWaitOfUptoSaid : Prop := fnWaitOfUptoRow.holds Try.pinned (OpenSpec.upto fnWaitOfSpec)

/-- 'laws.FnTimingStep', WHERE WHAT IT READS IS OF BULK AT MOST 1048576: true; the input reads as it did. -/
def fnTimingStepUptoRow : OpenClaim := { program := "ytaoecdpmcedlbaa", sum := "69f8350cf942d2482613e244a2bfce379de7a0de45905d0d89bc932178068a80", func := "loop.example/loadbalancer/laws.FnTimingStep", spec := "fnTimingStep", apart := false, narrowed := true }
def FnTimingStepUptoSaid : Prop := fnTimingStepUptoRow.holds Try.pinned (OpenSpec.upto fnTimingStepSpec)

/-- 'laws.FnTimingStill', WHERE WHAT IT READS IS OF BULK AT MOST 1048576: true; the input reads as it did. -/
def fnTimingStillUptoRow : OpenClaim := { program := "ytaoecdpmcedlbaa", sum := "69f8350cf942d2482613e244a2bfce379de7a0de45905d0d89bc932178068a80", func := "loop.example/loadbalancer/laws.FnTimingStill", spec := "fnTimingStill", apart := false, narrowed := true }
def FnTimingStillUptoSaid : Prop := fnTimingStillUptoRow.holds Try.pinned (OpenSpec.upto fnTimingStillSpec)

/-- 'laws.FnExactTimingRun', WHERE WHAT IT READS IS OF BULK AT MOST 1048576: true; the input reads as it did. -/
def fnExactTimingRunUptoRow : OpenClaim := { program := "ytaoecdpmcedlbaa", sum := "69f8350cf942d2482613e244a2bfce379de7a0de45905d0d89bc932178068a80", func := "loop.example/loadbalancer/laws.FnExactTimingRun", spec := "fnExactTimingRun", apart := false, narrowed := true }
def FnExactTimingRunUptoSaid : Prop := fnExactTimingRunUptoRow.holds Try.pinned (OpenSpec.upto fnExactTimingRunSpec)

/-- 'laws.FnTimingRun', WHERE WHAT IT READS IS OF BULK AT MOST 1048576: true; the input reads as it did. -/
def fnTimingRunUptoRow : OpenClaim := { program := "ytaoecdpmcedlbaa", sum := "69f8350cf942d2482613e244a2bfce379de7a0de45905d0d89bc932178068a80", func := "loop.example/loadbalancer/laws.FnTimingRun", spec := "fnTimingRun", apart := false, narrowed := true }
def FnTimingRunUptoSaid : Prop := fnTimingRunUptoRow.holds Try.pinned (OpenSpec.upto fnTimingRunSpec)

end Rows
end Go.Proofs.Ytaoecdpmcedlbaa
