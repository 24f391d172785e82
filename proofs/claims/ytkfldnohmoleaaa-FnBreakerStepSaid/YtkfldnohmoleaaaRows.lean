/-
  No cell of these rows narrows 'for every input' (looked for: loops, veiled, ifaces, maps, wideKeys, modest, calm, conditions, laid).
  DERIVED. THE GIVEN ROWS OF THIS SEAT. 9 by the template 'for every input the law returns true; each argument reads behind the call as it read before'; 0 by the template 'total and deterministic' (their statements: YtkfldnohmoleaaaTotals.lean).
  GIVEN WITH THE SEED: the statements are not yours to turn. If you find one false, say at which input.
  Laid BY PROGRAM, IN A SANDBOX (cutbox-rows.mjs): the forced cells as the released guide's own fill.sh prints them over the translation 1b6d1756270b3793… (all of the seat's roots in one cut). By AI agents, Wed Nov 11 2026. No macro, syntax, notation, axiom, sorry.
-/
import Derived.Test.YtkfldnohmoleaaaChecked
import GoSem.Claim
import GoSem.ClaimJoined
import GoSem.ClaimMapViews
import Derived.JoinedTies
import Derived.KernelRfl
namespace Go.Proofs.Ytkfldnohmoleaaa
/- THE CELL 'sum', in the pinned program and in every row, IS THE sha256 OF THE DUMP (.gsa) THAT YtkfldnohmoleaaaProg.lean LOADS. Nothing in Lean hashes anything: it is a label: what it is worth is what the hold of that sum in a sandbox is worth. -/
noncomputable def Try.pinned : Pinned := { name := "ytkfldnohmoleaaa", sum := "1b6d1756270b379318e734285a5492146233e20f71b3045ee023efbb63a02eba", checked := Try.checked }
namespace Rows
def none {H : Type} : Left H := { results := [], args := [] }

/-- 'laws.FnExactBreakerValid': WHATEVER THE INPUT: true; the input reads as it did. -/
def fnExactBreakerValidSpec : ChangeSpec := { name := "fnExactBreakerValid", fn := fun _ => fun
  | [d] => { results := [.lit (.bool true)], args := [d] }
  | _ => none }
def fnExactBreakerValidRow : OpenClaim := { program := "ytkfldnohmoleaaa", sum := "1b6d1756270b379318e734285a5492146233e20f71b3045ee023efbb63a02eba", func := "loop.example/loadbalancer/laws.FnExactBreakerValid", spec := "fnExactBreakerValid", apart := false }
def FnExactBreakerValidSaid : Prop := fnExactBreakerValidRow.holds Try.pinned (OpenSpec.ofChange fnExactBreakerValidSpec)

/-- ITS FALSE NEIGHBOUR: 'it returns false'. Refute it at one input. -/
def fnExactBreakerValidWrong : ChangeSpec := { name := "fnExactBreakerValid", fn := fun _ => fun
  | [d] => { results := [.lit (.bool false)], args := [d] }
  | _ => none }
def FnExactBreakerValidWrongFalsely : Prop := fnExactBreakerValidRow.holds Try.pinned (OpenSpec.ofChange fnExactBreakerValidWrong)

/-- 'laws.FnExactBreakerAllows': WHATEVER THE INPUT: true; the input reads as it did. -/
def fnExactBreakerAllowsSpec : ChangeSpec := { name := "fnExactBreakerAllows", fn := fun _ => fun
  | [d1, d2] => { results := [.lit (.bool true)], args := [d1, d2] }
  | _ => none }
def fnExactBreakerAllowsRow : OpenClaim := { program := "ytkfldnohmoleaaa", sum := "1b6d1756270b379318e734285a5492146233e20f71b3045ee023efbb63a02eba", func := "loop.example/loadbalancer/laws.FnExactBreakerAllows", spec := "fnExactBreakerAllows", apart := false }
def FnExactBreakerAllowsSaid : Prop := fnExactBreakerAllowsRow.holds Try.pinned (OpenSpec.ofChange fnExactBreakerAllowsSpec)

/-- ITS FALSE NEIGHBOUR: 'it returns false'. Refute it at one input. -/
def fnExactBreakerAllowsWrong : ChangeSpec := { name := "fnExactBreakerAllows", fn := fun _ => fun
  | [d1, d2] => { results := [.lit (.bool false)], args := [d1, d2] }
  | _ => none }
def FnExactBreakerAllowsWrongFalsely : Prop := fnExactBreakerAllowsRow.holds Try.pinned (OpenSpec.ofChange fnExactBreakerAllowsWrong)

/-- 'laws.FnBreakerValid': WHATEVER THE INPUT: true; the input reads as it did. -/
def fnBreakerValidSpec : ChangeSpec := { name := "fnBreakerValid", fn := fun _ => fun
  | [d] => { results := [.lit (.bool true)], args := [d] }
  | _ => none }
def fnBreakerValidRow : OpenClaim := { program := "ytkfldnohmoleaaa", sum := "1b6d1756270b379318e734285a5492146233e20f71b3045ee023efbb63a02eba", func := "loop.example/loadbalancer/laws.FnBreakerValid", spec := "fnBreakerValid", apart := false }
def FnBreakerValidSaid : Prop := fnBreakerValidRow.holds Try.pinned (OpenSpec.ofChange fnBreakerValidSpec)

/-- ITS FALSE NEIGHBOUR: 'it returns false'. Refute it at one input. -/
def fnBreakerValidWrong : ChangeSpec := { name := "fnBreakerValid", fn := fun _ => fun
  | [d] => { results := [.lit (.bool false)], args := [d] }
  | _ => none }
def FnBreakerValidWrongFalsely : Prop := fnBreakerValidRow.holds Try.pinned (OpenSpec.ofChange fnBreakerValidWrong)

/-- 'laws.FnBreakerAllows': WHATEVER THE INPUT: true; the input reads as it did. -/
def fnBreakerAllowsSpec : ChangeSpec := { name := "fnBreakerAllows", fn := fun _ => fun
  | [d] => { results := [.lit (.bool true)], args := [d] }
  | _ => none }
def fnBreakerAllowsRow : OpenClaim := { program := "ytkfldnohmoleaaa", sum := "1b6d1756270b379318e734285a5492146233e20f71b3045ee023efbb63a02eba", func := "loop.example/loadbalancer/laws.FnBreakerAllows", spec := "fnBreakerAllows", apart := false }
def FnBreakerAllowsSaid : Prop := fnBreakerAllowsRow.holds Try.pinned (OpenSpec.ofChange fnBreakerAllowsSpec)

/-- ITS FALSE NEIGHBOUR: 'it returns false'. Refute it at one input. -/
def fnBreakerAllowsWrong : ChangeSpec := { name := "fnBreakerAllows", fn := fun _ => fun
  | [d] => { results := [.lit (.bool false)], args := [d] }
  | _ => none }
def FnBreakerAllowsWrongFalsely : Prop := fnBreakerAllowsRow.holds Try.pinned (OpenSpec.ofChange fnBreakerAllowsWrong)

/-- 'laws.FnExactBreakerStep': WHATEVER THE INPUT: true; the input reads as it did. -/
def fnExactBreakerStepSpec : ChangeSpec := { name := "fnExactBreakerStep", fn := fun _ => fun
  | [d1, d2, d3, d4, d5] => { results := [.lit (.bool true)], args := [d1, d2, d3, d4, d5] }
  | _ => none }
def fnExactBreakerStepRow : OpenClaim := { program := "ytkfldnohmoleaaa", sum := "1b6d1756270b379318e734285a5492146233e20f71b3045ee023efbb63a02eba", func := "loop.example/loadbalancer/laws.FnExactBreakerStep", spec := "fnExactBreakerStep", apart := false }
def FnExactBreakerStepSaid : Prop := fnExactBreakerStepRow.holds Try.pinned (OpenSpec.ofChange fnExactBreakerStepSpec)

/-- ITS FALSE NEIGHBOUR: 'it returns false'. Refute it at one input. -/
def fnExactBreakerStepWrong : ChangeSpec := { name := "fnExactBreakerStep", fn := fun _ => fun
  | [d1, d2, d3, d4, d5] => { results := [.lit (.bool false)], args := [d1, d2, d3, d4, d5] }
  | _ => none }
def FnExactBreakerStepWrongFalsely : Prop := fnExactBreakerStepRow.holds Try.pinned (OpenSpec.ofChange fnExactBreakerStepWrong)

/-- 'laws.FnBreakerStep': WHATEVER THE INPUT: true; the input reads as it did. -/
def fnBreakerStepSpec : ChangeSpec := { name := "fnBreakerStep", fn := fun _ => fun
  | [d] => { results := [.lit (.bool true)], args := [d] }
  | _ => none }
def fnBreakerStepRow : OpenClaim := { program := "ytkfldnohmoleaaa", sum := "1b6d1756270b379318e734285a5492146233e20f71b3045ee023efbb63a02eba", func := "loop.example/loadbalancer/laws.FnBreakerStep", spec := "fnBreakerStep", apart := false }
def FnBreakerStepSaid : Prop := fnBreakerStepRow.holds Try.pinned (OpenSpec.ofChange fnBreakerStepSpec)

/-- ITS FALSE NEIGHBOUR: 'it returns false'. Refute it at one input. -/
def fnBreakerStepWrong : ChangeSpec := { name := "fnBreakerStep", fn := fun _ => fun
  | [d] => { results := [.lit (.bool false)], args := [d] }
  | _ => none }
def FnBreakerStepWrongFalsely : Prop := fnBreakerStepRow.holds Try.pinned (OpenSpec.ofChange fnBreakerStepWrong)

/-- 'laws.FnBreakerGood': WHATEVER THE INPUT: true; the input reads as it did. -/
def fnBreakerGoodSpec : ChangeSpec := { name := "fnBreakerGood", fn := fun _ => fun
  | [d] => { results := [.lit (.bool true)], args := [d] }
  | _ => none }
def fnBreakerGoodRow : OpenClaim := { program := "ytkfldnohmoleaaa", sum := "1b6d1756270b379318e734285a5492146233e20f71b3045ee023efbb63a02eba", func := "loop.example/loadbalancer/laws.FnBreakerGood", spec := "fnBreakerGood", apart := false }
def FnBreakerGoodSaid : Prop := fnBreakerGoodRow.holds Try.pinned (OpenSpec.ofChange fnBreakerGoodSpec)

/-- ITS FALSE NEIGHBOUR: 'it returns false'. Refute it at one input. -/
def fnBreakerGoodWrong : ChangeSpec := { name := "fnBreakerGood", fn := fun _ => fun
  | [d] => { results := [.lit (.bool false)], args := [d] }
  | _ => none }
def FnBreakerGoodWrongFalsely : Prop := fnBreakerGoodRow.holds Try.pinned (OpenSpec.ofChange fnBreakerGoodWrong)

/-- 'laws.FnBreakerRun': WHATEVER THE INPUT: true; the input reads as it did. -/
def fnBreakerRunSpec : ChangeSpec := { name := "fnBreakerRun", fn := fun _ => fun
  | [d] => { results := [.lit (.bool true)], args := [d] }
  | _ => none }
def fnBreakerRunRow : OpenClaim := { program := "ytkfldnohmoleaaa", sum := "1b6d1756270b379318e734285a5492146233e20f71b3045ee023efbb63a02eba", func := "loop.example/loadbalancer/laws.FnBreakerRun", spec := "fnBreakerRun", apart := false }
def FnBreakerRunSaid : Prop := fnBreakerRunRow.holds Try.pinned (OpenSpec.ofChange fnBreakerRunSpec)

/-- ITS FALSE NEIGHBOUR: 'it returns false'. Refute it at one input. -/
def fnBreakerRunWrong : ChangeSpec := { name := "fnBreakerRun", fn := fun _ => fun
  | [d] => { results := [.lit (.bool false)], args := [d] }
  | _ => none }
def FnBreakerRunWrongFalsely : Prop := fnBreakerRunRow.holds Try.pinned (OpenSpec.ofChange fnBreakerRunWrong)

/-- 'laws.FnExactBreakerRun': WHATEVER THE INPUT: true; the input reads as it did. -/
def fnExactBreakerRunSpec : ChangeSpec := { name := "fnExactBreakerRun", fn := fun _ => fun
  | [d1, d2, d3] => { results := [.lit (.bool true)], args := [d1, d2, d3] }
  | _ => none }
def fnExactBreakerRunRow : OpenClaim := { program := "ytkfldnohmoleaaa", sum := "1b6d1756270b379318e734285a5492146233e20f71b3045ee023efbb63a02eba", func := "loop.example/loadbalancer/laws.FnExactBreakerRun", spec := "fnExactBreakerRun", apart := false }
def FnExactBreakerRunSaid : Prop := fnExactBreakerRunRow.holds Try.pinned (OpenSpec.ofChange fnExactBreakerRunSpec)

/-- ITS FALSE NEIGHBOUR: 'it returns false'. Refute it at one input. -/
def fnExactBreakerRunWrong : ChangeSpec := { name := "fnExactBreakerRun", fn := fun _ => fun
  | [d1, d2, d3] => { results := [.lit (.bool false)], args := [d1, d2, d3] }
  | _ => none }
def FnExactBreakerRunWrongFalsely : Prop := fnExactBreakerRunRow.holds Try.pinned (OpenSpec.ofChange fnExactBreakerRunWrong)

/- THE SECOND FORM. 'bulk': how many values and letters a reading holds, each counted each time it is reached (what is shared counts as often as it is met; a slice's spare places count too). A statement '..UptoSaid' is the law's where the arguments, and the package variables that the reading takes, are together of bulk at most 1048576: NARROWER than '..Said'. Prove '..Said' where nothing that the law and all that it calls make is longer than what came in: it says more and counts as full. Else prove '..UptoSaid'. A law counts once. -/
mutual
def uptoBulk {H : Type} : DataW H → Nat
  | .lit (.string bytes) => bytes.length + 1
  | .lit _ => 1
  | .nil => 1
  | .ptr d => uptoBulk d + 1
  | .slice elems spare => uptoBulkAll elems + uptoBulkAll spare + 1
  | .agg parts => uptoBulkAll parts + 1
  | .iface _ d => uptoBulk d + 1
  | .map entries => uptoBulkEntries entries + 1
  | .held _ => 1
def uptoBulkAll {H : Type} : List (DataW H) → Nat
  | [] => 0
  | d :: r => uptoBulk d + uptoBulkAll r
def uptoBulkEntries {H : Type} : List (Lit × DataW H) → Nat
  | [] => 0
  | x :: r => uptoBulkEntry x + uptoBulkEntries r
def uptoBulkEntry {H : Type} : Lit × DataW H → Nat
  | (.string bytes, d) => bytes.length + uptoBulk d + 1
  | (_, d) => uptoBulk d + 1
 end
def uptoSmall : (H : Type) → List (DataW H) → Bool := fun _ ds => decide (uptoBulkAll ds ≤ 1048576)
def OpenSpec.upto (s : _root_.Go.ChangeSpec) : _root_.Go.OpenSpec := { _root_.Go.OpenSpec.ofChange s with cond := some uptoSmall }

/-- 'laws.FnExactBreakerValid', WHERE WHAT IT READS IS OF BULK AT MOST 1048576: true; the input reads as it did. -/
def fnExactBreakerValidUptoRow : OpenClaim := { program := "ytkfldnohmoleaaa", sum := "1b6d1756270b379318e734285a5492146233e20f71b3045ee023efbb63a02eba", func := "loop.example/loadbalancer/laws.FnExactBreakerValid", spec := "fnExactBreakerValid", apart := false, narrowed := true }
def FnExactBreakerValidUptoSaid : Prop := fnExactBreakerValidUptoRow.holds Try.pinned (OpenSpec.upto fnExactBreakerValidSpec)

/-- 'laws.FnExactBreakerAllows', WHERE WHAT IT READS IS OF BULK AT MOST 1048576: true; the input reads as it did. -/
def fnExactBreakerAllowsUptoRow : OpenClaim := { program := "ytkfldnohmoleaaa", sum := "1b6d1756270b379318e734285a5492146233e20f71b3045ee023efbb63a02eba", func := "loop.example/loadbalancer/laws.FnExactBreakerAllows", spec := "fnExactBreakerAllows", apart := false, narrowed := true }
def FnExactBreakerAllowsUptoSaid : Prop := fnExactBreakerAllowsUptoRow.holds Try.pinned (OpenSpec.upto fnExactBreakerAllowsSpec)

/-- 'laws.FnBreakerValid', WHERE WHAT IT READS IS OF BULK AT MOST 1048576: true; the input reads as it did. -/
def fnBreakerValidUptoRow : OpenClaim := { program := "ytkfldnohmoleaaa", sum := "1b6d1756270b379318e734285a5492146233e20f71b3045ee023efbb63a02eba", func := "loop.example/loadbalancer/laws.FnBreakerValid", spec := "fnBreakerValid", apart := false, narrowed := true }
def FnBreakerValidUptoSaid : Prop := fnBreakerValidUptoRow.holds Try.pinned (OpenSpec.upto fnBreakerValidSpec)

/-- 'laws.FnBreakerAllows', WHERE WHAT IT READS IS OF BULK AT MOST 1048576: true; the input reads as it did. -/
def fnBreakerAllowsUptoRow : OpenClaim := { program := "ytkfldnohmoleaaa", sum := "1b6d1756270b379318e734285a5492146233e20f71b3045ee023efbb63a02eba", func := "loop.example/loadbalancer/laws.FnBreakerAllows", spec := "fnBreakerAllows", apart := false, narrowed := true }
def FnBreakerAllowsUptoSaid : Prop := fnBreakerAllowsUptoRow.holds Try.pinned (OpenSpec.upto fnBreakerAllowsSpec)

/-- 'laws.FnExactBreakerStep', WHERE WHAT IT READS IS OF BULK AT MOST 1048576: true; the input reads as it did. -/
def fnExactBreakerStepUptoRow : OpenClaim := { program := "ytkfldnohmoleaaa", sum := "1b6d1756270b379318e734285a5492146233e20f71b3045ee023efbb63a02eba", func := "loop.example/loadbalancer/laws.FnExactBreakerStep", spec := "fnExactBreakerStep", apart := false, narrowed := true }
def FnExactBreakerStepUptoSaid : Prop := fnExactBreakerStepUptoRow.holds Try.pinned (OpenSpec.upto fnExactBreakerStepSpec)

/-- 'laws.FnBreakerStep', WHERE WHAT IT READS IS OF BULK AT MOST 1048576: true; the input reads as it did. -/
def fnBreakerStepUptoRow : OpenClaim := { program := "ytkfldnohmoleaaa", sum := "1b6d1756270b379318e734285a5492146233e20f71b3045ee023efbb63a02eba", func := "loop.example/loadbalancer/laws.FnBreakerStep", spec := "fnBreakerStep", apart := false, narrowed := true }
def FnBreakerStepUptoSaid : Prop := fnBreakerStepUptoRow.holds Try.pinned (OpenSpec.upto fnBreakerStepSpec)

/-- 'laws.FnBreakerGood', WHERE WHAT IT READS IS OF BULK AT MOST 1048576: true; the input reads as it did. -/
def fnBreakerGoodUptoRow : OpenClaim := { program := "ytkfldnohmoleaaa", sum := "1b6d1756270b379318e734285a5492146233e20f71b3045ee023efbb63a02eba", func := "loop.example/loadbalancer/laws.FnBreakerGood", spec := "fnBreakerGood", apart := false, narrowed := true }
def FnBreakerGoodUptoSaid : Prop := fnBreakerGoodUptoRow.holds Try.pinned (OpenSpec.upto fnBreakerGoodSpec)

/-- 'laws.FnBreakerRun', WHERE WHAT IT READS IS OF BULK AT MOST 1048576: true; the input reads as it did. -/
def fnBreakerRunUptoRow : OpenClaim := { program := "ytkfldnohmoleaaa", sum := "1b6d1756270b379318e734285a5492146233e20f71b3045ee023efbb63a02eba", func := "loop.example/loadbalancer/laws.FnBreakerRun", spec := "fnBreakerRun", apart := false, narrowed := true }
def FnBreakerRunUptoSaid : Prop := fnBreakerRunUptoRow.holds Try.pinned (OpenSpec.upto fnBreakerRunSpec)

/-- 'laws.FnExactBreakerRun', WHERE WHAT IT READS IS OF BULK AT MOST 1048576: true; the input reads as it did. -/
def fnExactBreakerRunUptoRow : OpenClaim := { program := "ytkfldnohmoleaaa", sum := "1b6d1756270b379318e734285a5492146233e20f71b3045ee023efbb63a02eba", func := "loop.example/loadbalancer/laws.FnExactBreakerRun", spec := "fnExactBreakerRun", apart := false, narrowed := true }
def FnExactBreakerRunUptoSaid : Prop := fnExactBreakerRunUptoRow.holds Try.pinned (OpenSpec.upto fnExactBreakerRunSpec)

end Rows
end Go.Proofs.Ytkfldnohmoleaaa
