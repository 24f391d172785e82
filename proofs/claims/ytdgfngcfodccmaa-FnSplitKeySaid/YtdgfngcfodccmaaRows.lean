/-
  No cell of these rows narrows 'for every input' (looked for: loops, veiled, ifaces, maps, wideKeys, modest, calm, conditions, laid).
  DERIVED. THE GIVEN ROWS OF THIS SEAT. 6 by the template 'for every input the law returns true; each argument reads behind the call as it read before'; 0 by the template 'total and deterministic' (their statements: YtdgfngcfodccmaaTotals.lean).
  GIVEN WITH THE SEED: the statements are not yours to turn. If you find one false, say at which input.
  Laid BY PROGRAM, IN A SANDBOX (cutbox-rows.mjs): the forced cells as the released guide's own fill.sh prints them over the translation be46046fee93ca70… (all of the seat's roots in one cut). By AI agents, Wed Nov 11 2026. No macro, syntax, notation, axiom, sorry.
-/
import Derived.Test.YtdgfngcfodccmaaChecked
import GoSem.Claim
import GoSem.ClaimJoined
import GoSem.ClaimMapViews
import Derived.JoinedTies
import Derived.KernelRfl
namespace Go.Proofs.Ytdgfngcfodccmaa
/- THE CELL 'sum', in the pinned program and in every row, IS THE sha256 OF THE DUMP (.gsa) THAT YtdgfngcfodccmaaProg.lean LOADS. Nothing in Lean hashes anything: it is a label: what it is worth is what the hold of that sum in a sandbox is worth. -/
noncomputable def Try.pinned : Pinned := { name := "ytdgfngcfodccmaa", sum := "be46046fee93ca706bb3ed2d5e877a55ec59b442805cd3b6ab61aff16966c4cf", checked := Try.checked }
namespace Rows
def none {H : Type} : Left H := { results := [], args := [] }

/-- 'laws.FnBreakerStep': WHATEVER THE INPUT: true; the input reads as it did. -/
def fnBreakerStepSpec : ChangeSpec := { name := "fnBreakerStep", fn := fun _ => fun
  | [d] => { results := [.lit (.bool true)], args := [d] }
  | _ => none }
def fnBreakerStepRow : OpenClaim := { program := "ytdgfngcfodccmaa", sum := "be46046fee93ca706bb3ed2d5e877a55ec59b442805cd3b6ab61aff16966c4cf", func := "loop.example/loadbalancer/laws.FnBreakerStep", spec := "fnBreakerStep", apart := false }
def FnBreakerStepSaid : Prop := fnBreakerStepRow.holds Try.pinned (OpenSpec.ofChange fnBreakerStepSpec)

/-- ITS FALSE NEIGHBOUR: 'it returns false'. Refute it at one input. -/
def fnBreakerStepWrong : ChangeSpec := { name := "fnBreakerStep", fn := fun _ => fun
  | [d] => { results := [.lit (.bool false)], args := [d] }
  | _ => none }
def FnBreakerStepWrongFalsely : Prop := fnBreakerStepRow.holds Try.pinned (OpenSpec.ofChange fnBreakerStepWrong)

/-- 'laws.FnExactHistJoin': WHATEVER THE INPUT: true; the input reads as it did. -/
def fnExactHistJoinSpec : ChangeSpec := { name := "fnExactHistJoin", fn := fun _ => fun
  | [d1, d2] => { results := [.lit (.bool true)], args := [d1, d2] }
  | _ => none }
def fnExactHistJoinRow : OpenClaim := { program := "ytdgfngcfodccmaa", sum := "be46046fee93ca706bb3ed2d5e877a55ec59b442805cd3b6ab61aff16966c4cf", func := "loop.example/loadbalancer/laws.FnExactHistJoin", spec := "fnExactHistJoin", apart := false }
def FnExactHistJoinSaid : Prop := fnExactHistJoinRow.holds Try.pinned (OpenSpec.ofChange fnExactHistJoinSpec)

/-- ITS FALSE NEIGHBOUR: 'it returns false'. Refute it at one input. -/
def fnExactHistJoinWrong : ChangeSpec := { name := "fnExactHistJoin", fn := fun _ => fun
  | [d1, d2] => { results := [.lit (.bool false)], args := [d1, d2] }
  | _ => none }
def FnExactHistJoinWrongFalsely : Prop := fnExactHistJoinRow.holds Try.pinned (OpenSpec.ofChange fnExactHistJoinWrong)

/-- 'laws.FnHistJoin': WHATEVER THE INPUT: true; the input reads as it did. -/
def fnHistJoinSpec : ChangeSpec := { name := "fnHistJoin", fn := fun _ => fun
  | [d] => { results := [.lit (.bool true)], args := [d] }
  | _ => none }
def fnHistJoinRow : OpenClaim := { program := "ytdgfngcfodccmaa", sum := "be46046fee93ca706bb3ed2d5e877a55ec59b442805cd3b6ab61aff16966c4cf", func := "loop.example/loadbalancer/laws.FnHistJoin", spec := "fnHistJoin", apart := false }
def FnHistJoinSaid : Prop := fnHistJoinRow.holds Try.pinned (OpenSpec.ofChange fnHistJoinSpec)

/-- ITS FALSE NEIGHBOUR: 'it returns false'. Refute it at one input. -/
def fnHistJoinWrong : ChangeSpec := { name := "fnHistJoin", fn := fun _ => fun
  | [d] => { results := [.lit (.bool false)], args := [d] }
  | _ => none }
def FnHistJoinWrongFalsely : Prop := fnHistJoinRow.holds Try.pinned (OpenSpec.ofChange fnHistJoinWrong)

/-- 'laws.FnHistOf': WHATEVER THE INPUT: true; the input reads as it did. -/
def fnHistOfSpec : ChangeSpec := { name := "fnHistOf", fn := fun _ => fun
  | [d] => { results := [.lit (.bool true)], args := [d] }
  | _ => none }
def fnHistOfRow : OpenClaim := { program := "ytdgfngcfodccmaa", sum := "be46046fee93ca706bb3ed2d5e877a55ec59b442805cd3b6ab61aff16966c4cf", func := "loop.example/loadbalancer/laws.FnHistOf", spec := "fnHistOf", apart := false }
def FnHistOfSaid : Prop := fnHistOfRow.holds Try.pinned (OpenSpec.ofChange fnHistOfSpec)

/-- ITS FALSE NEIGHBOUR: 'it returns false'. Refute it at one input. -/
def fnHistOfWrong : ChangeSpec := { name := "fnHistOf", fn := fun _ => fun
  | [d] => { results := [.lit (.bool false)], args := [d] }
  | _ => none }
def FnHistOfWrongFalsely : Prop := fnHistOfRow.holds Try.pinned (OpenSpec.ofChange fnHistOfWrong)

/-- 'laws.FnSplitCount': WHATEVER THE INPUT: true; the input reads as it did. -/
def fnSplitCountSpec : ChangeSpec := { name := "fnSplitCount", fn := fun _ => fun
  | [d] => { results := [.lit (.bool true)], args := [d] }
  | _ => none }
def fnSplitCountRow : OpenClaim := { program := "ytdgfngcfodccmaa", sum := "be46046fee93ca706bb3ed2d5e877a55ec59b442805cd3b6ab61aff16966c4cf", func := "loop.example/loadbalancer/laws.FnSplitCount", spec := "fnSplitCount", apart := false }
def FnSplitCountSaid : Prop := fnSplitCountRow.holds Try.pinned (OpenSpec.ofChange fnSplitCountSpec)

/-- ITS FALSE NEIGHBOUR: 'it returns false'. Refute it at one input. -/
def fnSplitCountWrong : ChangeSpec := { name := "fnSplitCount", fn := fun _ => fun
  | [d] => { results := [.lit (.bool false)], args := [d] }
  | _ => none }
def FnSplitCountWrongFalsely : Prop := fnSplitCountRow.holds Try.pinned (OpenSpec.ofChange fnSplitCountWrong)

/-- 'laws.FnSplitKey': WHATEVER THE INPUT: true; the input reads as it did. -/
def fnSplitKeySpec : ChangeSpec := { name := "fnSplitKey", fn := fun _ => fun
  | [d] => { results := [.lit (.bool true)], args := [d] }
  | _ => none }
def fnSplitKeyRow : OpenClaim := { program := "ytdgfngcfodccmaa", sum := "be46046fee93ca706bb3ed2d5e877a55ec59b442805cd3b6ab61aff16966c4cf", func := "loop.example/loadbalancer/laws.FnSplitKey", spec := "fnSplitKey", apart := false }
def FnSplitKeySaid : Prop := fnSplitKeyRow.holds Try.pinned (OpenSpec.ofChange fnSplitKeySpec)

/-- ITS FALSE NEIGHBOUR: 'it returns false'. Refute it at one input. -/
def fnSplitKeyWrong : ChangeSpec := { name := "fnSplitKey", fn := fun _ => fun
  | [d] => { results := [.lit (.bool false)], args := [d] }
  | _ => none }
def FnSplitKeyWrongFalsely : Prop := fnSplitKeyRow.holds Try.pinned (OpenSpec.ofChange fnSplitKeyWrong)

/- THE SECOND FORM. 'bulk': how many values and letters a reading holds, each counted each time it is reached (what is shared counts as often as it is met; a slice's spare places count too). A statement '..UptoSaid' is the law's where the arguments, and the package variables that the reading takes, are together of bulk at most 1048576: NARROWER than '..Said'. Prove '..Said' where nothing that the law and all that it calls make is longer than what came in: it says more and counts as full. Else prove '..UptoSaid'. A law counts once. -/
mutual
def uptoBulk {H : Type} : DataW H → Nat
  | .lit (.string bytes) => bytes.length + 1
  | .lit _ => 1
  | .nil => 1
  | .ptr d => uptoBulk d + 1
  | .slice elems spare => uptoBulkAll elems + uptoBulkAll spare + 1
  | .agg parts => uptoBulkAll parts + 1
  | .iface _ d => uptoBulk d + 1
  | .map entries => uptoBulkEntries entries + 1
  | .held _ => 1
def uptoBulkAll {H : Type} : List (DataW H) → Nat
  | [] => 0
  | d :: r => uptoBulk d + uptoBulkAll r
def uptoBulkEntries {H : Type} : List (Lit × DataW H) → Nat
  | [] => 0
  | x :: r => uptoBulkEntry x + uptoBulkEntries r
def uptoBulkEntry {H : Type} : Lit × DataW H → Nat
  | (.string bytes, d) => bytes.length + uptoBulk d + 1
  | (_, d) => uptoBulk d + 1
 end
def uptoSmall : (H : Type) → List (DataW H) → Bool := fun _ ds => decide (uptoBulkAll ds ≤ 1048576)
def OpenSpec.upto (s : _root_.Go.ChangeSpec) : _root_.Go.OpenSpec := { _root_.Go.OpenSpec.ofChange s with cond := some uptoSmall }

/-- 'laws.FnBreakerStep', WHERE WHAT IT READS IS OF BULK AT MOST 1048576: true; the input reads as it did. -/
def fnBreakerStepUptoRow : OpenClaim := { program := "ytdgfngcfodccmaa", sum := "be46046fee93ca706bb3ed2d5e877a55ec59b442805cd3b6ab61aff16966c4cf", func := "loop.example/loadbalancer/laws.FnBreakerStep", spec := "fnBreakerStep", apart := false, narrowed := true }
def FnBreakerStepUptoSaid : Prop := fnBreakerStepUptoRow.holds Try.pinned (OpenSpec.upto fnBreakerStepSpec)

/-- 'laws.FnExactHistJoin', WHERE WHAT IT READS IS OF BULK AT MOST 1048576: true; the input reads as it did. -/
def fnExactHistJoinUptoRow : OpenClaim := { program := "ytdgfngcfodccmaa", sum := "be46046fee93ca706bb3ed2d5e877a55ec59b442805cd3b6ab61aff16966c4cf", func := "loop.example/loadbalancer/laws.FnExactHistJoin", spec := "fnExactHistJoin", apart := false, narrowed := true }
def FnExactHistJoinUptoSaid : Prop := fnExactHistJoinUptoRow.holds Try.pinned (OpenSpec.upto fnExactHistJoinSpec)

/-- 'laws.FnHistJoin', WHERE WHAT IT READS IS OF BULK AT MOST 1048576: true; the input reads as it did. -/
def fnHistJoinUptoRow : OpenClaim := { program := "ytdgfngcfodccmaa", sum := "be46046fee93ca706bb3ed2d5e877a55ec59b442805cd3b6ab61aff16966c4cf", func := "loop.example/loadbalancer/laws.FnHistJoin", spec := "fnHistJoin", apart := false, narrowed := true }
def FnHistJoinUptoSaid : Prop := fnHistJoinUptoRow.holds Try.pinned (OpenSpec.upto fnHistJoinSpec)

/-- 'laws.FnHistOf', WHERE WHAT IT READS IS OF BULK AT MOST 1048576: true; the input reads as it did. -/
def fnHistOfUptoRow : OpenClaim := { program := "ytdgfngcfodccmaa", sum := "be46046fee93ca706bb3ed2d5e877a55ec59b442805cd3b6ab61aff16966c4cf", func := "loop.example/loadbalancer/laws.FnHistOf", spec := "fnHistOf", apart := false, narrowed := true }
def FnHistOfUptoSaid : Prop := fnHistOfUptoRow.holds Try.pinned (OpenSpec.upto fnHistOfSpec)

/-- 'laws.FnSplitCount', WHERE WHAT IT READS IS OF BULK AT MOST 1048576: true; the input reads as it did. -/
def fnSplitCountUptoRow : OpenClaim := { program := "ytdgfngcfodccmaa", sum := "be46046fee93ca706bb3ed2d5e877a55ec59b442805cd3b6ab61aff16966c4cf", func := "loop.example/loadbalancer/laws.FnSplitCount", spec := "fnSplitCount", apart := false, narrowed := true }
def FnSplitCountUptoSaid : Prop := fnSplitCountUptoRow.holds Try.pinned (OpenSpec.upto fnSplitCountSpec)

/-- 'laws.FnSplitKey', WHERE WHAT IT READS IS OF BULK AT MOST 1048576: true; the input reads as it did. -/
def fnSplitKeyUptoRow : OpenClaim := { program := "ytdgfngcfodccmaa", sum := "be46046fee93ca706bb3ed2d5e877a55ec59b442805cd3b6ab61aff16966c4cf", func := "loop.example/loadbalancer/laws.FnSplitKey", spec := "fnSplitKey", apart := false, narrowed := true }
def FnSplitKeyUptoSaid : Prop := fnSplitKeyUptoRow.holds Try.pinned (OpenSpec.upto fnSplitKeySpec)

end Rows
end Go.Proofs.Ytdgfngcfodccmaa
