/-
  No cell of these rows narrows 'for every input' (looked for: loops, veiled, ifaces, maps, wideKeys, modest, calm, conditions, laid).
  DERIVED. THE GIVEN ROWS OF THIS SEAT. 10 by the template 'for every input the law returns true; each argument reads behind the call as it read before'; 0 by the template 'total and deterministic' (their statements: YtpbffimlekgejaaTotals.lean).
  GIVEN WITH THE SEED: the statements are not yours to turn. If you find one false, say at which input.
  Laid BY PROGRAM, IN A SANDBOX (cutbox-rows.mjs): the forced cells as the released guide's own fill.sh prints them over the translation aafc717febff2a19… (all of the seat's roots in one cut). By AI agents, Wed Nov 11 2026. No macro, syntax, notation, axiom, sorry.
-/
import Derived.Test.YtpbffimlekgejaaChecked
import GoSem.Claim
import GoSem.ClaimJoined
import GoSem.ClaimMapViews
import Derived.JoinedTies
import Derived.KernelRfl
namespace Go.Proofs.Ytpbffimlekgejaa
/- THE CELL 'sum', in the pinned program and in every row, IS THE sha256 OF THE DUMP (.gsa) THAT YtpbffimlekgejaaProg.lean LOADS. Nothing in Lean hashes anything: it is a label: what it is worth is what the hold of that sum in a sandbox is worth. -/
noncomputable def Try.pinned : Pinned := { name := "ytpbffimlekgejaa", sum := "aafc717febff2a19c3a3becd81f3c54a11de42b22902e3e348d2640f3c638eca", checked := Try.checked }
namespace Rows
def none {H : Type} : Left H := { results := [], args := [] }

/-- 'laws.FnExactHistValid': WHATEVER THE INPUT: true; the input reads as it did. -/
def fnExactHistValidSpec : ChangeSpec := { name := "fnExactHistValid", fn := fun _ => fun
  | [d] => { results := [.lit (.bool true)], args := [d] }
  | _ => none }
def fnExactHistValidRow : OpenClaim := { program := "ytpbffimlekgejaa", sum := "aafc717febff2a19c3a3becd81f3c54a11de42b22902e3e348d2640f3c638eca", func := "loop.example/loadbalancer/laws.FnExactHistValid", spec := "fnExactHistValid", apart := false }
def FnExactHistValidSaid : Prop := fnExactHistValidRow.holds Try.pinned (OpenSpec.ofChange fnExactHistValidSpec)

/-- ITS FALSE NEIGHBOUR: 'it returns false'. Refute it at one input. -/
def fnExactHistValidWrong : ChangeSpec := { name := "fnExactHistValid", fn := fun _ => fun
  | [d] => { results := [.lit (.bool false)], args := [d] }
  | _ => none }
def FnExactHistValidWrongFalsely : Prop := fnExactHistValidRow.holds Try.pinned (OpenSpec.ofChange fnExactHistValidWrong)

/-- 'laws.FnExactClassOf': WHATEVER THE INPUT: true; the input reads as it did. -/
def fnExactClassOfSpec : ChangeSpec := { name := "fnExactClassOf", fn := fun _ => fun
  | [d] => { results := [.lit (.bool true)], args := [d] }
  | _ => none }
def fnExactClassOfRow : OpenClaim := { program := "ytpbffimlekgejaa", sum := "aafc717febff2a19c3a3becd81f3c54a11de42b22902e3e348d2640f3c638eca", func := "loop.example/loadbalancer/laws.FnExactClassOf", spec := "fnExactClassOf", apart := false }
def FnExactClassOfSaid : Prop := fnExactClassOfRow.holds Try.pinned (OpenSpec.ofChange fnExactClassOfSpec)

/-- ITS FALSE NEIGHBOUR: 'it returns false'. Refute it at one input. -/
def fnExactClassOfWrong : ChangeSpec := { name := "fnExactClassOf", fn := fun _ => fun
  | [d] => { results := [.lit (.bool false)], args := [d] }
  | _ => none }
def FnExactClassOfWrongFalsely : Prop := fnExactClassOfRow.holds Try.pinned (OpenSpec.ofChange fnExactClassOfWrong)

/-- 'laws.FnHistValid': WHATEVER THE INPUT: true; the input reads as it did. -/
def fnHistValidSpec : ChangeSpec := { name := "fnHistValid", fn := fun _ => fun
  | [d] => { results := [.lit (.bool true)], args := [d] }
  | _ => none }
def fnHistValidRow : OpenClaim := { program := "ytpbffimlekgejaa", sum := "aafc717febff2a19c3a3becd81f3c54a11de42b22902e3e348d2640f3c638eca", func := "loop.example/loadbalancer/laws.FnHistValid", spec := "fnHistValid", apart := false }
def FnHistValidSaid : Prop := fnHistValidRow.holds Try.pinned (OpenSpec.ofChange fnHistValidSpec)

/-- ITS FALSE NEIGHBOUR: 'it returns false'. Refute it at one input. -/
def fnHistValidWrong : ChangeSpec := { name := "fnHistValid", fn := fun _ => fun
  | [d] => { results := [.lit (.bool false)], args := [d] }
  | _ => none }
def FnHistValidWrongFalsely : Prop := fnHistValidRow.holds Try.pinned (OpenSpec.ofChange fnHistValidWrong)

/-- 'laws.FnExactHistRank': WHATEVER THE INPUT: true; the input reads as it did. -/
def fnExactHistRankSpec : ChangeSpec := { name := "fnExactHistRank", fn := fun _ => fun
  | [d1, d2] => { results := [.lit (.bool true)], args := [d1, d2] }
  | _ => none }
def fnExactHistRankRow : OpenClaim := { program := "ytpbffimlekgejaa", sum := "aafc717febff2a19c3a3becd81f3c54a11de42b22902e3e348d2640f3c638eca", func := "loop.example/loadbalancer/laws.FnExactHistRank", spec := "fnExactHistRank", apart := false }
def FnExactHistRankSaid : Prop := fnExactHistRankRow.holds Try.pinned (OpenSpec.ofChange fnExactHistRankSpec)

/-- ITS FALSE NEIGHBOUR: 'it returns false'. Refute it at one input. -/
def fnExactHistRankWrong : ChangeSpec := { name := "fnExactHistRank", fn := fun _ => fun
  | [d1, d2] => { results := [.lit (.bool false)], args := [d1, d2] }
  | _ => none }
def FnExactHistRankWrongFalsely : Prop := fnExactHistRankRow.holds Try.pinned (OpenSpec.ofChange fnExactHistRankWrong)

/-- 'laws.FnExactHistJoin': WHATEVER THE INPUT: true; the input reads as it did. -/
def fnExactHistJoinSpec : ChangeSpec := { name := "fnExactHistJoin", fn := fun _ => fun
  | [d1, d2] => { results := [.lit (.bool true)], args := [d1, d2] }
  | _ => none }
def fnExactHistJoinRow : OpenClaim := { program := "ytpbffimlekgejaa", sum := "aafc717febff2a19c3a3becd81f3c54a11de42b22902e3e348d2640f3c638eca", func := "loop.example/loadbalancer/laws.FnExactHistJoin", spec := "fnExactHistJoin", apart := false }
def FnExactHistJoinSaid : Prop := fnExactHistJoinRow.holds Try.pinned (OpenSpec.ofChange fnExactHistJoinSpec)

/-- ITS FALSE NEIGHBOUR: 'it returns false'. Refute it at one input. -/
def fnExactHistJoinWrong : ChangeSpec := { name := "fnExactHistJoin", fn := fun _ => fun
  | [d1, d2] => { results := [.lit (.bool false)], args := [d1, d2] }
  | _ => none }
def FnExactHistJoinWrongFalsely : Prop := fnExactHistJoinRow.holds Try.pinned (OpenSpec.ofChange fnExactHistJoinWrong)

/-- 'laws.FnClassOf': WHATEVER THE INPUT: true; the input reads as it did. -/
def fnClassOfSpec : ChangeSpec := { name := "fnClassOf", fn := fun _ => fun
  | [d] => { results := [.lit (.bool true)], args := [d] }
  | _ => none }
def fnClassOfRow : OpenClaim := { program := "ytpbffimlekgejaa", sum := "aafc717febff2a19c3a3becd81f3c54a11de42b22902e3e348d2640f3c638eca", func := "loop.example/loadbalancer/laws.FnClassOf", spec := "fnClassOf", apart := false }
def FnClassOfSaid : Prop := fnClassOfRow.holds Try.pinned (OpenSpec.ofChange fnClassOfSpec)

/-- ITS FALSE NEIGHBOUR: 'it returns false'. Refute it at one input. -/
def fnClassOfWrong : ChangeSpec := { name := "fnClassOf", fn := fun _ => fun
  | [d] => { results := [.lit (.bool false)], args := [d] }
  | _ => none }
def FnClassOfWrongFalsely : Prop := fnClassOfRow.holds Try.pinned (OpenSpec.ofChange fnClassOfWrong)

/-- 'laws.FnHistJoin': WHATEVER THE INPUT: true; the input reads as it did. -/
def fnHistJoinSpec : ChangeSpec := { name := "fnHistJoin", fn := fun _ => fun
  | [d] => { results := [.lit (.bool true)], args := [d] }
  | _ => none }
def fnHistJoinRow : OpenClaim := { program := "ytpbffimlekgejaa", sum := "aafc717febff2a19c3a3becd81f3c54a11de42b22902e3e348d2640f3c638eca", func := "loop.example/loadbalancer/laws.FnHistJoin", spec := "fnHistJoin", apart := false }
def FnHistJoinSaid : Prop := fnHistJoinRow.holds Try.pinned (OpenSpec.ofChange fnHistJoinSpec)

/-- ITS FALSE NEIGHBOUR: 'it returns false'. Refute it at one input. -/
def fnHistJoinWrong : ChangeSpec := { name := "fnHistJoin", fn := fun _ => fun
  | [d] => { results := [.lit (.bool false)], args := [d] }
  | _ => none }
def FnHistJoinWrongFalsely : Prop := fnHistJoinRow.holds Try.pinned (OpenSpec.ofChange fnHistJoinWrong)

/-- 'laws.FnExactHistOf': WHATEVER THE INPUT: true; the input reads as it did. -/
def fnExactHistOfSpec : ChangeSpec := { name := "fnExactHistOf", fn := fun _ => fun
  | [d] => { results := [.lit (.bool true)], args := [d] }
  | _ => none }
def fnExactHistOfRow : OpenClaim := { program := "ytpbffimlekgejaa", sum := "aafc717febff2a19c3a3becd81f3c54a11de42b22902e3e348d2640f3c638eca", func := "loop.example/loadbalancer/laws.FnExactHistOf", spec := "fnExactHistOf", apart := false }
def FnExactHistOfSaid : Prop := fnExactHistOfRow.holds Try.pinned (OpenSpec.ofChange fnExactHistOfSpec)

/-- ITS FALSE NEIGHBOUR: 'it returns false'. Refute it at one input. -/
def fnExactHistOfWrong : ChangeSpec := { name := "fnExactHistOf", fn := fun _ => fun
  | [d] => { results := [.lit (.bool false)], args := [d] }
  | _ => none }
def FnExactHistOfWrongFalsely : Prop := fnExactHistOfRow.holds Try.pinned (OpenSpec.ofChange fnExactHistOfWrong)

/-- 'laws.FnHistRank': WHATEVER THE INPUT: true; the input reads as it did. -/
def fnHistRankSpec : ChangeSpec := { name := "fnHistRank", fn := fun _ => fun
  | [d] => { results := [.lit (.bool true)], args := [d] }
  | _ => none }
def fnHistRankRow : OpenClaim := { program := "ytpbffimlekgejaa", sum := "aafc717febff2a19c3a3becd81f3c54a11de42b22902e3e348d2640f3c638eca", func := "loop.example/loadbalancer/laws.FnHistRank", spec := "fnHistRank", apart := false }
def FnHistRankSaid : Prop := fnHistRankRow.holds Try.pinned (OpenSpec.ofChange fnHistRankSpec)

/-- ITS FALSE NEIGHBOUR: 'it returns false'. Refute it at one input. -/
def fnHistRankWrong : ChangeSpec := { name := "fnHistRank", fn := fun _ => fun
  | [d] => { results := [.lit (.bool false)], args := [d] }
  | _ => none }
def FnHistRankWrongFalsely : Prop := fnHistRankRow.holds Try.pinned (OpenSpec.ofChange fnHistRankWrong)

/-- 'laws.FnHistOf': WHATEVER THE INPUT: true; the input reads as it did. -/
def fnHistOfSpec : ChangeSpec := { name := "fnHistOf", fn := fun _ => fun
  | [d] => { results := [.lit (.bool true)], args := [d] }
  | _ => none }
def fnHistOfRow : OpenClaim := { program := "ytpbffimlekgejaa", sum := "aafc717febff2a19c3a3becd81f3c54a11de42b22902e3e348d2640f3c638eca", func := "loop.example/loadbalancer/laws.FnHistOf", spec := "fnHistOf", apart := false }
def FnHistOfSaid : Prop := fnHistOfRow.holds Try.pinned (OpenSpec.ofChange fnHistOfSpec)

/-- ITS FALSE NEIGHBOUR: 'it returns false'. Refute it at one input. -/
def fnHistOfWrong : ChangeSpec := { name := "fnHistOf", fn := fun _ => fun
  | [d] => { results := [.lit (.bool false)], args := [d] }
  | _ => none }
def FnHistOfWrongFalsely : Prop := fnHistOfRow.holds Try.pinned (OpenSpec.ofChange fnHistOfWrong)

/- THE SECOND FORM. 'bulk': how many values and letters a reading holds, each counted each time it is reached (what is shared counts as often as it is met; a slice's spare places count too). A statement '..UptoSaid' is the law's where the arguments, and the package variables that the reading takes, are together of bulk at most 1048576: NARROWER than '..Said'. Prove '..Said' where nothing that the law and all that it calls make is longer than what came in: it says more and counts as full. Else prove '..UptoSaid'. A law counts once. -/
mutual
def uptoBulk {H : Type} : DataW H → Nat
  | .lit (.string bytes) => bytes.length + 1
  | .lit _ => 1
  | .nil => 1
  | .ptr d => uptoBulk d + 1
  | .slice elems spare => uptoBulkAll elems + uptoBulkAll spare + 1
  | .agg parts => uptoBulkAll parts + 1
  | .iface _ d => uptoBulk d + 1
  | .map entries => uptoBulkEntries entries + 1
  | .held _ => 1
def uptoBulkAll {H : Type} : List (DataW H) → Nat
  | [] => 0
  | d :: r => uptoBulk d + uptoBulkAll r
def uptoBulkEntries {H : Type} : List (Lit × DataW H) → Nat
  | [] => 0
  | x :: r => uptoBulkEntry x + uptoBulkEntries r
def uptoBulkEntry {H : Type} : Lit × DataW H → Nat
  | (.string bytes, d) => bytes.length + uptoBulk d + 1
  | (_, d) => uptoBulk d + 1
 end
def uptoSmall : (H : Type) → List (DataW H) → Bool := fun _ ds => decide (uptoBulkAll ds ≤ 1048576)
def OpenSpec.upto (s : _root_.Go.ChangeSpec) : _root_.Go.OpenSpec := { _root_.Go.OpenSpec.ofChange s with cond := some uptoSmall }

/-- 'laws.FnExactHistValid', WHERE WHAT IT READS IS OF BULK AT MOST 1048576: true; the input reads as it did. -/
def fnExactHistValidUptoRow : OpenClaim := { program := "ytpbffimlekgejaa", sum := "aafc717febff2a19c3a3becd81f3c54a11de42b22902e3e348d2640f3c638eca", func := "loop.example/loadbalancer/laws.FnExactHistValid", spec := "fnExactHistValid", apart := false, narrowed := true }
def FnExactHistValidUptoSaid : Prop := fnExactHistValidUptoRow.holds Try.pinned (OpenSpec.upto fnExactHistValidSpec)

/-- 'laws.FnExactClassOf', WHERE WHAT IT READS IS OF BULK AT MOST 1048576: true; the input reads as it did. -/
def fnExactClassOfUptoRow : OpenClaim := { program := "ytpbffimlekgejaa", sum := "aafc717febff2a19c3a3becd81f3c54a11de42b22902e3e348d2640f3c638eca", func := "loop.example/loadbalancer/laws.FnExactClassOf", spec := "fnExactClassOf", apart := false, narrowed := true }
def FnExactClassOfUptoSaid : Prop := fnExactClassOfUptoRow.holds Try.pinned (OpenSpec.upto fnExactClassOfSpec)

/-- 'laws.FnHistValid', WHERE WHAT IT READS IS OF BULK AT MOST 1048576: true; the input reads as it did. -/
def fnHistValidUptoRow : OpenClaim := { program := "ytpbffimlekgejaa", sum := "aafc717febff2a19c3a3becd81f3c54a11de42b22902e3e348d2640f3c638eca", func := "loop.example/loadbalancer/laws.FnHistValid", spec := "fnHistValid", apart := false, narrowed := true }
def FnHistValidUptoSaid : Prop := fnHistValidUptoRow.holds Try.pinned (OpenSpec.upto fnHistValidSpec)

/-- 'laws.FnExactHistRank', WHERE WHAT IT READS IS OF BULK AT MOST 1048576: true; the input reads as it did. -/
def fnExactHistRankUptoRow : OpenClaim := { program := "ytpbffimlekgejaa", sum := "aafc717febff2a19c3a3becd81f3c54a11de42b22902e3e348d2640f3c638eca", func := "loop.example/loadbalancer/laws.FnExactHistRank", spec := "fnExactHistRank", apart := false, narrowed := true }
def FnExactHistRankUptoSaid : Prop := fnExactHistRankUptoRow.holds Try.pinned (OpenSpec.upto fnExactHistRankSpec)

/-- 'laws.FnExactHistJoin', WHERE WHAT IT READS IS OF BULK AT MOST 1048576: true; the input reads as it did. -/
def fnExactHistJoinUptoRow : OpenClaim := { program := "ytpbffimlekgejaa", sum := "aafc717febff2a19c3a3becd81f3c54a11de42b22902e3e348d2640f3c638eca", func := "loop.example/loadbalancer/laws.FnExactHistJoin", spec := "fnExactHistJoin", apart := false, narrowed := true }
def FnExactHistJoinUptoSaid : Prop := fnExactHistJoinUptoRow.holds Try.pinned (OpenSpec.upto fnExactHistJoinSpec)

/-- 'laws.FnClassOf', WHERE WHAT IT READS IS OF BULK AT MOST 1048576: true; the input reads as it did. -/
def fnClassOfUptoRow : OpenClaim := { program := "ytpbffimlekgejaa", sum := "aafc717febff2a19c3a3becd81f3c54a11de42b22902e3e348d2640f3c638eca", func := "loop.example/loadbalancer/laws.FnClassOf", spec := "fnClassOf", apart := false, narrowed := true }
def FnClassOfUptoSaid : Prop := fnClassOfUptoRow.holds Try.pinned (OpenSpec.upto fnClassOfSpec)

/-- 'laws.FnHistJoin', WHERE WHAT IT READS IS OF BULK AT MOST 1048576: true; the input reads as it did. -/
def fnHistJoinUptoRow : OpenClaim := { program := "ytpbffimlekgejaa", sum := "aafc717febff2a19c3a3becd81f3c54a11de42b22902e3e348d2640f3c638eca", func := "loop.example/loadbalancer/laws.FnHistJoin", spec := "fnHistJoin", apart := false, narrowed := true }
def FnHistJoinUptoSaid : Prop := fnHistJoinUptoRow.holds Try.pinned (OpenSpec.upto fnHistJoinSpec)

/-- 'laws.FnExactHistOf', WHERE WHAT IT READS IS OF BULK AT MOST 1048576: true; the input reads as it did. -/
def fnExactHistOfUptoRow : OpenClaim := { program := "ytpbffimlekgejaa", sum := "aafc717febff2a19c3a3becd81f3c54a11de42b22902e3e348d2640f3c638eca", func := "loop.example/loadbalancer/laws.FnExactHistOf", spec := "fnExactHistOf", apart := false, narrowed := true }
def FnExactHistOfUptoSaid : Prop := fnExactHistOfUptoRow.holds Try.pinned (OpenSpec.upto fnExactHistOfSpec)

/-- 'laws.FnHistRank', WHERE WHAT IT READS IS OF BULK AT MOST 1048576: true; the input reads as it did. -/
def fnHistRankUptoRow : OpenClaim := { program := "ytpbffimlekgejaa", sum := "aafc717febff2a19c3a3becd81f3c54a11de42b22902e3e348d2640f3c638eca", func := "loop.example/loadbalancer/laws.FnHistRank", spec := "fnHistRank", apart := false, narrowed := true }
def FnHistRankUptoSaid : Prop := fnHistRankUptoRow.holds Try.pinned (OpenSpec.upto fnHistRankSpec)

/-- 'laws.FnHistOf', WHERE WHAT IT READS IS OF BULK AT MOST 1048576: true; the input reads as it did. -/
def fnHistOfUptoRow : OpenClaim := { program := "ytpbffimlekgejaa", sum := "aafc717febff2a19c3a3becd81f3c54a11de42b22902e3e348d2640f3c638eca", func := "loop.example/loadbalancer/laws.FnHistOf", spec := "fnHistOf", apart := false, narrowed := true }
def FnHistOfUptoSaid : Prop := fnHistOfUptoRow.holds Try.pinned (OpenSpec.upto fnHistOfSpec)

end Rows
end Go.Proofs.Ytpbffimlekgejaa
