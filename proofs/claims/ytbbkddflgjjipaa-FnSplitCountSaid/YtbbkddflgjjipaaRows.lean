/-
  No cell of these rows narrows 'for every input' (looked for: loops, veiled, ifaces, maps, wideKeys, modest, calm, conditions, laid).
  DERIVED. THE GIVEN ROWS OF THIS SEAT. 10 by the template 'for every input the law returns true; each argument reads behind the call as it read before'; 0 by the template 'total and deterministic' (their statements: YtbbkddflgjjipaaTotals.lean).
  GIVEN WITH THE SEED: the statements are not yours to turn. If you find one false, say at which input.
  Laid BY PROGRAM, IN A SANDBOX (cutbox-rows.mjs): the forced cells as the released guide's own fill.sh prints them over the translation 58cc80d0a6dfb7f4… (all of the seat's roots in one cut). By AI agents, Wed Nov 11 2026. No macro, syntax, notation, axiom, sorry.
-/
import Derived.Test.YtbbkddflgjjipaaChecked
import GoSem.Claim
import GoSem.ClaimJoined
import GoSem.ClaimMapViews
import Derived.JoinedTies
import Derived.KernelRfl
namespace Go.Proofs.Ytbbkddflgjjipaa
/- THE CELL 'sum', in the pinned program and in every row, IS THE sha256 OF THE DUMP (.gsa) THAT YtbbkddflgjjipaaProg.lean LOADS. Nothing in Lean hashes anything: it is a label: what it is worth is what the hold of that sum in a sandbox is worth. -/
noncomputable def Try.pinned : Pinned := { name := "ytbbkddflgjjipaa", sum := "58cc80d0a6dfb7f41703d7ddaa6bdc47e36aa2374c951b48374eb20cdc594b1b", checked := Try.checked }
namespace Rows
def none {H : Type} : Left H := { results := [], args := [] }

/-- 'laws.FnExactSplitKey': WHATEVER THE INPUT: true; the input reads as it did. -/
def fnExactSplitKeySpec : ChangeSpec := { name := "fnExactSplitKey", fn := fun _ => fun
  | [d1, d2] => { results := [.lit (.bool true)], args := [d1, d2] }
  | _ => none }
def fnExactSplitKeyRow : OpenClaim := { program := "ytbbkddflgjjipaa", sum := "58cc80d0a6dfb7f41703d7ddaa6bdc47e36aa2374c951b48374eb20cdc594b1b", func := "loop.example/loadbalancer/laws.FnExactSplitKey", spec := "fnExactSplitKey", apart := false }
def FnExactSplitKeySaid : Prop := fnExactSplitKeyRow.holds Try.pinned (OpenSpec.ofChange fnExactSplitKeySpec)

/-- ITS FALSE NEIGHBOUR: 'it returns false'. Refute it at one input. -/
def fnExactSplitKeyWrong : ChangeSpec := { name := "fnExactSplitKey", fn := fun _ => fun
  | [d1, d2] => { results := [.lit (.bool false)], args := [d1, d2] }
  | _ => none }
def FnExactSplitKeyWrongFalsely : Prop := fnExactSplitKeyRow.holds Try.pinned (OpenSpec.ofChange fnExactSplitKeyWrong)

/-- 'laws.FnSplitKey': WHATEVER THE INPUT: true; the input reads as it did. -/
def fnSplitKeySpec : ChangeSpec := { name := "fnSplitKey", fn := fun _ => fun
  | [d] => { results := [.lit (.bool true)], args := [d] }
  | _ => none }
def fnSplitKeyRow : OpenClaim := { program := "ytbbkddflgjjipaa", sum := "58cc80d0a6dfb7f41703d7ddaa6bdc47e36aa2374c951b48374eb20cdc594b1b", func := "loop.example/loadbalancer/laws.FnSplitKey", spec := "fnSplitKey", apart := false }
def FnSplitKeySaid : Prop := fnSplitKeyRow.holds Try.pinned (OpenSpec.ofChange fnSplitKeySpec)

/-- ITS FALSE NEIGHBOUR: 'it returns false'. Refute it at one input. -/
def fnSplitKeyWrong : ChangeSpec := { name := "fnSplitKey", fn := fun _ => fun
  | [d] => { results := [.lit (.bool false)], args := [d] }
  | _ => none }
def FnSplitKeyWrongFalsely : Prop := fnSplitKeyRow.holds Try.pinned (OpenSpec.ofChange fnSplitKeyWrong)

/-- 'laws.FnExactSplitCount': WHATEVER THE INPUT: true; the input reads as it did. -/
def fnExactSplitCountSpec : ChangeSpec := { name := "fnExactSplitCount", fn := fun _ => fun
  | [d1, d2] => { results := [.lit (.bool true)], args := [d1, d2] }
  | _ => none }
def fnExactSplitCountRow : OpenClaim := { program := "ytbbkddflgjjipaa", sum := "58cc80d0a6dfb7f41703d7ddaa6bdc47e36aa2374c951b48374eb20cdc594b1b", func := "loop.example/loadbalancer/laws.FnExactSplitCount", spec := "fnExactSplitCount", apart := false }
def FnExactSplitCountSaid : Prop := fnExactSplitCountRow.holds Try.pinned (OpenSpec.ofChange fnExactSplitCountSpec)

/-- ITS FALSE NEIGHBOUR: 'it returns false'. Refute it at one input. -/
def fnExactSplitCountWrong : ChangeSpec := { name := "fnExactSplitCount", fn := fun _ => fun
  | [d1, d2] => { results := [.lit (.bool false)], args := [d1, d2] }
  | _ => none }
def FnExactSplitCountWrongFalsely : Prop := fnExactSplitCountRow.holds Try.pinned (OpenSpec.ofChange fnExactSplitCountWrong)

/-- 'laws.FnExactSplitPart': WHATEVER THE INPUT: true; the input reads as it did. -/
def fnExactSplitPartSpec : ChangeSpec := { name := "fnExactSplitPart", fn := fun _ => fun
  | [d1, d2] => { results := [.lit (.bool true)], args := [d1, d2] }
  | _ => none }
def fnExactSplitPartRow : OpenClaim := { program := "ytbbkddflgjjipaa", sum := "58cc80d0a6dfb7f41703d7ddaa6bdc47e36aa2374c951b48374eb20cdc594b1b", func := "loop.example/loadbalancer/laws.FnExactSplitPart", spec := "fnExactSplitPart", apart := false }
def FnExactSplitPartSaid : Prop := fnExactSplitPartRow.holds Try.pinned (OpenSpec.ofChange fnExactSplitPartSpec)

/-- ITS FALSE NEIGHBOUR: 'it returns false'. Refute it at one input. -/
def fnExactSplitPartWrong : ChangeSpec := { name := "fnExactSplitPart", fn := fun _ => fun
  | [d1, d2] => { results := [.lit (.bool false)], args := [d1, d2] }
  | _ => none }
def FnExactSplitPartWrongFalsely : Prop := fnExactSplitPartRow.holds Try.pinned (OpenSpec.ofChange fnExactSplitPartWrong)

/-- 'laws.FnSplitCount': WHATEVER THE INPUT: true; the input reads as it did. -/
def fnSplitCountSpec : ChangeSpec := { name := "fnSplitCount", fn := fun _ => fun
  | [d] => { results := [.lit (.bool true)], args := [d] }
  | _ => none }
def fnSplitCountRow : OpenClaim := { program := "ytbbkddflgjjipaa", sum := "58cc80d0a6dfb7f41703d7ddaa6bdc47e36aa2374c951b48374eb20cdc594b1b", func := "loop.example/loadbalancer/laws.FnSplitCount", spec := "fnSplitCount", apart := false }
def FnSplitCountSaid : Prop := fnSplitCountRow.holds Try.pinned (OpenSpec.ofChange fnSplitCountSpec)

/-- ITS FALSE NEIGHBOUR: 'it returns false'. Refute it at one input. -/
def fnSplitCountWrong : ChangeSpec := { name := "fnSplitCount", fn := fun _ => fun
  | [d] => { results := [.lit (.bool false)], args := [d] }
  | _ => none }
def FnSplitCountWrongFalsely : Prop := fnSplitCountRow.holds Try.pinned (OpenSpec.ofChange fnSplitCountWrong)

/-- 'laws.FnSplitPart': WHATEVER THE INPUT: true; the input reads as it did. -/
def fnSplitPartSpec : ChangeSpec := { name := "fnSplitPart", fn := fun _ => fun
  | [d] => { results := [.lit (.bool true)], args := [d] }
  | _ => none }
def fnSplitPartRow : OpenClaim := { program := "ytbbkddflgjjipaa", sum := "58cc80d0a6dfb7f41703d7ddaa6bdc47e36aa2374c951b48374eb20cdc594b1b", func := "loop.example/loadbalancer/laws.FnSplitPart", spec := "fnSplitPart", apart := false }
def FnSplitPartSaid : Prop := fnSplitPartRow.holds Try.pinned (OpenSpec.ofChange fnSplitPartSpec)

/-- ITS FALSE NEIGHBOUR: 'it returns false'. Refute it at one input. -/
def fnSplitPartWrong : ChangeSpec := { name := "fnSplitPart", fn := fun _ => fun
  | [d] => { results := [.lit (.bool false)], args := [d] }
  | _ => none }
def FnSplitPartWrongFalsely : Prop := fnSplitPartRow.holds Try.pinned (OpenSpec.ofChange fnSplitPartWrong)

/-- 'laws.FnZoneHosts': WHATEVER THE INPUT: true; the input reads as it did. -/
def fnZoneHostsSpec : ChangeSpec := { name := "fnZoneHosts", fn := fun _ => fun
  | [d] => { results := [.lit (.bool true)], args := [d] }
  | _ => none }
def fnZoneHostsRow : OpenClaim := { program := "ytbbkddflgjjipaa", sum := "58cc80d0a6dfb7f41703d7ddaa6bdc47e36aa2374c951b48374eb20cdc594b1b", func := "loop.example/loadbalancer/laws.FnZoneHosts", spec := "fnZoneHosts", apart := false }
def FnZoneHostsSaid : Prop := fnZoneHostsRow.holds Try.pinned (OpenSpec.ofChange fnZoneHostsSpec)

/-- ITS FALSE NEIGHBOUR: 'it returns false'. Refute it at one input. -/
def fnZoneHostsWrong : ChangeSpec := { name := "fnZoneHosts", fn := fun _ => fun
  | [d] => { results := [.lit (.bool false)], args := [d] }
  | _ => none }
def FnZoneHostsWrongFalsely : Prop := fnZoneHostsRow.holds Try.pinned (OpenSpec.ofChange fnZoneHostsWrong)

/-- 'laws.FnExactZoneHosts': WHATEVER THE INPUT: true; the input reads as it did. -/
def fnExactZoneHostsSpec : ChangeSpec := { name := "fnExactZoneHosts", fn := fun _ => fun
  | [d1, d2, d3] => { results := [.lit (.bool true)], args := [d1, d2, d3] }
  | _ => none }
def fnExactZoneHostsRow : OpenClaim := { program := "ytbbkddflgjjipaa", sum := "58cc80d0a6dfb7f41703d7ddaa6bdc47e36aa2374c951b48374eb20cdc594b1b", func := "loop.example/loadbalancer/laws.FnExactZoneHosts", spec := "fnExactZoneHosts", apart := false }
def FnExactZoneHostsSaid : Prop := fnExactZoneHostsRow.holds Try.pinned (OpenSpec.ofChange fnExactZoneHostsSpec)

/-- ITS FALSE NEIGHBOUR: 'it returns false'. Refute it at one input. -/
def fnExactZoneHostsWrong : ChangeSpec := { name := "fnExactZoneHosts", fn := fun _ => fun
  | [d1, d2, d3] => { results := [.lit (.bool false)], args := [d1, d2, d3] }
  | _ => none }
def FnExactZoneHostsWrongFalsely : Prop := fnExactZoneHostsRow.holds Try.pinned (OpenSpec.ofChange fnExactZoneHostsWrong)

/-- 'laws.FnExactZoneHost': WHATEVER THE INPUT: true; the input reads as it did. -/
def fnExactZoneHostSpec : ChangeSpec := { name := "fnExactZoneHost", fn := fun _ => fun
  | [d1, d2, d3, d4] => { results := [.lit (.bool true)], args := [d1, d2, d3, d4] }
  | _ => none }
def fnExactZoneHostRow : OpenClaim := { program := "ytbbkddflgjjipaa", sum := "58cc80d0a6dfb7f41703d7ddaa6bdc47e36aa2374c951b48374eb20cdc594b1b", func := "loop.example/loadbalancer/laws.FnExactZoneHost", spec := "fnExactZoneHost", apart := false }
def FnExactZoneHostSaid : Prop := fnExactZoneHostRow.holds Try.pinned (OpenSpec.ofChange fnExactZoneHostSpec)

/-- ITS FALSE NEIGHBOUR: 'it returns false'. Refute it at one input. -/
def fnExactZoneHostWrong : ChangeSpec := { name := "fnExactZoneHost", fn := fun _ => fun
  | [d1, d2, d3, d4] => { results := [.lit (.bool false)], args := [d1, d2, d3, d4] }
  | _ => none }
def FnExactZoneHostWrongFalsely : Prop := fnExactZoneHostRow.holds Try.pinned (OpenSpec.ofChange fnExactZoneHostWrong)

/-- 'laws.FnZoneHost': WHATEVER THE INPUT: true; the input reads as it did. -/
def fnZoneHostSpec : ChangeSpec := { name := "fnZoneHost", fn := fun _ => fun
  | [d] => { results := [.lit (.bool true)], args := [d] }
  | _ => none }
def fnZoneHostRow : OpenClaim := { program := "ytbbkddflgjjipaa", sum := "58cc80d0a6dfb7f41703d7ddaa6bdc47e36aa2374c951b48374eb20cdc594b1b", func := "loop.example/loadbalancer/laws.FnZoneHost", spec := "fnZoneHost", unfollowed := true, recurses := true, apart := false }
def FnZoneHostSaid : Prop := fnZoneHostRow.holds Try.pinned (OpenSpec.ofChange fnZoneHostSpec)

/-- ITS FALSE NEIGHBOUR: 'it returns false'. Refute it at one input. -/
def fnZoneHostWrong : ChangeSpec := { name := "fnZoneHost", fn := fun _ => fun
  | [d] => { results := [.lit (.bool false)], args := [d] }
  | _ => none }
def FnZoneHostWrongFalsely : Prop := fnZoneHostRow.holds Try.pinned (OpenSpec.ofChange fnZoneHostWrong)

/- THE SECOND FORM. 'bulk': how many values and letters a reading holds, each counted each time it is reached (what is shared counts as often as it is met; a slice's spare places count too). A statement '..UptoSaid' is the law's where the arguments, and the package variables that the reading takes, are together of bulk at most 1048576: NARROWER than '..Said'. Prove '..Said' where nothing that the law and all that it calls make is longer than what came in: it says more and counts as full. Else prove '..UptoSaid'. A law counts once. -/
mutual
def uptoBulk {H : Type} : DataW H → Nat
  | .lit (.string bytes) => bytes.length + 1
  | .lit _ => 1
  | .nil => 1
  | .ptr d => uptoBulk d + 1
  | .slice elems spare => uptoBulkAll elems + uptoBulkAll spare + 1
  | .agg parts => uptoBulkAll parts + 1
  | .iface _ d => uptoBulk d + 1
  | .map entries => uptoBulkEntries entries + 1
  | .held _ => 1
def uptoBulkAll {H : Type} : List (DataW H) → Nat
  | [] => 0
  | d :: r => uptoBulk d + uptoBulkAll r
def uptoBulkEntries {H : Type} : List (Lit × DataW H) → Nat
  | [] => 0
  | x :: r => uptoBulkEntry x + uptoBulkEntries r
def uptoBulkEntry {H : Type} : Lit × DataW H → Nat
  | (.string bytes, d) => bytes.length + uptoBulk d + 1
  | (_, d) => uptoBulk d + 1
 end
def uptoSmall : (H : Type) → List (DataW H) → Bool := fun _ ds => decide (uptoBulkAll ds ≤ 1048576)
def OpenSpec.upto (s : _root_.Go.ChangeSpec) : _root_.Go.OpenSpec := { _root_.Go.OpenSpec.ofChange s with cond := some uptoSmall }

/-- 'laws.FnExactSplitKey', WHERE WHAT IT READS IS OF BULK AT MOST 1048576: true; the input reads as it did. -/
def fnExactSplitKeyUptoRow : OpenClaim := { program := "ytbbkddflgjjipaa", sum := "58cc80d0a6dfb7f41703d7ddaa6bdc47e36aa2374c951b48374eb20cdc594b1b", func := "loop.example/loadbalancer/laws.FnExactSplitKey", spec := "fnExactSplitKey", apart := false, narrowed := true }
def FnExactSplitKeyUptoSaid : Prop := fnExactSplitKeyUptoRow.holds Try.pinned (OpenSpec.upto fnExactSplitKeySpec)

/-- 'laws.FnSplitKey', WHERE WHAT IT READS IS OF BULK AT MOST 1048576: true; the input reads as it did. -/
def fnSplitKeyUptoRow : OpenClaim := { program := "ytbbkddflgjjipaa", sum := "58cc80d0a6dfb7f41703d7ddaa6bdc47e36aa2374c951b48374eb20cdc594b1b", func := "loop.example/loadbalancer/laws.FnSplitKey", spec := "fnSplitKey", apart := false, narrowed := true }
def FnSplitKeyUptoSaid : Prop := fnSplitKeyUptoRow.holds Try.pinned (OpenSpec.upto fnSplitKeySpec)

/-- 'laws.FnExactSplitCount', WHERE WHAT IT READS IS OF BULK AT MOST 1048576: true; the input reads as it did. -/
def fnExactSplitCountUptoRow : OpenClaim := { program := "ytbbkddflgjjipaa", sum := "58cc80d0a6dfb7f41703d7ddaa6bdc47e36aa2374c951b48374eb20cdc594b1b", func := "loop.example/loadbalancer/laws.FnExactSplitCount", spec := "fnExactSplitCount", apart := false, narrowed := true }
def FnExactSplitCountUptoSaid : Prop := fnExactSplitCountUptoRow.holds Try.pinned (OpenSpec.upto fnExactSplitCountSpec)

/-- 'laws.FnExactSplitPart', WHERE WHAT IT READS IS OF BULK AT MOST 1048576: true; the input reads as it did. -/
def fnExactSplitPartUptoRow : OpenClaim := { program := "ytbbkddflgjjipaa", sum := "58cc80d0a6dfb7f41703d7ddaa6bdc47e36aa2374c951b48374eb20cdc594b1b", func := "loop.example/loadbalancer/laws.FnExactSplitPart", spec := "fnExactSplitPart", apart := false, narrowed := true }
def FnExactSplitPartUptoSaid : Prop := fnExactSplitPartUptoRow.holds Try.pinned (OpenSpec.upto fnExactSplitPartSpec)

/-- 'laws.FnSplitCount', WHERE WHAT IT READS IS OF BULK AT MOST 1048576: true; the input reads as it did. -/
def fnSplitCountUptoRow : OpenClaim := { program := "ytbbkddflgjjipaa", sum := "58cc80d0a6dfb7f41703d7ddaa6bdc47e36aa2374c951b48374eb20cdc594b1b", func := "loop.example/loadbalancer/laws.FnSplitCount", spec := "fnSplitCount", apart := false, narrowed := true }
def FnSplitCountUptoSaid : Prop := fnSplitCountUptoRow.holds Try.pinned (OpenSpec.upto fnSplitCountSpec)

/-- 'laws.FnSplitPart', WHERE WHAT IT READS IS OF BULK AT MOST 1048576: true; the input reads as it did. -/
def fnSplitPartUptoRow : OpenClaim := { program := "ytbbkddflgjjipaa", sum := "58cc80d0a6dfb7f41703d7ddaa6bdc47e36aa2374c951b48374eb20cdc594b1b", func := "loop.example/loadbalancer/laws.FnSplitPart", spec := "fnSplitPart", apart := false, narrowed := true }
def FnSplitPartUptoSaid : Prop := fnSplitPartUptoRow.holds Try.pinned (OpenSpec.upto fnSplitPartSpec)

/-- 'laws.FnZoneHosts', WHERE WHAT IT READS IS OF BULK AT MOST 1048576: true; the input reads as it did. -/
def fnZoneHostsUptoRow : OpenClaim := { program := "ytbbkddflgjjipaa", sum := "58cc80d0a6dfb7f41703d7ddaa6bdc47e36aa2374c951b48374eb20cdc594b1b", func := "loop.example/loadbalancer/laws.FnZoneHosts", spec := "fnZoneHosts", apart := false, narrowed := true }
def FnZoneHostsUptoSaid : Prop := fnZoneHostsUptoRow.holds Try.pinned (OpenSpec.upto fnZoneHostsSpec)

/-- 'laws.FnExactZoneHosts', WHERE WHAT IT READS IS OF BULK AT MOST 1048576: true; the input reads as it did. -/
def fnExactZoneHostsUptoRow : OpenClaim := { program := "ytbbkddflgjjipaa", sum := "58cc80d0a6dfb7f41703d7ddaa6bdc47e36aa2374c951b48374eb20cdc594b1b", func := "loop.example/loadbalancer/laws.FnExactZoneHosts", spec := "fnExactZoneHosts", apart := false, narrowed := true }
def FnExactZoneHostsUptoSaid : Prop := fnExactZoneHostsUptoRow.holds Try.pinned (OpenSpec.upto fnExactZoneHostsSpec)

/-- 'laws.FnExactZoneHost', WHERE WHAT IT READS IS OF BULK AT MOST 1048576: true; the input reads as it did. -/
def fnExactZoneHostUptoRow : OpenClaim := { program := "ytbbkddflgjjipaa", sum := "58cc80d0a6dfb7f41703d7ddaa6bdc47e36aa2374c951b48374eb20cdc594b1b", func := "loop.example/loadbalancer/laws.FnExactZoneHost", spec := "fnExactZoneHost", apart := false, narrowed := true }
def FnExactZoneHostUptoSaid : Prop := fnExactZoneHostUptoRow.holds Try.pinned (OpenSpec.upto fnExactZoneHostSpec)

/-- 'laws.FnZoneHost', WHERE WHAT IT READS IS OF BULK AT MOST 1048576: true; the input reads as it did. -/
def fnZoneHostUptoRow : OpenClaim := { program := "ytbbkddflgjjipaa", sum := "58cc80d0a6dfb7f41703d7ddaa6bdc47e36aa2374c951b48374eb20cdc594b1b", func := "loop.example/loadbalancer/laws.FnZoneHost", spec := "fnZoneHost", unfollowed := true, recurses := true, apart := false, narrowed := true }
def FnZoneHostUptoSaid : Prop := fnZoneHostUptoRow.holds Try.pinned (OpenSpec.upto fnZoneHostSpec)

end Rows
end Go.Proofs.Ytbbkddflgjjipaa
