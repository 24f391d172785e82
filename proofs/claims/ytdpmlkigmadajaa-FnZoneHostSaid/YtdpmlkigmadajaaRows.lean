/-
  No cell of these rows narrows 'for every input' (looked for: loops, veiled, ifaces, maps, wideKeys, modest, calm, conditions, laid).
  DERIVED. THE GIVEN ROWS OF THIS SEAT. 9 by the template 'for every input the law returns true; each argument reads behind the call as it read before'; 0 by the template 'total and deterministic' (their statements: YtdpmlkigmadajaaTotals.lean).
  GIVEN WITH THE SEED: the statements are not yours to turn. If you find one false, say at which input.
  Laid BY PROGRAM, IN A SANDBOX (cutbox-rows.mjs): the forced cells as the released guide's own fill.sh prints them over the translation dcc92a322a6da58c… (all of the seat's roots in one cut). By AI agents, Wed Nov 11 2026. No macro, syntax, notation, axiom, sorry.
-/
import Derived.Test.YtdpmlkigmadajaaChecked
import GoSem.Claim
import GoSem.ClaimJoined
import GoSem.ClaimMapViews
import Derived.JoinedTies
import Derived.KernelRfl
namespace Go.Proofs.Ytdpmlkigmadajaa
/- THE CELL 'sum', in the pinned program and in every row, IS THE sha256 OF THE DUMP (.gsa) THAT YtdpmlkigmadajaaProg.lean LOADS. Nothing in Lean hashes anything: it is a label: what it is worth is what the hold of that sum in a sandbox is worth. -/
noncomputable def Try.pinned : Pinned := { name := "ytdpmlkigmadajaa", sum := "dcc92a322a6da58c2c8e39860e9b7acd3ba77ec24ba2fd42ad68f81162ffc9a4", checked := Try.checked }
namespace Rows
def none {H : Type} : Left H := { results := [], args := [] }

/-- 'laws.FnTimingRun': WHATEVER THE INPUT: true; the input reads as it did. -/
def fnTimingRunSpec : ChangeSpec := { name := "fnTimingRun", fn := fun _ => fun
  | [d] => { results := [.lit (.bool true)], args := [d] }
  | _ => none }
def fnTimingRunRow : OpenClaim := { program := "ytdpmlkigmadajaa", sum := "dcc92a322a6da58c2c8e39860e9b7acd3ba77ec24ba2fd42ad68f81162ffc9a4", func := "loop.example/loadbalancer/laws.FnTimingRun", spec := "fnTimingRun", apart := false }
def FnTimingRunSaid : Prop := fnTimingRunRow.holds Try.pinned (OpenSpec.ofChange fnTimingRunSpec)

/-- ITS FALSE NEIGHBOUR: 'it returns false'. Refute it at one input. -/
def fnTimingRunWrong : ChangeSpec := { name := "fnTimingRun", fn := fun _ => fun
  | [d] => { results := [.lit (.bool false)], args := [d] }
  | _ => none }
def FnTimingRunWrongFalsely : Prop := fnTimingRunRow.holds Try.pinned (OpenSpec.ofChange fnTimingRunWrong)

/-- 'laws.FnZoneHosts': WHATEVER THE INPUT: true; the input reads as it did. -/
def fnZoneHostsSpec : ChangeSpec := { name := "fnZoneHosts", fn := fun _ => fun
  | [d] => { results := [.lit (.bool true)], args := [d] }
  | _ => none }
def fnZoneHostsRow : OpenClaim := { program := "ytdpmlkigmadajaa", sum := "dcc92a322a6da58c2c8e39860e9b7acd3ba77ec24ba2fd42ad68f81162ffc9a4", func := "loop.example/loadbalancer/laws.FnZoneHosts", spec := "fnZoneHosts", apart := false }
def FnZoneHostsSaid : Prop := fnZoneHostsRow.holds Try.pinned (OpenSpec.ofChange fnZoneHostsSpec)

/-- ITS FALSE NEIGHBOUR: 'it returns false'. Refute it at one input. -/
def fnZoneHostsWrong : ChangeSpec := { name := "fnZoneHosts", fn := fun _ => fun
  | [d] => { results := [.lit (.bool false)], args := [d] }
  | _ => none }
def FnZoneHostsWrongFalsely : Prop := fnZoneHostsRow.holds Try.pinned (OpenSpec.ofChange fnZoneHostsWrong)

/-- 'laws.FnBreakerGood': WHATEVER THE INPUT: true; the input reads as it did. -/
def fnBreakerGoodSpec : ChangeSpec := { name := "fnBreakerGood", fn := fun _ => fun
  | [d] => { results := [.lit (.bool true)], args := [d] }
  | _ => none }
def fnBreakerGoodRow : OpenClaim := { program := "ytdpmlkigmadajaa", sum := "dcc92a322a6da58c2c8e39860e9b7acd3ba77ec24ba2fd42ad68f81162ffc9a4", func := "loop.example/loadbalancer/laws.FnBreakerGood", spec := "fnBreakerGood", apart := false }
def FnBreakerGoodSaid : Prop := fnBreakerGoodRow.holds Try.pinned (OpenSpec.ofChange fnBreakerGoodSpec)

/-- ITS FALSE NEIGHBOUR: 'it returns false'. Refute it at one input. -/
def fnBreakerGoodWrong : ChangeSpec := { name := "fnBreakerGood", fn := fun _ => fun
  | [d] => { results := [.lit (.bool false)], args := [d] }
  | _ => none }
def FnBreakerGoodWrongFalsely : Prop := fnBreakerGoodRow.holds Try.pinned (OpenSpec.ofChange fnBreakerGoodWrong)

/-- 'laws.FnBreakerRun': WHATEVER THE INPUT: true; the input reads as it did. -/
def fnBreakerRunSpec : ChangeSpec := { name := "fnBreakerRun", fn := fun _ => fun
  | [d] => { results := [.lit (.bool true)], args := [d] }
  | _ => none }
def fnBreakerRunRow : OpenClaim := { program := "ytdpmlkigmadajaa", sum := "dcc92a322a6da58c2c8e39860e9b7acd3ba77ec24ba2fd42ad68f81162ffc9a4", func := "loop.example/loadbalancer/laws.FnBreakerRun", spec := "fnBreakerRun", apart := false }
def FnBreakerRunSaid : Prop := fnBreakerRunRow.holds Try.pinned (OpenSpec.ofChange fnBreakerRunSpec)

/-- ITS FALSE NEIGHBOUR: 'it returns false'. Refute it at one input. -/
def fnBreakerRunWrong : ChangeSpec := { name := "fnBreakerRun", fn := fun _ => fun
  | [d] => { results := [.lit (.bool false)], args := [d] }
  | _ => none }
def FnBreakerRunWrongFalsely : Prop := fnBreakerRunRow.holds Try.pinned (OpenSpec.ofChange fnBreakerRunWrong)

/-- 'laws.FnSplitPart': WHATEVER THE INPUT: true; the input reads as it did. -/
def fnSplitPartSpec : ChangeSpec := { name := "fnSplitPart", fn := fun _ => fun
  | [d] => { results := [.lit (.bool true)], args := [d] }
  | _ => none }
def fnSplitPartRow : OpenClaim := { program := "ytdpmlkigmadajaa", sum := "dcc92a322a6da58c2c8e39860e9b7acd3ba77ec24ba2fd42ad68f81162ffc9a4", func := "loop.example/loadbalancer/laws.FnSplitPart", spec := "fnSplitPart", apart := false }
def FnSplitPartSaid : Prop := fnSplitPartRow.holds Try.pinned (OpenSpec.ofChange fnSplitPartSpec)

/-- ITS FALSE NEIGHBOUR: 'it returns false'. Refute it at one input. -/
def fnSplitPartWrong : ChangeSpec := { name := "fnSplitPart", fn := fun _ => fun
  | [d] => { results := [.lit (.bool false)], args := [d] }
  | _ => none }
def FnSplitPartWrongFalsely : Prop := fnSplitPartRow.holds Try.pinned (OpenSpec.ofChange fnSplitPartWrong)

/-- 'laws.FnExactBreakerRun': WHATEVER THE INPUT: true; the input reads as it did. -/
def fnExactBreakerRunSpec : ChangeSpec := { name := "fnExactBreakerRun", fn := fun _ => fun
  | [d1, d2, d3] => { results := [.lit (.bool true)], args := [d1, d2, d3] }
  | _ => none }
def fnExactBreakerRunRow : OpenClaim := { program := "ytdpmlkigmadajaa", sum := "dcc92a322a6da58c2c8e39860e9b7acd3ba77ec24ba2fd42ad68f81162ffc9a4", func := "loop.example/loadbalancer/laws.FnExactBreakerRun", spec := "fnExactBreakerRun", apart := false }
def FnExactBreakerRunSaid : Prop := fnExactBreakerRunRow.holds Try.pinned (OpenSpec.ofChange fnExactBreakerRunSpec)

/-- ITS FALSE NEIGHBOUR: 'it returns false'. Refute it at one input. -/
def fnExactBreakerRunWrong : ChangeSpec := { name := "fnExactBreakerRun", fn := fun _ => fun
  | [d1, d2, d3] => { results := [.lit (.bool false)], args := [d1, d2, d3] }
  | _ => none }
def FnExactBreakerRunWrongFalsely : Prop := fnExactBreakerRunRow.holds Try.pinned (OpenSpec.ofChange fnExactBreakerRunWrong)

/-- 'laws.FnExactZoneHosts': WHATEVER THE INPUT: true; the input reads as it did. -/
def fnExactZoneHostsSpec : ChangeSpec := { name := "fnExactZoneHosts", fn := fun _ => fun
  | [d1, d2, d3] => { results := [.lit (.bool true)], args := [d1, d2, d3] }
  | _ => none }
def fnExactZoneHostsRow : OpenClaim := { program := "ytdpmlkigmadajaa", sum := "dcc92a322a6da58c2c8e39860e9b7acd3ba77ec24ba2fd42ad68f81162ffc9a4", func := "loop.example/loadbalancer/laws.FnExactZoneHosts", spec := "fnExactZoneHosts", apart := false }
def FnExactZoneHostsSaid : Prop := fnExactZoneHostsRow.holds Try.pinned (OpenSpec.ofChange fnExactZoneHostsSpec)

/-- ITS FALSE NEIGHBOUR: 'it returns false'. Refute it at one input. -/
def fnExactZoneHostsWrong : ChangeSpec := { name := "fnExactZoneHosts", fn := fun _ => fun
  | [d1, d2, d3] => { results := [.lit (.bool false)], args := [d1, d2, d3] }
  | _ => none }
def FnExactZoneHostsWrongFalsely : Prop := fnExactZoneHostsRow.holds Try.pinned (OpenSpec.ofChange fnExactZoneHostsWrong)

/-- 'laws.FnExactZoneHost': WHATEVER THE INPUT: true; the input reads as it did. -/
def fnExactZoneHostSpec : ChangeSpec := { name := "fnExactZoneHost", fn := fun _ => fun
  | [d1, d2, d3, d4] => { results := [.lit (.bool true)], args := [d1, d2, d3, d4] }
  | _ => none }
def fnExactZoneHostRow : OpenClaim := { program := "ytdpmlkigmadajaa", sum := "dcc92a322a6da58c2c8e39860e9b7acd3ba77ec24ba2fd42ad68f81162ffc9a4", func := "loop.example/loadbalancer/laws.FnExactZoneHost", spec := "fnExactZoneHost", apart := false }
def FnExactZoneHostSaid : Prop := fnExactZoneHostRow.holds Try.pinned (OpenSpec.ofChange fnExactZoneHostSpec)

/-- ITS FALSE NEIGHBOUR: 'it returns false'. Refute it at one input. -/
def fnExactZoneHostWrong : ChangeSpec := { name := "fnExactZoneHost", fn := fun _ => fun
  | [d1, d2, d3, d4] => { results := [.lit (.bool false)], args := [d1, d2, d3, d4] }
  | _ => none }
def FnExactZoneHostWrongFalsely : Prop := fnExactZoneHostRow.holds Try.pinned (OpenSpec.ofChange fnExactZoneHostWrong)

/-- 'laws.FnZoneHost': WHATEVER THE INPUT: true; the input reads as it did. -/
def fnZoneHostSpec : ChangeSpec := { name := "fnZoneHost", fn := fun _ => fun
  | [d] => { results := [.lit (.bool true)], args := [d] }
  | _ => none }
def fnZoneHostRow : OpenClaim := { program := "ytdpmlkigmadajaa", sum := "dcc92a322a6da58c2c8e39860e9b7acd3ba77ec24ba2fd42ad68f81162ffc9a4", func := "loop.example/loadbalancer/laws.FnZoneHost", spec := "fnZoneHost", unfollowed := true, recurses := true, apart := false }
def FnZoneHostSaid : Prop := fnZoneHostRow.holds Try.pinned (OpenSpec.ofChange fnZoneHostSpec)

/-- ITS FALSE NEIGHBOUR: 'it returns false'. Refute it at one input. -/
def fnZoneHostWrong : ChangeSpec := { name := "fnZoneHost", fn := fun _ => fun
  | [d] => { results := [.lit (.bool false)], args := [d] }
  | _ => none }
def FnZoneHostWrongFalsely : Prop := fnZoneHostRow.holds Try.pinned (OpenSpec.ofChange fnZoneHostWrong)

/- THE SECOND FORM. 'bulk': how many values and letters a reading holds, each counted each time it is reached (what is shared counts as often as it is met; a slice's spare places count too). A statement '..UptoSaid' is the law's where the arguments, and the package variables that the reading takes, are together of bulk at most 1048576: NARROWER than '..Said'. Prove '..Said' where nothing that the law and all that it calls make is longer than what came in: it says more and counts as full. Else prove '..UptoSaid'. A law counts once. -/
mutual
def uptoBulk {H : Type} : DataW H → Nat
  | .lit (.string bytes) => bytes.length + 1
  | .lit _ => 1
  | .nil => 1
  | .ptr d => uptoBulk d + 1
  | .slice elems spare => uptoBulkAll elems + uptoBulkAll spare + 1
  | .agg parts => uptoBulkAll parts + 1
  | .iface _ d => uptoBulk d + 1
  | .map entries => uptoBulkEntries entries + 1
  | .held _ => 1
def uptoBulkAll {H : Type} : List (DataW H) → Nat
  | [] => 0
  | d :: r => uptoBulk d + uptoBulkAll r
def uptoBulkEntries {H : Type} : List (Lit × DataW H) → Nat
  | [] => 0
  | x :: r => uptoBulkEntry x + uptoBulkEntries r
def uptoBulkEntry {H : Type} : Lit × DataW H → Nat
  | (.string bytes, d) => bytes.length + uptoBulk d + 1
  | (_, d) => uptoBulk d + 1
 end
def uptoSmall : (H : Type) → List (DataW H) → Bool := fun _ ds => decide (uptoBulkAll ds ≤ 1048576)
def OpenSpec.upto (s : _root_.Go.ChangeSpec) : _root_.Go.OpenSpec := { _root_.Go.OpenSpec.ofChange s with cond := some uptoSmall }

/-- 'laws.FnTimingRun', WHERE WHAT IT READS IS OF BULK AT MOST 1048576: true; the input reads as it did. -/
def fnTimingRunUptoRow : OpenClaim := { program := "ytdpmlkigmadajaa", sum := "dcc92a322a6da58c2c8e39860e9b7acd3ba77ec24ba2fd42ad68f81162ffc9a4", func := "loop.example/loadbalancer/laws.FnTimingRun", spec := "fnTimingRun", apart := false, narrowed := true }
def FnTimingRunUptoSaid : Prop := fnTimingRunUptoRow.holds Try.pinned (OpenSpec.upto fnTimingRunSpec)

/-- 'laws.FnZoneHosts', WHERE WHAT IT READS IS OF BULK AT MOST 1048576: true; the input reads as it did. -/
def fnZoneHostsUptoRow : OpenClaim := { program := "ytdpmlkigmadajaa", sum := "dcc92a322a6da58c2c8e39860e9b7acd3ba77ec24ba2fd42ad68f81162ffc9a4", func := "loop.example/loadbalancer/laws.FnZoneHosts", spec := "fnZoneHosts", apart := false, narrowed := true }
def FnZoneHostsUptoSaid : Prop := fnZoneHostsUptoRow.holds Try.pinned (OpenSpec.upto fnZoneHostsSpec)

/-- 'laws.FnBreakerGood', WHERE WHAT IT READS IS OF BULK AT MOST 1048576: true; the input reads as it did. -/
def fnBreakerGoodUptoRow : OpenClaim := { program := "ytdpmlkigmadajaa", sum := "dcc92a322a6da58c2c8e39860e9b7acd3ba77ec24ba2fd42ad68f81162ffc9a4", func := "loop.example/loadbalancer/laws.FnBreakerGood", spec := "fnBreakerGood", apart := false, narrowed := true }
def FnBreakerGoodUptoSaid : Prop := fnBreakerGoodUptoRow.holds Try.pinned (OpenSpec.upto fnBreakerGoodSpec)

/-- 'laws.FnBreakerRun', WHERE WHAT IT READS IS OF BULK AT MOST 1048576: true; the input reads as it did. -/
def fnBreakerRunUptoRow : OpenClaim := { program := "ytdpmlkigmadajaa", sum := "dcc92a322a6da58c2c8e39860e9b7acd3ba77ec24ba2fd42ad68f81162ffc9a4", func := "loop.example/loadbalancer/laws.FnBreakerRun", spec := "fnBreakerRun", apart := false, narrowed := true }
def FnBreakerRunUptoSaid : Prop := fnBreakerRunUptoRow.holds Try.pinned (OpenSpec.upto fnBreakerRunSpec)

/-- 'laws.FnSplitPart', WHERE WHAT IT READS IS OF BULK AT MOST 1048576: true; the input reads as it did. -/
def fnSplitPartUptoRow : OpenClaim := { program := "ytdpmlkigmadajaa", sum := "dcc92a322a6da58c2c8e39860e9b7acd3ba77ec24ba2fd42ad68f81162ffc9a4", func := "loop.example/loadbalancer/laws.FnSplitPart", spec := "fnSplitPart", apart := false, narrowed := true }
def FnSplitPartUptoSaid : Prop := fnSplitPartUptoRow.holds Try.pinned (OpenSpec.upto fnSplitPartSpec)

/-- 'laws.FnExactBreakerRun', WHERE WHAT IT READS IS OF BULK AT MOST 1048576: true; the input reads as it did. -/
def fnExactBreakerRunUptoRow : OpenClaim := { program := "ytdpmlkigmadajaa", sum := "dcc92a322a6da58c2c8e39860e9b7acd3ba77ec24ba2fd42ad68f81162ffc9a4", func := "loop.example/loadbalancer/laws.FnExactBreakerRun", spec := "fnExactBreakerRun", apart := false, narrowed := true }
def FnExactBreakerRunUptoSaid : Prop := fnExactBreakerRunUptoRow.holds Try.pinned (OpenSpec.upto fnExactBreakerRunSpec)

/-- 'laws.FnExactZoneHosts', WHERE WHAT IT READS IS OF BULK AT MOST 1048576: true; the input reads as it did. -/
def fnExactZoneHostsUptoRow : OpenClaim := { program := "ytdpmlkigmadajaa", sum := "dcc92a322a6da58c2c8e39860e9b7acd3ba77ec24ba2fd42ad68f81162ffc9a4", func := "loop.example/loadbalancer/laws.FnExactZoneHosts", spec := "fnExactZoneHosts", apart := false, narrowed := true }
def FnExactZoneHostsUptoSaid : Prop := fnExactZoneHostsUptoRow.holds Try.pinned (OpenSpec.upto fnExactZoneHostsSpec)

/-- 'laws.FnExactZoneHost', WHERE WHAT IT READS IS OF BULK AT MOST 1048576: true; the input reads as it did. -/
def fnExactZoneHostUptoRow : OpenClaim := { program := "ytdpmlkigmadajaa", sum := "dcc92a322a6da58c2c8e39860e9b7acd3ba77ec24ba2fd42ad68f81162ffc9a4", func := "loop.example/loadbalancer/laws.FnExactZoneHost", spec := "fnExactZoneHost", apart := false, narrowed := true }
def FnExactZoneHostUptoSaid : Prop := fnExactZoneHostUptoRow.holds Try.pinned (OpenSpec.upto fnExactZoneHostSpec)

/-- 'laws.FnZoneHost', WHERE WHAT IT READS IS OF BULK AT MOST 1048576: true; the input reads as it did. -/
def fnZoneHostUptoRow : OpenClaim := { program := "ytdpmlkigmadajaa", sum := "dcc92a322a6da58c2c8e39860e9b7acd3ba77ec24ba2fd42ad68f81162ffc9a4", func := "loop.example/loadbalancer/laws.FnZoneHost", spec := "fnZoneHost", unfollowed := true, recurses := true, apart := false, narrowed := true }
def FnZoneHostUptoSaid : Prop := fnZoneHostUptoRow.holds Try.pinned (OpenSpec.upto fnZoneHostSpec)

end Rows
end Go.Proofs.Ytdpmlkigmadajaa
