/-
  No cell of these rows narrows 'for every input' (looked for: loops, veiled, ifaces, maps, wideKeys, modest, calm, conditions, laid).
  DERIVED. THE GIVEN ROWS OF THIS SEAT. 11 by the template 'for every input the law returns true; each argument reads behind the call as it read before'; 0 by the template 'total and deterministic' (their statements: YtdkdfehlmphikaaTotals.lean).
  GIVEN WITH THE SEED: the statements are not yours to turn. If you find one false, say at which input.
  Laid BY PROGRAM, IN A SANDBOX (cutbox-rows.mjs): the forced cells as the released guide's own fill.sh prints them over the translation 27d92bb3ff3f957e… (all of the seat's roots in one cut). By AI agents, Wed Nov 11 2026. No macro, syntax, notation, axiom, sorry.
-/
import Derived.Test.YtdkdfehlmphikaaChecked
import GoSem.Claim
import GoSem.ClaimJoined
import GoSem.ClaimMapViews
import Derived.JoinedTies
import Derived.KernelRfl
namespace Go.Proofs.Ytdkdfehlmphikaa
/- THE CELL 'sum', in the pinned program and in every row, IS THE sha256 OF THE DUMP (.gsa) THAT YtdkdfehlmphikaaProg.lean LOADS. Nothing in Lean hashes anything: it is a label: what it is worth is what the hold of that sum in a sandbox is worth. -/
noncomputable def Try.pinned : Pinned := { name := "ytdkdfehlmphikaa", sum := "27d92bb3ff3f957eb24253683a257214407e1eff9f9644ccef5f927d20ab49b9", checked := Try.checked }
namespace Rows
def none {H : Type} : Left H := { results := [], args := [] }

/-- 'laws.FnRunEvents': WHATEVER THE INPUT: true; the input reads as it did. -/
def fnRunEventsSpec : ChangeSpec := { name := "fnRunEvents", fn := fun _ => fun
  | [d] => { results := [.lit (.bool true)], args := [d] }
  | _ => none }
def fnRunEventsRow : OpenClaim := { program := "ytdkdfehlmphikaa", sum := "27d92bb3ff3f957eb24253683a257214407e1eff9f9644ccef5f927d20ab49b9", func := "loop.example/loadbalancer/laws.FnRunEvents", spec := "fnRunEvents", unfollowed := true, recurses := true, plainKeys := false, apart := false }
def FnRunEventsSaid : Prop := fnRunEventsRow.holds Try.pinned (OpenSpec.ofChange fnRunEventsSpec)

/-- ITS FALSE NEIGHBOUR: 'it returns false'. Refute it at one input. -/
def fnRunEventsWrong : ChangeSpec := { name := "fnRunEvents", fn := fun _ => fun
  | [d] => { results := [.lit (.bool false)], args := [d] }
  | _ => none }
def FnRunEventsWrongFalsely : Prop := fnRunEventsRow.holds Try.pinned (OpenSpec.ofChange fnRunEventsWrong)

/-- 'laws.FnExactForwardPacket': WHATEVER THE INPUT: true; the input reads as it did. -/
def fnExactForwardPacketSpec : ChangeSpec := { name := "fnExactForwardPacket", fn := fun _ => fun
  | [d1, d2, d3, d4] => { results := [.lit (.bool true)], args := [d1, d2, d3, d4] }
  | _ => none }
def fnExactForwardPacketRow : OpenClaim := { program := "ytdkdfehlmphikaa", sum := "27d92bb3ff3f957eb24253683a257214407e1eff9f9644ccef5f927d20ab49b9", func := "loop.example/loadbalancer/laws.FnExactForwardPacket", spec := "fnExactForwardPacket", unfollowed := true, recurses := true, plainKeys := false, apart := false }
def FnExactForwardPacketSaid : Prop := fnExactForwardPacketRow.holds Try.pinned (OpenSpec.ofChange fnExactForwardPacketSpec)

/-- ITS FALSE NEIGHBOUR: 'it returns false'. Refute it at one input. -/
def fnExactForwardPacketWrong : ChangeSpec := { name := "fnExactForwardPacket", fn := fun _ => fun
  | [d1, d2, d3, d4] => { results := [.lit (.bool false)], args := [d1, d2, d3, d4] }
  | _ => none }
def FnExactForwardPacketWrongFalsely : Prop := fnExactForwardPacketRow.holds Try.pinned (OpenSpec.ofChange fnExactForwardPacketWrong)

/-- 'laws.FnExactRunEvents': WHATEVER THE INPUT: true; the input reads as it did. -/
def fnExactRunEventsSpec : ChangeSpec := { name := "fnExactRunEvents", fn := fun _ => fun
  | [d1, d2, d3, d4] => { results := [.lit (.bool true)], args := [d1, d2, d3, d4] }
  | _ => none }
def fnExactRunEventsRow : OpenClaim := { program := "ytdkdfehlmphikaa", sum := "27d92bb3ff3f957eb24253683a257214407e1eff9f9644ccef5f927d20ab49b9", func := "loop.example/loadbalancer/laws.FnExactRunEvents", spec := "fnExactRunEvents", unfollowed := true, recurses := true, plainKeys := false, apart := false }
def FnExactRunEventsSaid : Prop := fnExactRunEventsRow.holds Try.pinned (OpenSpec.ofChange fnExactRunEventsSpec)

/-- ITS FALSE NEIGHBOUR: 'it returns false'. Refute it at one input. -/
def fnExactRunEventsWrong : ChangeSpec := { name := "fnExactRunEvents", fn := fun _ => fun
  | [d1, d2, d3, d4] => { results := [.lit (.bool false)], args := [d1, d2, d3, d4] }
  | _ => none }
def FnExactRunEventsWrongFalsely : Prop := fnExactRunEventsRow.holds Try.pinned (OpenSpec.ofChange fnExactRunEventsWrong)

/-- 'laws.FnFindFlow': WHATEVER THE INPUT: true; the input reads as it did. -/
def fnFindFlowSpec : ChangeSpec := { name := "fnFindFlow", fn := fun _ => fun
  | [d] => { results := [.lit (.bool true)], args := [d] }
  | _ => none }
def fnFindFlowRow : OpenClaim := { program := "ytdkdfehlmphikaa", sum := "27d92bb3ff3f957eb24253683a257214407e1eff9f9644ccef5f927d20ab49b9", func := "loop.example/loadbalancer/laws.FnFindFlow", spec := "fnFindFlow", unfollowed := true, recurses := true, plainKeys := false, apart := false }
def FnFindFlowSaid : Prop := fnFindFlowRow.holds Try.pinned (OpenSpec.ofChange fnFindFlowSpec)

/-- ITS FALSE NEIGHBOUR: 'it returns false'. Refute it at one input. -/
def fnFindFlowWrong : ChangeSpec := { name := "fnFindFlow", fn := fun _ => fun
  | [d] => { results := [.lit (.bool false)], args := [d] }
  | _ => none }
def FnFindFlowWrongFalsely : Prop := fnFindFlowRow.holds Try.pinned (OpenSpec.ofChange fnFindFlowWrong)

/-- 'laws.FnTouchFlow': WHATEVER THE INPUT: true; the input reads as it did. -/
def fnTouchFlowSpec : ChangeSpec := { name := "fnTouchFlow", fn := fun _ => fun
  | [d] => { results := [.lit (.bool true)], args := [d] }
  | _ => none }
def fnTouchFlowRow : OpenClaim := { program := "ytdkdfehlmphikaa", sum := "27d92bb3ff3f957eb24253683a257214407e1eff9f9644ccef5f927d20ab49b9", func := "loop.example/loadbalancer/laws.FnTouchFlow", spec := "fnTouchFlow", unfollowed := true, recurses := true, plainKeys := false, apart := false }
def FnTouchFlowSaid : Prop := fnTouchFlowRow.holds Try.pinned (OpenSpec.ofChange fnTouchFlowSpec)

/-- ITS FALSE NEIGHBOUR: 'it returns false'. Refute it at one input. -/
def fnTouchFlowWrong : ChangeSpec := { name := "fnTouchFlow", fn := fun _ => fun
  | [d] => { results := [.lit (.bool false)], args := [d] }
  | _ => none }
def FnTouchFlowWrongFalsely : Prop := fnTouchFlowRow.holds Try.pinned (OpenSpec.ofChange fnTouchFlowWrong)

/-- 'laws.FnDropFlow': WHATEVER THE INPUT: true; the input reads as it did. -/
def fnDropFlowSpec : ChangeSpec := { name := "fnDropFlow", fn := fun _ => fun
  | [d] => { results := [.lit (.bool true)], args := [d] }
  | _ => none }
def fnDropFlowRow : OpenClaim := { program := "ytdkdfehlmphikaa", sum := "27d92bb3ff3f957eb24253683a257214407e1eff9f9644ccef5f927d20ab49b9", func := "loop.example/loadbalancer/laws.FnDropFlow", spec := "fnDropFlow", unfollowed := true, recurses := true, plainKeys := false, apart := false }
def FnDropFlowSaid : Prop := fnDropFlowRow.holds Try.pinned (OpenSpec.ofChange fnDropFlowSpec)

/-- ITS FALSE NEIGHBOUR: 'it returns false'. Refute it at one input. -/
def fnDropFlowWrong : ChangeSpec := { name := "fnDropFlow", fn := fun _ => fun
  | [d] => { results := [.lit (.bool false)], args := [d] }
  | _ => none }
def FnDropFlowWrongFalsely : Prop := fnDropFlowRow.holds Try.pinned (OpenSpec.ofChange fnDropFlowWrong)

/-- 'laws.FnExpireTable': WHATEVER THE INPUT: true; the input reads as it did. -/
def fnExpireTableSpec : ChangeSpec := { name := "fnExpireTable", fn := fun _ => fun
  | [d] => { results := [.lit (.bool true)], args := [d] }
  | _ => none }
def fnExpireTableRow : OpenClaim := { program := "ytdkdfehlmphikaa", sum := "27d92bb3ff3f957eb24253683a257214407e1eff9f9644ccef5f927d20ab49b9", func := "loop.example/loadbalancer/laws.FnExpireTable", spec := "fnExpireTable", unfollowed := true, recurses := true, plainKeys := false, apart := false }
def FnExpireTableSaid : Prop := fnExpireTableRow.holds Try.pinned (OpenSpec.ofChange fnExpireTableSpec)

/-- ITS FALSE NEIGHBOUR: 'it returns false'. Refute it at one input. -/
def fnExpireTableWrong : ChangeSpec := { name := "fnExpireTable", fn := fun _ => fun
  | [d] => { results := [.lit (.bool false)], args := [d] }
  | _ => none }
def FnExpireTableWrongFalsely : Prop := fnExpireTableRow.holds Try.pinned (OpenSpec.ofChange fnExpireTableWrong)

/-- 'laws.FnExactDropFlow': WHATEVER THE INPUT: true; the input reads as it did. -/
def fnExactDropFlowSpec : ChangeSpec := { name := "fnExactDropFlow", fn := fun _ => fun
  | [d1, d2] => { results := [.lit (.bool true)], args := [d1, d2] }
  | _ => none }
def fnExactDropFlowRow : OpenClaim := { program := "ytdkdfehlmphikaa", sum := "27d92bb3ff3f957eb24253683a257214407e1eff9f9644ccef5f927d20ab49b9", func := "loop.example/loadbalancer/laws.FnExactDropFlow", spec := "fnExactDropFlow", unfollowed := true, recurses := true, plainKeys := false, apart := false }
def FnExactDropFlowSaid : Prop := fnExactDropFlowRow.holds Try.pinned (OpenSpec.ofChange fnExactDropFlowSpec)

/-- ITS FALSE NEIGHBOUR: 'it returns false'. Refute it at one input. -/
def fnExactDropFlowWrong : ChangeSpec := { name := "fnExactDropFlow", fn := fun _ => fun
  | [d1, d2] => { results := [.lit (.bool false)], args := [d1, d2] }
  | _ => none }
def FnExactDropFlowWrongFalsely : Prop := fnExactDropFlowRow.holds Try.pinned (OpenSpec.ofChange fnExactDropFlowWrong)

/-- 'laws.FnExactExpireTable': WHATEVER THE INPUT: true; the input reads as it did. -/
def fnExactExpireTableSpec : ChangeSpec := { name := "fnExactExpireTable", fn := fun _ => fun
  | [d1, d2] => { results := [.lit (.bool true)], args := [d1, d2] }
  | _ => none }
def fnExactExpireTableRow : OpenClaim := { program := "ytdkdfehlmphikaa", sum := "27d92bb3ff3f957eb24253683a257214407e1eff9f9644ccef5f927d20ab49b9", func := "loop.example/loadbalancer/laws.FnExactExpireTable", spec := "fnExactExpireTable", unfollowed := true, recurses := true, plainKeys := false, apart := false }
def FnExactExpireTableSaid : Prop := fnExactExpireTableRow.holds Try.pinned (OpenSpec.ofChange fnExactExpireTableSpec)

/-- ITS FALSE NEIGHBOUR: 'it returns false'. Refute it at one input. -/
def fnExactExpireTableWrong : ChangeSpec := { name := "fnExactExpireTable", fn := fun _ => fun
  | [d1, d2] => { results := [.lit (.bool false)], args := [d1, d2] }
  | _ => none }
def FnExactExpireTableWrongFalsely : Prop := fnExactExpireTableRow.holds Try.pinned (OpenSpec.ofChange fnExactExpireTableWrong)

/-- 'laws.FnExactTouchFlow': WHATEVER THE INPUT: true; the input reads as it did. -/
def fnExactTouchFlowSpec : ChangeSpec := { name := "fnExactTouchFlow", fn := fun _ => fun
  | [d1, d2, d3, d4] => { results := [.lit (.bool true)], args := [d1, d2, d3, d4] }
  | _ => none }
def fnExactTouchFlowRow : OpenClaim := { program := "ytdkdfehlmphikaa", sum := "27d92bb3ff3f957eb24253683a257214407e1eff9f9644ccef5f927d20ab49b9", func := "loop.example/loadbalancer/laws.FnExactTouchFlow", spec := "fnExactTouchFlow", unfollowed := true, recurses := true, plainKeys := false, apart := false }
def FnExactTouchFlowSaid : Prop := fnExactTouchFlowRow.holds Try.pinned (OpenSpec.ofChange fnExactTouchFlowSpec)

/-- ITS FALSE NEIGHBOUR: 'it returns false'. Refute it at one input. -/
def fnExactTouchFlowWrong : ChangeSpec := { name := "fnExactTouchFlow", fn := fun _ => fun
  | [d1, d2, d3, d4] => { results := [.lit (.bool false)], args := [d1, d2, d3, d4] }
  | _ => none }
def FnExactTouchFlowWrongFalsely : Prop := fnExactTouchFlowRow.holds Try.pinned (OpenSpec.ofChange fnExactTouchFlowWrong)

/-- 'laws.FnForwardPacket': WHATEVER THE INPUT: true; the input reads as it did. -/
def fnForwardPacketSpec : ChangeSpec := { name := "fnForwardPacket", fn := fun _ => fun
  | [d] => { results := [.lit (.bool true)], args := [d] }
  | _ => none }
def fnForwardPacketRow : OpenClaim := { program := "ytdkdfehlmphikaa", sum := "27d92bb3ff3f957eb24253683a257214407e1eff9f9644ccef5f927d20ab49b9", func := "loop.example/loadbalancer/laws.FnForwardPacket", spec := "fnForwardPacket", unfollowed := true, recurses := true, plainKeys := false, apart := false }
def FnForwardPacketSaid : Prop := fnForwardPacketRow.holds Try.pinned (OpenSpec.ofChange fnForwardPacketSpec)

/-- ITS FALSE NEIGHBOUR: 'it returns false'. Refute it at one input. -/
def fnForwardPacketWrong : ChangeSpec := { name := "fnForwardPacket", fn := fun _ => fun
  | [d] => { results := [.lit (.bool false)], args := [d] }
  | _ => none }
def FnForwardPacketWrongFalsely : Prop := fnForwardPacketRow.holds Try.pinned (OpenSpec.ofChange fnForwardPacketWrong)

/- THE SECOND FORM. 'bulk': how many values and letters a reading holds, each counted each time it is reached (what is shared counts as often as it is met; a slice's spare places count too). A statement '..UptoSaid' is the law's where the arguments, and the package variables that the reading takes, are together of bulk at most 1048576: NARROWER than '..Said'. Prove '..Said' where nothing that the law and all that it calls make is longer than what came in: it says more and counts as full. Else prove '..UptoSaid'. A law counts once. -/
mutual
def uptoBulk {H : Type} : DataW H → Nat
  | .lit (.string bytes) => bytes.length + 1
  | .lit _ => 1
  | .nil => 1
  | .ptr d => uptoBulk d + 1
  | .slice elems spare => uptoBulkAll elems + uptoBulkAll spare + 1
  | .agg parts => uptoBulkAll parts + 1
  | .iface _ d => uptoBulk d + 1
  | .map entries => uptoBulkEntries entries + 1
  | .held _ => 1
def uptoBulkAll {H : Type} : List (DataW H) → Nat
  | [] => 0
  | d :: r => uptoBulk d + uptoBulkAll r
def uptoBulkEntries {H : Type} : List (Lit × DataW H) → Nat
  | [] => 0
  | x :: r => uptoBulkEntry x + uptoBulkEntries r
def uptoBulkEntry {H : Type} : Lit × DataW H → Nat
  | (.string bytes, d) => bytes.length + uptoBulk d + 1
  | (_, d) => uptoBulk d + 1
 end
def uptoSmall : (H : Type) → List (DataW H) → Bool := fun _ ds => decide (uptoBulkAll ds ≤ 1048576)
def OpenSpec.upto (s : _root_.Go.ChangeSpec) : _root_.Go.OpenSpec := { _root_.Go.OpenSpec.ofChange s with cond := some uptoSmall }

/-- 'laws.FnRunEvents', WHERE WHAT IT READS IS OF BULK AT MOST 1048576: true; the input reads as it did. -/
def fnRunEventsUptoRow : OpenClaim := { program := "ytdkdfehlmphikaa", sum := "27d92bb3ff3f957eb24253683a257214407e1eff9f9644ccef5f927d20ab49b9", func := "loop.example/loadbalancer/laws.FnRunEvents", spec := "fnRunEvents", unfollowed := true, recurses := true, plainKeys := false, apart := false, narrowed := true }
def FnRunEventsUptoSaid : Prop := fnRunEventsUptoRow.holds Try.pinned (OpenSpec.upto fnRunEventsSpec)

/-- 'laws.FnExactForwardPacket', WHERE WHAT IT READS IS OF BULK AT MOST 1048576: true; the input reads as it did. -/
def fnExactForwardPacketUptoRow : OpenClaim := { program := "ytdkdfehlmphikaa", sum := "27d92bb3ff3f957eb24253683a257214407e1eff9f9644ccef5f927d20ab49b9", func := "loop.example/loadbalancer/laws.FnExactForwardPacket", spec := "fnExactForwardPacket", unfollowed := true, recurses := true, plainKeys := false, apart := false, narrowed := true }
def FnExactForwardPacketUptoSaid : Prop := fnExactForwardPacketUptoRow.holds Try.pinned (OpenSpec.upto fnExactForwardPacketSpec)

/-- 'laws.FnExactRunEvents', WHERE WHAT IT READS IS OF BULK AT MOST 1048576: true; the input reads as it did. -/
def fnExactRunEventsUptoRow : OpenClaim := { program := "ytdkdfehlmphikaa", sum := "27d92bb3ff3f957eb24253683a257214407e1eff9f9644ccef5f927d20ab49b9", func := "loop.example/loadbalancer/laws.FnExactRunEvents", spec := "fnExactRunEvents", unfollowed := true, recurses := true, plainKeys := false, apart := false, narrowed := true }
def FnExactRunEventsUptoSaid : Prop := fnExactRunEventsUptoRow.holds Try.pinned (OpenSpec.upto fnExactRunEventsSpec)

/-- 'laws.FnFindFlow', WHERE WHAT IT READS IS OF BULK AT MOST 1048576: true; the input reads as it did. -/
def fnFindFlowUptoRow : OpenClaim := { program := "ytdkdfehlmphikaa", sum := "27d92bb3ff3f957eb24253683a257214407e1eff9f9644ccef5f927d20ab49b9", func := "loop.example/loadbalancer/laws.FnFindFlow", spec := "fnFindFlow", unfollowed := true, recurses := true, plainKeys := false, apart := false, narrowed := true }
def FnFindFlowUptoSaid : Prop := fnFindFlowUptoRow.holds Try.pinned (OpenSpec.upto fnFindFlowSpec)

/-- 'laws.FnTouchFlow', WHERE WHAT IT READS IS OF BULK AT MOST 1048576: true; the input reads as it did. -/
def fnTouchFlowUptoRow : OpenClaim := { program := "ytdkdfehlmphikaa", sum := "27d92bb3ff3f957eb24253683a257214407e1eff9f9644ccef5f927d20ab49b9", func := "loop.example/loadbalancer/laws.FnTouchFlow", spec := "fnTouchFlow", unfollowed := true, recurses := true, plainKeys := false, apart := false, narrowed := true }
def FnTouchFlowUptoSaid : Prop := fnTouchFlowUptoRow.holds Try.pinned (OpenSpec.upto fnTouchFlowSpec)

/-- 'laws.FnDropFlow', WHERE WHAT IT READS IS OF BULK AT MOST 1048576: true; the input reads as it did. -/
def fnDropFlowUptoRow : OpenClaim := { program := "ytdkdfehlmphikaa", sum := "27d92bb3ff3f957eb24253683a257214407e1eff9f9644ccef5f927d20ab49b9", func := "loop.example/loadbalancer/laws.FnDropFlow", spec := "fnDropFlow", unfollowed := true, recurses := true, plainKeys := false, apart := false, narrowed := true }
def FnDropFlowUptoSaid : Prop := fnDropFlowUptoRow.holds Try.pinned (OpenSpec.upto fnDropFlowSpec)

/-- 'laws.FnExpireTable', WHERE WHAT IT READS IS OF BULK AT MOST 1048576: true; the input reads as it did. -/
def fnExpireTableUptoRow : OpenClaim := { program := "ytdkdfehlmphikaa", sum := "27d92bb3ff3f957eb24253683a257214407e1eff9f9644ccef5f927d20ab49b9", func := "loop.example/loadbalancer/laws.FnExpireTable", spec := "fnExpireTable", unfollowed := true, recurses := true, plainKeys := false, apart := false, narrowed := true }
def FnExpireTableUptoSaid : Prop := fnExpireTableUptoRow.holds Try.pinned (OpenSpec.upto fnExpireTableSpec)

/-- 'laws.FnExactDropFlow', WHERE WHAT IT READS IS OF BULK AT MOST 1048576: true; the input reads as it did. -/
def fnExactDropFlowUptoRow : OpenClaim := { program := "ytdkdfehlmphikaa", sum := "27d92bb3ff3f957eb24253683a257214407e1eff9f9644ccef5f927d20ab49b9", func := "loop.example/loadbalancer/laws.FnExactDropFlow", spec := "fnExactDropFlow", unfollowed := true, recurses := true, plainKeys := false, apart := false, narrowed := true }
def FnExactDropFlowUptoSaid : Prop := fnExactDropFlowUptoRow.holds Try.pinned (OpenSpec.upto fnExactDropFlowSpec)

/-- 'laws.FnExactExpireTable', WHERE WHAT IT READS IS OF BULK AT MOST 1048576: true; the input reads as it did. -/
def fnExactExpireTableUptoRow : OpenClaim := { program := "ytdkdfehlmphikaa", sum := "27d92bb3ff3f957eb24253683a257214407e1eff9f9644ccef5f927d20ab49b9", func := "loop.example/loadbalancer/laws.FnExactExpireTable", spec := "fnExactExpireTable", unfollowed := true, recurses := true, plainKeys := false, apart := false, narrowed := true }
def FnExactExpireTableUptoSaid : Prop := fnExactExpireTableUptoRow.holds Try.pinned (OpenSpec.upto fnExactExpireTableSpec)

/-- 'laws.FnExactTouchFlow', WHERE WHAT IT READS IS OF BULK AT MOST 1048576: true; the input reads as it did. -/
def fnExactTouchFlowUptoRow : OpenClaim := { program := "ytdkdfehlmphikaa", sum := "27d92bb3ff3f957eb24253683a257214407e1eff9f9644ccef5f927d20ab49b9", func := "loop.example/loadbalancer/laws.FnExactTouchFlow", spec := "fnExactTouchFlow", unfollowed := true, recurses := true, plainKeys := false, apart := false, narrowed := true }
def FnExactTouchFlowUptoSaid : Prop := fnExactTouchFlowUptoRow.holds Try.pinned (OpenSpec.upto fnExactTouchFlowSpec)

/-- 'laws.FnForwardPacket', WHERE WHAT IT READS IS OF BULK AT MOST 1048576: true; the input reads as it did. -/
def fnForwardPacketUptoRow : OpenClaim := { program := "ytdkdfehlmphikaa", sum := "27d92bb3ff3f957eb24253683a257214407e1eff9f9644ccef5f927d20ab49b9", func := "loop.example/loadbalancer/laws.FnForwardPacket", spec := "fnForwardPacket", unfollowed := true, recurses := true, plainKeys := false, apart := false, narrowed := true }
def FnForwardPacketUptoSaid : Prop := fnForwardPacketUptoRow.holds Try.pinned (OpenSpec.upto fnForwardPacketSpec)

end Rows
end Go.Proofs.Ytdkdfehlmphikaa
