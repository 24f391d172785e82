/-
  No cell of these rows narrows 'for every input' (looked for: loops, veiled, ifaces, maps, wideKeys, modest, calm, conditions, laid).
  DERIVED. THE GIVEN ROWS OF THIS SEAT. 8 by the template 'for every input the law returns true; each argument reads behind the call as it read before'; 0 by the template 'total and deterministic' (their statements: YtalalapjanckdaaTotals.lean).
  GIVEN WITH THE SEED: the statements are not yours to turn. If you find one false, say at which input.
  Laid BY PROGRAM, IN A SANDBOX (cutbox-rows.mjs): the forced cells as the released guide's own fill.sh prints them over the translation 0f0a363c61105060… (all of the seat's roots in one cut). By AI agents, Wed Nov 11 2026. No macro, syntax, notation, axiom, sorry.
-/
import Derived.Test.YtalalapjanckdaaChecked
import GoSem.Claim
import GoSem.ClaimJoined
import GoSem.ClaimMapViews
import Derived.JoinedTies
import Derived.KernelRfl
namespace Go.Proofs.Ytalalapjanckdaa
/- THE CELL 'sum', in the pinned program and in every row, IS THE sha256 OF THE DUMP (.gsa) THAT YtalalapjanckdaaProg.lean LOADS. Nothing in Lean hashes anything: it is a label: what it is worth is what the hold of that sum in a sandbox is worth. -/
noncomputable def Try.pinned : Pinned := { name := "ytalalapjanckdaa", sum := "0f0a363c611050605eefc39c028c73afd136a38ab7911fea7c6c997969407f57", checked := Try.checked }
namespace Rows
def none {H : Type} : Left H := { results := [], args := [] }

/-- 'laws.FnOutletPorts': WHATEVER THE INPUT: true; the input reads as it did. -/
def fnOutletPortsSpec : ChangeSpec := { name := "fnOutletPorts", fn := fun _ => fun
  | [d] => { results := [.lit (.bool true)], args := [d] }
  | _ => none }
def fnOutletPortsRow : OpenClaim := { program := "ytalalapjanckdaa", sum := "0f0a363c611050605eefc39c028c73afd136a38ab7911fea7c6c997969407f57", func := "loop.example/loadbalancer/laws.FnOutletPorts", spec := "fnOutletPorts", plainKeys := false, apart := false }
def FnOutletPortsSaid : Prop := fnOutletPortsRow.holds Try.pinned (OpenSpec.ofChange fnOutletPortsSpec)

/-- ITS FALSE NEIGHBOUR: 'it returns false'. Refute it at one input. -/
def fnOutletPortsWrong : ChangeSpec := { name := "fnOutletPorts", fn := fun _ => fun
  | [d] => { results := [.lit (.bool false)], args := [d] }
  | _ => none }
def FnOutletPortsWrongFalsely : Prop := fnOutletPortsRow.holds Try.pinned (OpenSpec.ofChange fnOutletPortsWrong)

/-- 'laws.FnExactCloseOut': WHATEVER THE INPUT: true; the input reads as it did. -/
def fnExactCloseOutSpec : ChangeSpec := { name := "fnExactCloseOut", fn := fun _ => fun
  | [d1, d2] => { results := [.lit (.bool true)], args := [d1, d2] }
  | _ => none }
def fnExactCloseOutRow : OpenClaim := { program := "ytalalapjanckdaa", sum := "0f0a363c611050605eefc39c028c73afd136a38ab7911fea7c6c997969407f57", func := "loop.example/loadbalancer/laws.FnExactCloseOut", spec := "fnExactCloseOut", plainKeys := false, apart := false }
def FnExactCloseOutSaid : Prop := fnExactCloseOutRow.holds Try.pinned (OpenSpec.ofChange fnExactCloseOutSpec)

/-- ITS FALSE NEIGHBOUR: 'it returns false'. Refute it at one input. -/
def fnExactCloseOutWrong : ChangeSpec := { name := "fnExactCloseOut", fn := fun _ => fun
  | [d1, d2] => { results := [.lit (.bool false)], args := [d1, d2] }
  | _ => none }
def FnExactCloseOutWrongFalsely : Prop := fnExactCloseOutRow.holds Try.pinned (OpenSpec.ofChange fnExactCloseOutWrong)

/-- 'laws.FnSendOut': WHATEVER THE INPUT: true; the input reads as it did. -/
def fnSendOutSpec : ChangeSpec := { name := "fnSendOut", fn := fun _ => fun
  | [d] => { results := [.lit (.bool true)], args := [d] }
  | _ => none }
def fnSendOutRow : OpenClaim := { program := "ytalalapjanckdaa", sum := "0f0a363c611050605eefc39c028c73afd136a38ab7911fea7c6c997969407f57", func := "loop.example/loadbalancer/laws.FnSendOut", spec := "fnSendOut", plainKeys := false, apart := false }
def FnSendOutSaid : Prop := fnSendOutRow.holds Try.pinned (OpenSpec.ofChange fnSendOutSpec)

/-- ITS FALSE NEIGHBOUR: 'it returns false'. Refute it at one input. -/
def fnSendOutWrong : ChangeSpec := { name := "fnSendOut", fn := fun _ => fun
  | [d] => { results := [.lit (.bool false)], args := [d] }
  | _ => none }
def FnSendOutWrongFalsely : Prop := fnSendOutRow.holds Try.pinned (OpenSpec.ofChange fnSendOutWrong)

/-- 'laws.FnExactSendOut': WHATEVER THE INPUT: true; the input reads as it did. -/
def fnExactSendOutSpec : ChangeSpec := { name := "fnExactSendOut", fn := fun _ => fun
  | [d1, d2] => { results := [.lit (.bool true)], args := [d1, d2] }
  | _ => none }
def fnExactSendOutRow : OpenClaim := { program := "ytalalapjanckdaa", sum := "0f0a363c611050605eefc39c028c73afd136a38ab7911fea7c6c997969407f57", func := "loop.example/loadbalancer/laws.FnExactSendOut", spec := "fnExactSendOut", plainKeys := false, apart := false }
def FnExactSendOutSaid : Prop := fnExactSendOutRow.holds Try.pinned (OpenSpec.ofChange fnExactSendOutSpec)

/-- ITS FALSE NEIGHBOUR: 'it returns false'. Refute it at one input. -/
def fnExactSendOutWrong : ChangeSpec := { name := "fnExactSendOut", fn := fun _ => fun
  | [d1, d2] => { results := [.lit (.bool false)], args := [d1, d2] }
  | _ => none }
def FnExactSendOutWrongFalsely : Prop := fnExactSendOutRow.holds Try.pinned (OpenSpec.ofChange fnExactSendOutWrong)

/-- 'laws.FnReceive': WHATEVER THE INPUT: true; the input reads as it did. -/
def fnReceiveSpec : ChangeSpec := { name := "fnReceive", fn := fun _ => fun
  | [d] => { results := [.lit (.bool true)], args := [d] }
  | _ => none }
def fnReceiveRow : OpenClaim := { program := "ytalalapjanckdaa", sum := "0f0a363c611050605eefc39c028c73afd136a38ab7911fea7c6c997969407f57", func := "loop.example/loadbalancer/laws.FnReceive", spec := "fnReceive", inPlace := ["slices.overlaps[int]"], plainKeys := false, apart := false }
def FnReceiveSaid : Prop := fnReceiveRow.holds Try.pinned (OpenSpec.ofChange fnReceiveSpec)

/-- ITS FALSE NEIGHBOUR: 'it returns false'. Refute it at one input. -/
def fnReceiveWrong : ChangeSpec := { name := "fnReceive", fn := fun _ => fun
  | [d] => { results := [.lit (.bool false)], args := [d] }
  | _ => none }
def FnReceiveWrongFalsely : Prop := fnReceiveRow.holds Try.pinned (OpenSpec.ofChange fnReceiveWrong)

/-- 'laws.FnExactReceive': WHATEVER THE INPUT: true; the input reads as it did. -/
def fnExactReceiveSpec : ChangeSpec := { name := "fnExactReceive", fn := fun _ => fun
  | [d1, d2] => { results := [.lit (.bool true)], args := [d1, d2] }
  | _ => none }
def fnExactReceiveRow : OpenClaim := { program := "ytalalapjanckdaa", sum := "0f0a363c611050605eefc39c028c73afd136a38ab7911fea7c6c997969407f57", func := "loop.example/loadbalancer/laws.FnExactReceive", spec := "fnExactReceive", inPlace := ["slices.overlaps[int]"], plainKeys := false, apart := false }
def FnExactReceiveSaid : Prop := fnExactReceiveRow.holds Try.pinned (OpenSpec.ofChange fnExactReceiveSpec)

/-- ITS FALSE NEIGHBOUR: 'it returns false'. Refute it at one input. -/
def fnExactReceiveWrong : ChangeSpec := { name := "fnExactReceive", fn := fun _ => fun
  | [d1, d2] => { results := [.lit (.bool false)], args := [d1, d2] }
  | _ => none }
def FnExactReceiveWrongFalsely : Prop := fnExactReceiveRow.holds Try.pinned (OpenSpec.ofChange fnExactReceiveWrong)

/-- 'laws.FnReceiveAll': WHATEVER THE INPUT: true; the input reads as it did. -/
def fnReceiveAllSpec : ChangeSpec := { name := "fnReceiveAll", fn := fun _ => fun
  | [d] => { results := [.lit (.bool true)], args := [d] }
  | _ => none }
def fnReceiveAllRow : OpenClaim := { program := "ytalalapjanckdaa", sum := "0f0a363c611050605eefc39c028c73afd136a38ab7911fea7c6c997969407f57", func := "loop.example/loadbalancer/laws.FnReceiveAll", spec := "fnReceiveAll", inPlace := ["slices.overlaps[int]"], plainKeys := false, apart := false }
def FnReceiveAllSaid : Prop := fnReceiveAllRow.holds Try.pinned (OpenSpec.ofChange fnReceiveAllSpec)

/-- ITS FALSE NEIGHBOUR: 'it returns false'. Refute it at one input. -/
def fnReceiveAllWrong : ChangeSpec := { name := "fnReceiveAll", fn := fun _ => fun
  | [d] => { results := [.lit (.bool false)], args := [d] }
  | _ => none }
def FnReceiveAllWrongFalsely : Prop := fnReceiveAllRow.holds Try.pinned (OpenSpec.ofChange fnReceiveAllWrong)

/-- 'laws.FnExactReceiveAll': WHATEVER THE INPUT: true; the input reads as it did. -/
def fnExactReceiveAllSpec : ChangeSpec := { name := "fnExactReceiveAll", fn := fun _ => fun
  | [d1, d2] => { results := [.lit (.bool true)], args := [d1, d2] }
  | _ => none }
def fnExactReceiveAllRow : OpenClaim := { program := "ytalalapjanckdaa", sum := "0f0a363c611050605eefc39c028c73afd136a38ab7911fea7c6c997969407f57", func := "loop.example/loadbalancer/laws.FnExactReceiveAll", spec := "fnExactReceiveAll", inPlace := ["slices.overlaps[int]"], plainKeys := false, apart := false }
def FnExactReceiveAllSaid : Prop := fnExactReceiveAllRow.holds Try.pinned (OpenSpec.ofChange fnExactReceiveAllSpec)

/-- ITS FALSE NEIGHBOUR: 'it returns false'. Refute it at one input. -/
def fnExactReceiveAllWrong : ChangeSpec := { name := "fnExactReceiveAll", fn := fun _ => fun
  | [d1, d2] => { results := [.lit (.bool false)], args := [d1, d2] }
  | _ => none }
def FnExactReceiveAllWrongFalsely : Prop := fnExactReceiveAllRow.holds Try.pinned (OpenSpec.ofChange fnExactReceiveAllWrong)

/- THE SECOND FORM. 'bulk': how many values and letters a reading holds, each counted each time it is reached (what is shared counts as often as it is met; a slice's spare places count too). A statement '..UptoSaid' is the law's where the arguments, and the package variables that the reading takes, are together of bulk at most 1048576: NARROWER than '..Said'. Prove '..Said' where nothing that the law and all that it calls make is longer than what came in: it says more and counts as full. Else prove '..UptoSaid'. A law counts once. -/
mutual
def uptoBulk {H : Type} : DataW H → Nat
  | .lit (.string bytes) => bytes.length + 1
  | .lit _ => 1
  | .nil => 1
  | .ptr d => uptoBulk d + 1
  | .slice elems spare => uptoBulkAll elems + uptoBulkAll spare + 1
  | .agg parts => uptoBulkAll parts + 1
  | .iface _ d => uptoBulk d + 1
  | .map entries => uptoBulkEntries entries + 1
  | .held _ => 1
def uptoBulkAll {H : Type} : List (DataW H) → Nat
  | [] => 0
  | d :: r => uptoBulk d + uptoBulkAll r
def uptoBulkEntries {H : Type} : List (Lit × DataW H) → Nat
  | [] => 0
  | x :: r => uptoBulkEntry x + uptoBulkEntries r
def uptoBulkEntry {H : Type} : Lit × DataW H → Nat
  | (.string bytes, d) => bytes.length + uptoBulk d + 1
  | (_, d) => uptoBulk d + 1
 end
def uptoSmall : (H : Type) → List (DataW H) → Bool := fun _ ds => decide (uptoBulkAll ds ≤ 1048576)
def OpenSpec.upto (s : _root_.Go.ChangeSpec) : _root_.Go.OpenSpec := { _root_.Go.OpenSpec.ofChange s with cond := some uptoSmall }

/-- 'laws.FnOutletPorts', WHERE WHAT IT READS IS OF BULK AT MOST 1048576: true; the input reads as it did. -/
def fnOutletPortsUptoRow : OpenClaim := { program := "ytalalapjanckdaa", sum := "0f0a363c611050605eefc39c028c73afd136a38ab7911fea7c6c997969407f57", func := "loop.example/loadbalancer/laws.FnOutletPorts", spec := "fnOutletPorts", plainKeys := false, apart := false, narrowed := true }
def FnOutletPortsUptoSaid : Prop := fnOutletPortsUptoRow.holds Try.pinned (OpenSpec.upto fnOutletPortsSpec)

/-- 'laws.FnExactCloseOut', WHERE WHAT IT READS IS OF BULK AT MOST 1048576: true; the input reads as it did. -/
def fnExactCloseOutUptoRow : OpenClaim := { program := "ytalalapjanckdaa", sum := "0f0a363c611050605eefc39c028c73afd136a38ab7911fea7c6c997969407f57", func := "loop.example/loadbalancer/laws.FnExactCloseOut", spec := "fnExactCloseOut", plainKeys := false, apart := false, narrowed := true }
def FnExactCloseOutUptoSaid : Prop := fnExactCloseOutUptoRow.holds Try.pinned (OpenSpec.upto fnExactCloseOutSpec)

/-- 'laws.FnSendOut', WHERE WHAT IT READS IS OF BULK AT MOST 1048576: true; the input reads as it did. -/
def fnSendOutUptoRow : OpenClaim := { program := "ytalalapjanckdaa", sum := "0f0a363c611050605eefc39c028c73afd136a38ab7911fea7c6c997969407f57", func := "loop.example/loadbalancer/laws.FnSendOut", spec := "fnSendOut", plainKeys := false, apart := false, narrowed := true }
def FnSendOutUptoSaid : Prop := fnSendOutUptoRow.holds Try.pinned (OpenSpec.upto fnSendOutSpec)

/-- 'laws.FnExactSendOut', WHERE WHAT IT READS IS OF BULK AT MOST 1048576: true; the input reads as it did. -/
def fnExactSendOutUptoRow : OpenClaim := { program := "ytalalapjanckdaa", sum := "0f0a363c611050605eefc39c028c73afd136a38ab7911fea7c6c997969407f57", func := "loop.example/loadbalancer/laws.FnExactSendOut", spec := "fnExactSendOut", plainKeys := false, apart := false, narrowed := true }
def FnExactSendOutUptoSaid : Prop := fnExactSendOutUptoRow.holds Try.pinned (OpenSpec.upto fnExactSendOutSpec)

/-- 'laws.FnReceive', WHERE WHAT IT READS IS OF BULK AT MOST 1048576: true; the input reads as it did. -/
def fnReceiveUptoRow : OpenClaim := { program := "ytalalapjanckdaa", sum := "0f0a363c611050605eefc39c028c73afd136a38ab7911fea7c6c997969407f57", func := "loop.example/loadbalancer/laws.FnReceive", spec := "fnReceive", inPlace := ["slices.overlaps[int]"], plainKeys := false, apart := false, narrowed := true }
def FnReceiveUptoSaid : Prop := fnReceiveUptoRow.holds Try.pinned (OpenSpec.upto fnReceiveSpec)

/-- 'laws.FnExactReceive', WHERE WHAT IT READS IS OF BULK AT MOST 1048576: true; the input reads as it did. -/
def fnExactReceiveUptoRow : OpenClaim := { program := "ytalalapjanckdaa", sum := "0f0a363c611050605eefc39c028c73afd136a38ab7911fea7c6c997969407f57", func := "loop.example/loadbalancer/laws.FnExactReceive", spec := "fnExactReceive", inPlace := ["slices.overlaps[int]"], plainKeys := false, apart := false, narrowed := true }
def FnExactReceiveUptoSaid : Prop := fnExactReceiveUptoRow.holds Try.pinned (OpenSpec.upto fnExactReceiveSpec)

/-- 'laws.FnReceiveAll', WHERE WHAT IT READS IS OF BULK AT MOST 1048576: true; the input reads as it did. -/
def fnReceiveAllUptoRow : OpenClaim := { program := "ytalalapjanckdaa", sum := "0f0a363c611050605eefc39c028c73afd136a38ab7911fea7c6c997969407f57", func := "loop.example/loadbalancer/laws.FnReceiveAll", spec := "fnReceiveAll", inPlace := ["slices.overlaps[int]"], plainKeys := false, apart := false, narrowed := true }
def FnReceiveAllUptoSaid : Prop := fnReceiveAllUptoRow.holds Try.pinned (OpenSpec.upto fnReceiveAllSpec)

/-- 'laws.FnExactReceiveAll', WHERE WHAT IT READS IS OF BULK AT MOST 1048576: true; the input reads as it did. -/
def fnExactReceiveAllUptoRow : OpenClaim := { program := "ytalalapjanckdaa", sum := "0f0a363c611050605eefc39c028c73afd136a38ab7911fea7c6c997969407f57", func := "loop.example/loadbalancer/laws.FnExactReceiveAll", spec := "fnExactReceiveAll", inPlace := ["slices.overlaps[int]"], plainKeys := false, apart := false, narrowed := true }
def FnExactReceiveAllUptoSaid : Prop := fnExactReceiveAllUptoRow.holds Try.pinned (OpenSpec.upto fnExactReceiveAllSpec)

end Rows
end Go.Proofs.Ytalalapjanckdaa
