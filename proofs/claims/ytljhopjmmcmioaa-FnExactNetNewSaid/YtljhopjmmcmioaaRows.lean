/-
  No cell of these rows narrows 'for every input' (looked for: loops, veiled, ifaces, maps, wideKeys, modest, calm, conditions, laid).
  DERIVED. THE GIVEN ROWS OF THIS SEAT. 8 by the template 'for every input the law returns true; each argument reads behind the call as it read before'; 0 by the template 'total and deterministic' (their statements: YtljhopjmmcmioaaTotals.lean).
  GIVEN WITH THE SEED: the statements are not yours to turn. If you find one false, say at which input.
  Laid BY PROGRAM, IN A SANDBOX (cutbox-rows.mjs): the forced cells as the released guide's own fill.sh prints them over the translation 0da965d7a80497ef… (all of the seat's roots in one cut). By AI agents, Wed Nov 11 2026. No macro, syntax, notation, axiom, sorry.
-/
import Derived.Test.YtljhopjmmcmioaaChecked
import GoSem.Claim
import GoSem.ClaimJoined
import GoSem.ClaimMapViews
import Derived.JoinedTies
import Derived.KernelRfl
namespace Go.Proofs.Ytljhopjmmcmioaa
/- THE CELL 'sum', in the pinned program and in every row, IS THE sha256 OF THE DUMP (.gsa) THAT YtljhopjmmcmioaaProg.lean LOADS. Nothing in Lean hashes anything: it is a label: what it is worth is what the hold of that sum in a sandbox is worth. -/
noncomputable def Try.pinned : Pinned := { name := "ytljhopjmmcmioaa", sum := "0da965d7a80497ef1a98a6956670fa3c3f370e0f428595306b766b99e4ecbbf4", checked := Try.checked }
namespace Rows
def none {H : Type} : Left H := { results := [], args := [] }

/-- 'laws.FnExactRepSend': WHATEVER THE INPUT: true; the input reads as it did. -/
def fnExactRepSendSpec : ChangeSpec := { name := "fnExactRepSend", fn := fun _ => fun
  | [d] => { results := [.lit (.bool true)], args := [d] }
  | _ => none }
def fnExactRepSendRow : OpenClaim := { program := "ytljhopjmmcmioaa", sum := "0da965d7a80497ef1a98a6956670fa3c3f370e0f428595306b766b99e4ecbbf4", func := "loop.example/g00797/laws.FnExactRepSend", spec := "fnExactRepSend", unfollowed := true, recurses := true, apart := false }
def FnExactRepSendSaid : Prop := fnExactRepSendRow.holds Try.pinned (OpenSpec.ofChange fnExactRepSendSpec)

/-- ITS FALSE NEIGHBOUR: 'it returns false'. Refute it at one input. -/
def fnExactRepSendWrong : ChangeSpec := { name := "fnExactRepSend", fn := fun _ => fun
  | [d] => { results := [.lit (.bool false)], args := [d] }
  | _ => none }
def FnExactRepSendWrongFalsely : Prop := fnExactRepSendRow.holds Try.pinned (OpenSpec.ofChange fnExactRepSendWrong)

/-- 'laws.FnExactNetRest': WHATEVER THE INPUT: true; the input reads as it did. -/
def fnExactNetRestSpec : ChangeSpec := { name := "fnExactNetRest", fn := fun _ => fun
  | [d] => { results := [.lit (.bool true)], args := [d] }
  | _ => none }
def fnExactNetRestRow : OpenClaim := { program := "ytljhopjmmcmioaa", sum := "0da965d7a80497ef1a98a6956670fa3c3f370e0f428595306b766b99e4ecbbf4", func := "loop.example/g00797/laws.FnExactNetRest", spec := "fnExactNetRest", unfollowed := true, recurses := true, apart := false }
def FnExactNetRestSaid : Prop := fnExactNetRestRow.holds Try.pinned (OpenSpec.ofChange fnExactNetRestSpec)

/-- ITS FALSE NEIGHBOUR: 'it returns false'. Refute it at one input. -/
def fnExactNetRestWrong : ChangeSpec := { name := "fnExactNetRest", fn := fun _ => fun
  | [d] => { results := [.lit (.bool false)], args := [d] }
  | _ => none }
def FnExactNetRestWrongFalsely : Prop := fnExactNetRestRow.holds Try.pinned (OpenSpec.ofChange fnExactNetRestWrong)

/-- 'laws.FnExactRepEdit': WHATEVER THE INPUT: true; the input reads as it did. -/
def fnExactRepEditSpec : ChangeSpec := { name := "fnExactRepEdit", fn := fun _ => fun
  | [d1, d2] => { results := [.lit (.bool true)], args := [d1, d2] }
  | _ => none }
def fnExactRepEditRow : OpenClaim := { program := "ytljhopjmmcmioaa", sum := "0da965d7a80497ef1a98a6956670fa3c3f370e0f428595306b766b99e4ecbbf4", func := "loop.example/g00797/laws.FnExactRepEdit", spec := "fnExactRepEdit", unfollowed := true, recurses := true, apart := false }
def FnExactRepEditSaid : Prop := fnExactRepEditRow.holds Try.pinned (OpenSpec.ofChange fnExactRepEditSpec)

/-- ITS FALSE NEIGHBOUR: 'it returns false'. Refute it at one input. -/
def fnExactRepEditWrong : ChangeSpec := { name := "fnExactRepEdit", fn := fun _ => fun
  | [d1, d2] => { results := [.lit (.bool false)], args := [d1, d2] }
  | _ => none }
def FnExactRepEditWrongFalsely : Prop := fnExactRepEditRow.holds Try.pinned (OpenSpec.ofChange fnExactRepEditWrong)

/-- 'laws.FnExactRepTake': WHATEVER THE INPUT: true; the input reads as it did. -/
def fnExactRepTakeSpec : ChangeSpec := { name := "fnExactRepTake", fn := fun _ => fun
  | [d1, d2] => { results := [.lit (.bool true)], args := [d1, d2] }
  | _ => none }
def fnExactRepTakeRow : OpenClaim := { program := "ytljhopjmmcmioaa", sum := "0da965d7a80497ef1a98a6956670fa3c3f370e0f428595306b766b99e4ecbbf4", func := "loop.example/g00797/laws.FnExactRepTake", spec := "fnExactRepTake", unfollowed := true, recurses := true, apart := false }
def FnExactRepTakeSaid : Prop := fnExactRepTakeRow.holds Try.pinned (OpenSpec.ofChange fnExactRepTakeSpec)

/-- ITS FALSE NEIGHBOUR: 'it returns false'. Refute it at one input. -/
def fnExactRepTakeWrong : ChangeSpec := { name := "fnExactRepTake", fn := fun _ => fun
  | [d1, d2] => { results := [.lit (.bool false)], args := [d1, d2] }
  | _ => none }
def FnExactRepTakeWrongFalsely : Prop := fnExactRepTakeRow.holds Try.pinned (OpenSpec.ofChange fnExactRepTakeWrong)

/-- 'laws.FnExactNetNew': WHATEVER THE INPUT: true; the input reads as it did. -/
def fnExactNetNewSpec : ChangeSpec := { name := "fnExactNetNew", fn := fun _ => fun
  | [d1, d2, d3] => { results := [.lit (.bool true)], args := [d1, d2, d3] }
  | _ => none }
def fnExactNetNewRow : OpenClaim := { program := "ytljhopjmmcmioaa", sum := "0da965d7a80497ef1a98a6956670fa3c3f370e0f428595306b766b99e4ecbbf4", func := "loop.example/g00797/laws.FnExactNetNew", spec := "fnExactNetNew", unfollowed := true, recurses := true, apart := false }
def FnExactNetNewSaid : Prop := fnExactNetNewRow.holds Try.pinned (OpenSpec.ofChange fnExactNetNewSpec)

/-- ITS FALSE NEIGHBOUR: 'it returns false'. Refute it at one input. -/
def fnExactNetNewWrong : ChangeSpec := { name := "fnExactNetNew", fn := fun _ => fun
  | [d1, d2, d3] => { results := [.lit (.bool false)], args := [d1, d2, d3] }
  | _ => none }
def FnExactNetNewWrongFalsely : Prop := fnExactNetNewRow.holds Try.pinned (OpenSpec.ofChange fnExactNetNewWrong)

/-- 'laws.FnExactNetOk': WHATEVER THE INPUT: true; the input reads as it did. -/
def fnExactNetOkSpec : ChangeSpec := { name := "fnExactNetOk", fn := fun _ => fun
  | [d] => { results := [.lit (.bool true)], args := [d] }
  | _ => none }
def fnExactNetOkRow : OpenClaim := { program := "ytljhopjmmcmioaa", sum := "0da965d7a80497ef1a98a6956670fa3c3f370e0f428595306b766b99e4ecbbf4", func := "loop.example/g00797/laws.FnExactNetOk", spec := "fnExactNetOk", unfollowed := true, recurses := true, apart := false }
def FnExactNetOkSaid : Prop := fnExactNetOkRow.holds Try.pinned (OpenSpec.ofChange fnExactNetOkSpec)

/-- ITS FALSE NEIGHBOUR: 'it returns false'. Refute it at one input. -/
def fnExactNetOkWrong : ChangeSpec := { name := "fnExactNetOk", fn := fun _ => fun
  | [d] => { results := [.lit (.bool false)], args := [d] }
  | _ => none }
def FnExactNetOkWrongFalsely : Prop := fnExactNetOkRow.holds Try.pinned (OpenSpec.ofChange fnExactNetOkWrong)

/-- 'laws.FnExactRepAll': WHATEVER THE INPUT: true; the input reads as it did. -/
def fnExactRepAllSpec : ChangeSpec := { name := "fnExactRepAll", fn := fun _ => fun
  | [d1, d2] => { results := [.lit (.bool true)], args := [d1, d2] }
  | _ => none }
def fnExactRepAllRow : OpenClaim := { program := "ytljhopjmmcmioaa", sum := "0da965d7a80497ef1a98a6956670fa3c3f370e0f428595306b766b99e4ecbbf4", func := "loop.example/g00797/laws.FnExactRepAll", spec := "fnExactRepAll", unfollowed := true, recurses := true, apart := false }
def FnExactRepAllSaid : Prop := fnExactRepAllRow.holds Try.pinned (OpenSpec.ofChange fnExactRepAllSpec)

/-- ITS FALSE NEIGHBOUR: 'it returns false'. Refute it at one input. -/
def fnExactRepAllWrong : ChangeSpec := { name := "fnExactRepAll", fn := fun _ => fun
  | [d1, d2] => { results := [.lit (.bool false)], args := [d1, d2] }
  | _ => none }
def FnExactRepAllWrongFalsely : Prop := fnExactRepAllRow.holds Try.pinned (OpenSpec.ofChange fnExactRepAllWrong)

/-- 'laws.FnExactBusy': WHATEVER THE INPUT: true; the input reads as it did. -/
def fnExactBusySpec : ChangeSpec := { name := "fnExactBusy", fn := fun _ => fun
  | [d] => { results := [.lit (.bool true)], args := [d] }
  | _ => none }
def fnExactBusyRow : OpenClaim := { program := "ytljhopjmmcmioaa", sum := "0da965d7a80497ef1a98a6956670fa3c3f370e0f428595306b766b99e4ecbbf4", func := "loop.example/g00797/laws.FnExactBusy", spec := "fnExactBusy", apart := false }
def FnExactBusySaid : Prop := fnExactBusyRow.holds Try.pinned (OpenSpec.ofChange fnExactBusySpec)

/-- ITS FALSE NEIGHBOUR: 'it returns false'. Refute it at one input. -/
def fnExactBusyWrong : ChangeSpec := { name := "fnExactBusy", fn := fun _ => fun
  | [d] => { results := [.lit (.bool false)], args := [d] }
  | _ => none }
def FnExactBusyWrongFalsely : Prop := fnExactBusyRow.holds Try.pinned (OpenSpec.ofChange fnExactBusyWrong)

/- THE SECOND FORM. 'bulk': how many values and letters a reading holds, each counted each time it is reached (what is shared counts as often as it is met; a slice's spare places count too). A statement '..UptoSaid' is the law's where the arguments, and the package variables that the reading takes, are together of bulk at most 1048576: NARROWER than '..Said'. Prove '..Said' where nothing that the law and all that it calls make is longer than what came in: it says more and counts as full. Else prove '..UptoSaid'. A law counts once. -/
mutual
def uptoBulk {H : Type} : DataW H → Nat
  | .lit (.string bytes) => bytes.length + 1
  | .lit _ => 1
  | .nil => 1
  | .ptr d => uptoBulk d + 1
  | .slice elems spare => uptoBulkAll elems + uptoBulkAll spare + 1
  | .agg parts => uptoBulkAll parts + 1
  | .iface _ d => uptoBulk d + 1
  | .map entries => uptoBulkEntries entries + 1
  | .held _ => 1
def uptoBulkAll {H : Type} : List (DataW H) → Nat
  | [] => 0
  | d :: r => uptoBulk d + uptoBulkAll r
def uptoBulkEntries {H : Type} : List (Lit × DataW H) → Nat
  | [] => 0
  | x :: r => uptoBulkEntry x + uptoBulkEntries r
def uptoBulkEntry {H : Type} : Lit × DataW H → Nat
  | (.string bytes, d) => bytes.length + uptoBulk d + 1
  | (_, d) => uptoBulk d + 1
 end
def uptoSmall : (H : Type) → List (DataW H) → Bool := fun _ ds => decide (uptoBulkAll ds ≤ 1048576)
def OpenSpec.upto (s : _root_.Go.ChangeSpec) : _root_.Go.OpenSpec := { _root_.Go.OpenSpec.ofChange s with cond := some uptoSmall }

/-- 'laws.FnExactRepSend', WHERE WHAT IT READS IS OF BULK AT MOST 1048576: true; the input reads as it did. -/
def fnExactRepSendUptoRow : OpenClaim := { program := "ytljhopjmmcmioaa", sum := "0da965d7a80497ef1a98a6956670fa3c3f370e0f428595306b766b99e4ecbbf4", func := "loop.example/g00797/laws.FnExactRepSend", spec := "fnExactRepSend", unfollowed := true, recurses := true, apart := false, narrowed := true }
def FnExactRepSendUptoSaid : Prop := fnExactRepSendUptoRow.holds Try.pinned (OpenSpec.upto fnExactRepSendSpec)

/-- 'laws.FnExactNetRest', WHERE WHAT IT READS IS OF BULK AT MOST 1048576: true; the input reads as it did. -/
def fnExactNetRestUptoRow : OpenClaim := { program := "ytljhopjmmcmioaa", sum := "0da965d7a80497ef1a98a6956670fa3c3f370e0f428595306b766b99e4ecbbf4", func := "loop.example/g00797/laws.FnExactNetRest", spec := "fnExactNetRest", unfollowed := true, recurses := true, apart := false, narrowed := true }
def FnExactNetRestUptoSaid : Prop := fnExactNetRestUptoRow.holds Try.pinned (OpenSpec.upto fnExactNetRestSpec)

/-- 'laws.FnExactRepEdit', WHERE WHAT IT READS IS OF BULK AT MOST 1048576: true; the input reads as it did. -/
def fnExactRepEditUptoRow : OpenClaim := { program := "ytljhopjmmcmioaa", sum := "0da965d7a80497ef1a98a6956670fa3c3f370e0f428595306b766b99e4ecbbf4", func := "loop.example/g00797/laws.FnExactRepEdit", spec := "fnExactRepEdit", unfollowed := true, recurses := true, apart := false, narrowed := true }
def FnExactRepEditUptoSaid : Prop := fnExactRepEditUptoRow.holds Try.pinned (OpenSpec.upto fnExactRepEditSpec)

/-- 'laws.FnExactRepTake', WHERE WHAT IT READS IS OF BULK AT MOST 1048576: true; the input reads as it did. -/
def fnExactRepTakeUptoRow : OpenClaim := { program := "ytljhopjmmcmioaa", sum := "0da965d7a80497ef1a98a6956670fa3c3f370e0f428595306b766b99e4ecbbf4", func := "loop.example/g00797/laws.FnExactRepTake", spec := "fnExactRepTake", unfollowed := true, recurses := true, apart := false, narrowed := true }
def FnExactRepTakeUptoSaid : Prop := fnExactRepTakeUptoRow.holds Try.pinned (OpenSpec.upto fnExactRepTakeSpec)

/-- 'laws.FnExactNetNew', WHERE WHAT IT READS IS OF BULK AT MOST 1048576: true; the input reads as it did. -/
def fnExactNetNewUptoRow : OpenClaim := { program := "ytljhopjmmcmioaa", sum := "0da965d7a80497ef1a98a6956670fa3c3f370e0f428595306b766b99e4ecbbf4", func := "loop.example/g00797/laws.FnExactNetNew", spec := "fnExactNetNew", unfollowed := true, recurses := true, apart := false, narrowed := true }
def FnExactNetNewUptoSaid : Prop := fnExactNetNewUptoRow.holds Try.pinned (OpenSpec.upto fnExactNetNewSpec)

/-- 'laws.FnExactNetOk', WHERE WHAT IT READS IS OF BULK AT MOST 1048576: true; the input reads as it did. -/
def fnExactNetOkUptoRow : OpenClaim := { program := "ytljhopjmmcmioaa", sum := "0da965d7a80497ef1a98a6956670fa3c3f370e0f428595306b766b99e4ecbbf4", func := "loop.example/g00797/laws.FnExactNetOk", spec := "fnExactNetOk", unfollowed := true, recurses := true, apart := false, narrowed := true }
def FnExactNetOkUptoSaid : Prop := fnExactNetOkUptoRow.holds Try.pinned (OpenSpec.upto fnExactNetOkSpec)

/-- 'laws.FnExactRepAll', WHERE WHAT IT READS IS OF BULK AT MOST 1048576: true; the input reads as it did. -/
def fnExactRepAllUptoRow : OpenClaim := { program := "ytljhopjmmcmioaa", sum := "0da965d7a80497ef1a98a6956670fa3c3f370e0f428595306b766b99e4ecbbf4", func := "loop.example/g00797/laws.FnExactRepAll", spec := "fnExactRepAll", unfollowed := true, recurses := true, apart := false, narrowed := true }
def FnExactRepAllUptoSaid : Prop := fnExactRepAllUptoRow.holds Try.pinned (OpenSpec.upto fnExactRepAllSpec)

/-- 'laws.FnExactBusy', WHERE WHAT IT READS IS OF BULK AT MOST 1048576: true; the input reads as it did. -/
def fnExactBusyUptoRow : OpenClaim := { program := "ytljhopjmmcmioaa", sum := "0da965d7a80497ef1a98a6956670fa3c3f370e0f428595306b766b99e4ecbbf4", func := "loop.example/g00797/laws.FnExactBusy", spec := "fnExactBusy", apart := false, narrowed := true }
def FnExactBusyUptoSaid : Prop := fnExactBusyUptoRow.holds Try.pinned (OpenSpec.upto fnExactBusySpec)

end Rows
end Go.Proofs.Ytljhopjmmcmioaa
