/-
  No cell of these rows narrows 'for every input' (looked for: loops, veiled, ifaces, maps, wideKeys, modest, calm, conditions, laid).
  DERIVED. THE GIVEN ROWS OF THIS SEAT. 9 by the template 'for every input the law returns true; each argument reads behind the call as it read before'; 0 by the template 'total and deterministic' (their statements: YtoldjebobgocpaaGreatTotals.lean).
  GIVEN WITH THE SEED: the statements are not yours to turn. If you find one false, say at which input.
  Laid BY PROGRAM, IN A SANDBOX (cutbox-rows.mjs): the forced cells as the released guide's own fill.sh prints them over the translation 39c215479af4c48a… (all of the seat's roots in one cut). By AI agents, Wed Nov 11 2026. No macro, syntax, notation, axiom, sorry.
-/
import Derived.Test.YtoldjebobgocpaaGreatChecked
import GoSem.Claim
import GoSem.ClaimJoined
import GoSem.ClaimMapViews
import Derived.JoinedTies
import Derived.KernelRfl
namespace Go.Proofs.YtoldjebobgocpaaGreat
/- THE CELL 'sum', in the pinned program and in every row, IS THE sha256 OF THE DUMP (.gsa) THAT YtoldjebobgocpaaGreatProg.lean LOADS. Nothing in Lean hashes anything: it is a label: what it is worth is what the hold of that sum in a sandbox is worth. -/
noncomputable def Tryz.pinned : Pinned := { name := "ytoldjebobgocpaagreat", sum := "39c215479af4c48a4ffe17af71a1cc9d25b5fc17977839793267cb581c4571ad", checked := Tryz.checked }
namespace Rows
def none {H : Type} : Left H := { results := [], args := [] }

/-- 'laws.FnExactPick': WHATEVER THE INPUT: true; the input reads as it did. -/
def fnExactPickSpec : ChangeSpec := { name := "fnExactPick", fn := fun _ => fun
  | [d1, d2] => { results := [.lit (.bool true)], args := [d1, d2] }
  | _ => none }
def fnExactPickRow : OpenClaim := { program := "ytoldjebobgocpaagreat", sum := "39c215479af4c48a4ffe17af71a1cc9d25b5fc17977839793267cb581c4571ad", func := "loop.example/g00797/laws.FnExactPick", spec := "fnExactPick", inPlace := ["slices.overlaps[loop.example/g00797/impl.Doc]", "slices.overlaps[loop.example/g00797/impl.Seen]", "slices.overlaps[loop.example/g00797/impl.Queue]"], unfollowed := true, recurses := true, apart := false }
def FnExactPickSaid : Prop := fnExactPickRow.holds Tryz.pinned (OpenSpec.ofChange fnExactPickSpec)

/-- ITS FALSE NEIGHBOUR: 'it returns false'. Refute it at one input. -/
def fnExactPickWrong : ChangeSpec := { name := "fnExactPick", fn := fun _ => fun
  | [d1, d2] => { results := [.lit (.bool false)], args := [d1, d2] }
  | _ => none }
def FnExactPickWrongFalsely : Prop := fnExactPickRow.holds Tryz.pinned (OpenSpec.ofChange fnExactPickWrong)

/-- 'laws.FnExactFinish': WHATEVER THE INPUT: true; the input reads as it did. -/
def fnExactFinishSpec : ChangeSpec := { name := "fnExactFinish", fn := fun _ => fun
  | [d1, d2] => { results := [.lit (.bool true)], args := [d1, d2] }
  | _ => none }
def fnExactFinishRow : OpenClaim := { program := "ytoldjebobgocpaagreat", sum := "39c215479af4c48a4ffe17af71a1cc9d25b5fc17977839793267cb581c4571ad", func := "loop.example/g00797/laws.FnExactFinish", spec := "fnExactFinish", inPlace := ["slices.overlaps[loop.example/g00797/impl.Doc]", "slices.overlaps[loop.example/g00797/impl.Seen]", "slices.overlaps[loop.example/g00797/impl.Queue]"], unfollowed := true, recurses := true, apart := false }
def FnExactFinishSaid : Prop := fnExactFinishRow.holds Tryz.pinned (OpenSpec.ofChange fnExactFinishSpec)

/-- ITS FALSE NEIGHBOUR: 'it returns false'. Refute it at one input. -/
def fnExactFinishWrong : ChangeSpec := { name := "fnExactFinish", fn := fun _ => fun
  | [d1, d2] => { results := [.lit (.bool false)], args := [d1, d2] }
  | _ => none }
def FnExactFinishWrongFalsely : Prop := fnExactFinishRow.holds Tryz.pinned (OpenSpec.ofChange fnExactFinishWrong)

/-- 'laws.FnExactLinear': WHATEVER THE INPUT: true; the input reads as it did. -/
def fnExactLinearSpec : ChangeSpec := { name := "fnExactLinear", fn := fun _ => fun
  | [d1, d2] => { results := [.lit (.bool true)], args := [d1, d2] }
  | _ => none }
def fnExactLinearRow : OpenClaim := { program := "ytoldjebobgocpaagreat", sum := "39c215479af4c48a4ffe17af71a1cc9d25b5fc17977839793267cb581c4571ad", func := "loop.example/g00797/laws.FnExactLinear", spec := "fnExactLinear", inPlace := ["slices.overlaps[loop.example/g00797/impl.Doc]", "slices.overlaps[loop.example/g00797/impl.Seen]"], unfollowed := true, recurses := true, apart := false }
def FnExactLinearSaid : Prop := fnExactLinearRow.holds Tryz.pinned (OpenSpec.ofChange fnExactLinearSpec)

/-- ITS FALSE NEIGHBOUR: 'it returns false'. Refute it at one input. -/
def fnExactLinearWrong : ChangeSpec := { name := "fnExactLinear", fn := fun _ => fun
  | [d1, d2] => { results := [.lit (.bool false)], args := [d1, d2] }
  | _ => none }
def FnExactLinearWrongFalsely : Prop := fnExactLinearRow.holds Tryz.pinned (OpenSpec.ofChange fnExactLinearWrong)

/-- 'laws.FnAlone': WHATEVER THE INPUT: true; the input reads as it did. -/
def fnAloneSpec : ChangeSpec := { name := "fnAlone", fn := fun _ => fun
  | [d] => { results := [.lit (.bool true)], args := [d] }
  | _ => none }
def fnAloneRow : OpenClaim := { program := "ytoldjebobgocpaagreat", sum := "39c215479af4c48a4ffe17af71a1cc9d25b5fc17977839793267cb581c4571ad", func := "loop.example/g00797/laws.FnAlone", spec := "fnAlone", inPlace := ["slices.overlaps[loop.example/g00797/impl.Doc]", "slices.overlaps[loop.example/g00797/impl.Seen]", "slices.overlaps[loop.example/g00797/impl.Queue]"], unfollowed := true, recurses := true, apart := false }
def FnAloneSaid : Prop := fnAloneRow.holds Tryz.pinned (OpenSpec.ofChange fnAloneSpec)

/-- ITS FALSE NEIGHBOUR: 'it returns false'. Refute it at one input. -/
def fnAloneWrong : ChangeSpec := { name := "fnAlone", fn := fun _ => fun
  | [d] => { results := [.lit (.bool false)], args := [d] }
  | _ => none }
def FnAloneWrongFalsely : Prop := fnAloneRow.holds Tryz.pinned (OpenSpec.ofChange fnAloneWrong)

/-- 'laws.FnStuck': WHATEVER THE INPUT: true; the input reads as it did. -/
def fnStuckSpec : ChangeSpec := { name := "fnStuck", fn := fun _ => fun
  | [d] => { results := [.lit (.bool true)], args := [d] }
  | _ => none }
def fnStuckRow : OpenClaim := { program := "ytoldjebobgocpaagreat", sum := "39c215479af4c48a4ffe17af71a1cc9d25b5fc17977839793267cb581c4571ad", func := "loop.example/g00797/laws.FnStuck", spec := "fnStuck", inPlace := ["slices.overlaps[loop.example/g00797/impl.Doc]", "slices.overlaps[loop.example/g00797/impl.Seen]", "slices.overlaps[loop.example/g00797/impl.Queue]"], unfollowed := true, recurses := true, apart := false }
def FnStuckSaid : Prop := fnStuckRow.holds Tryz.pinned (OpenSpec.ofChange fnStuckSpec)

/-- ITS FALSE NEIGHBOUR: 'it returns false'. Refute it at one input. -/
def fnStuckWrong : ChangeSpec := { name := "fnStuck", fn := fun _ => fun
  | [d] => { results := [.lit (.bool false)], args := [d] }
  | _ => none }
def FnStuckWrongFalsely : Prop := fnStuckRow.holds Tryz.pinned (OpenSpec.ofChange fnStuckWrong)

/-- 'laws.FnTime': WHATEVER THE INPUT: true; the input reads as it did. -/
def fnTimeSpec : ChangeSpec := { name := "fnTime", fn := fun _ => fun
  | [d] => { results := [.lit (.bool true)], args := [d] }
  | _ => none }
def fnTimeRow : OpenClaim := { program := "ytoldjebobgocpaagreat", sum := "39c215479af4c48a4ffe17af71a1cc9d25b5fc17977839793267cb581c4571ad", func := "loop.example/g00797/laws.FnTime", spec := "fnTime", inPlace := ["slices.overlaps[loop.example/g00797/impl.Doc]", "slices.overlaps[loop.example/g00797/impl.Seen]", "slices.overlaps[loop.example/g00797/impl.Queue]"], unfollowed := true, recurses := true, apart := false }
def FnTimeSaid : Prop := fnTimeRow.holds Tryz.pinned (OpenSpec.ofChange fnTimeSpec)

/-- ITS FALSE NEIGHBOUR: 'it returns false'. Refute it at one input. -/
def fnTimeWrong : ChangeSpec := { name := "fnTime", fn := fun _ => fun
  | [d] => { results := [.lit (.bool false)], args := [d] }
  | _ => none }
def FnTimeWrongFalsely : Prop := fnTimeRow.holds Tryz.pinned (OpenSpec.ofChange fnTimeWrong)

/-- 'laws.FnTop': WHATEVER THE INPUT: true; the input reads as it did. -/
def fnTopSpec : ChangeSpec := { name := "fnTop", fn := fun _ => fun
  | [d] => { results := [.lit (.bool true)], args := [d] }
  | _ => none }
def fnTopRow : OpenClaim := { program := "ytoldjebobgocpaagreat", sum := "39c215479af4c48a4ffe17af71a1cc9d25b5fc17977839793267cb581c4571ad", func := "loop.example/g00797/laws.FnTop", spec := "fnTop", inPlace := ["slices.overlaps[loop.example/g00797/impl.Doc]", "slices.overlaps[loop.example/g00797/impl.Seen]", "slices.overlaps[loop.example/g00797/impl.Queue]"], unfollowed := true, recurses := true, apart := false }
def FnTopSaid : Prop := fnTopRow.holds Tryz.pinned (OpenSpec.ofChange fnTopSpec)

/-- ITS FALSE NEIGHBOUR: 'it returns false'. Refute it at one input. -/
def fnTopWrong : ChangeSpec := { name := "fnTop", fn := fun _ => fun
  | [d] => { results := [.lit (.bool false)], args := [d] }
  | _ => none }
def FnTopWrongFalsely : Prop := fnTopRow.holds Tryz.pinned (OpenSpec.ofChange fnTopWrong)

/-- 'laws.FnNet': WHATEVER THE INPUT: true; the input reads as it did. -/
def fnNetSpec : ChangeSpec := { name := "fnNet", fn := fun _ => fun
  | [d] => { results := [.lit (.bool true)], args := [d] }
  | _ => none }
def fnNetRow : OpenClaim := { program := "ytoldjebobgocpaagreat", sum := "39c215479af4c48a4ffe17af71a1cc9d25b5fc17977839793267cb581c4571ad", func := "loop.example/g00797/laws.FnNet", spec := "fnNet", inPlace := ["slices.overlaps[loop.example/g00797/impl.Seen]"], unfollowed := true, recurses := true, apart := false }
def FnNetSaid : Prop := fnNetRow.holds Tryz.pinned (OpenSpec.ofChange fnNetSpec)

/-- ITS FALSE NEIGHBOUR: 'it returns false'. Refute it at one input. -/
def fnNetWrong : ChangeSpec := { name := "fnNet", fn := fun _ => fun
  | [d] => { results := [.lit (.bool false)], args := [d] }
  | _ => none }
def FnNetWrongFalsely : Prop := fnNetRow.holds Tryz.pinned (OpenSpec.ofChange fnNetWrong)

/-- 'laws.FnSettle': WHATEVER THE INPUT: true; the input reads as it did. -/
def fnSettleSpec : ChangeSpec := { name := "fnSettle", fn := fun _ => fun
  | [d] => { results := [.lit (.bool true)], args := [d] }
  | _ => none }
def fnSettleRow : OpenClaim := { program := "ytoldjebobgocpaagreat", sum := "39c215479af4c48a4ffe17af71a1cc9d25b5fc17977839793267cb581c4571ad", func := "loop.example/g00797/laws.FnSettle", spec := "fnSettle", inPlace := ["slices.overlaps[loop.example/g00797/impl.Seen]"], unfollowed := true, recurses := true, apart := false }
def FnSettleSaid : Prop := fnSettleRow.holds Tryz.pinned (OpenSpec.ofChange fnSettleSpec)

/-- ITS FALSE NEIGHBOUR: 'it returns false'. Refute it at one input. -/
def fnSettleWrong : ChangeSpec := { name := "fnSettle", fn := fun _ => fun
  | [d] => { results := [.lit (.bool false)], args := [d] }
  | _ => none }
def FnSettleWrongFalsely : Prop := fnSettleRow.holds Tryz.pinned (OpenSpec.ofChange fnSettleWrong)

/- THE SECOND FORM. 'bulk': how many values and letters a reading holds, each counted each time it is reached (what is shared counts as often as it is met; a slice's spare places count too). A statement '..UptoSaid' is the law's where the arguments, and the package variables that the reading takes, are together of bulk at most 1048576: NARROWER than '..Said'. Prove '..Said' where nothing that the law and all that it calls make is longer than what came in: it says more and counts as full. Else prove '..UptoSaid'. A law counts once. -/
mutual
def uptoBulk {H : Type} : DataW H → Nat
  | .lit (.string bytes) => bytes.length + 1
  | .lit _ => 1
  | .nil => 1
  | .ptr d => uptoBulk d + 1
  | .slice elems spare => uptoBulkAll elems + uptoBulkAll spare + 1
  | .agg parts => uptoBulkAll parts + 1
  | .iface _ d => uptoBulk d + 1
  | .map entries => uptoBulkEntries entries + 1
  | .held _ => 1
def uptoBulkAll {H : Type} : List (DataW H) → Nat
  | [] => 0
  | d :: r => uptoBulk d + uptoBulkAll r
def uptoBulkEntries {H : Type} : List (Lit × DataW H) → Nat
  | [] => 0
  | x :: r => uptoBulkEntry x + uptoBulkEntries r
def uptoBulkEntry {H : Type} : Lit × DataW H → Nat
  | (.string bytes, d) => bytes.length + uptoBulk d + 1
  | (_, d) => uptoBulk d + 1
 end
def uptoSmall : (H : Type) → List (DataW H) → Bool := fun _ ds => decide (uptoBulkAll ds ≤ 1048576)
def OpenSpec.upto (s : _root_.Go.ChangeSpec) : _root_.Go.OpenSpec := { _root_.Go.OpenSpec.ofChange s with cond := some uptoSmall }

/-- 'laws.FnExactPick', WHERE WHAT IT READS IS OF BULK AT MOST 1048576: true; the input reads as it did. -/
def fnExactPickUptoRow : OpenClaim := { program := "ytoldjebobgocpaagreat", sum := "39c215479af4c48a4ffe17af71a1cc9d25b5fc17977839793267cb581c4571ad", func := "loop.example/g00797/laws.FnExactPick", spec := "fnExactPick", inPlace := ["slices.overlaps[loop.example/g00797/impl.Doc]", "slices.overlaps[loop.example/g00797/impl.Seen]", "slices.overlaps[loop.example/g00797/impl.Queue]"], unfollowed := true, recurses := true, apart := false, narrowed := true }
def FnExactPickUptoSaid : Prop := fnExactPickUptoRow.holds Tryz.pinned (OpenSpec.upto fnExactPickSpec)

/-- 'laws.FnExactFinish', WHERE WHAT IT READS IS OF BULK AT MOST 1048576: true; the input reads as it did. -/
def fnExactFinishUptoRow : OpenClaim := { program := "ytoldjebobgocpaagreat", sum := "39c215479af4c48a4ffe17af71a1cc9d25b5fc17977839793267cb581c4571ad", func := "loop.example/g00797/laws.FnExactFinish", spec := "fnExactFinish", inPlace := ["slices.overlaps[loop.example/g00797/impl.Doc]", "slices.overlaps[loop.example/g00797/impl.Seen]", "slices.overlaps[loop.example/g00797/impl.Queue]"], unfollowed := true, recurses := true, apart := false, narrowed := true }
def FnExactFinishUptoSaid : Prop := fnExactFinishUptoRow.holds Tryz.pinned (OpenSpec.upto fnExactFinishSpec)

/-- 'laws.FnExactLinear', WHERE WHAT IT READS IS OF BULK AT MOST 1048576: true; the input reads as it did. -/
def fnExactLinearUptoRow : OpenClaim := { program := "ytoldjebobgocpaagreat", sum := "39c215479af4c48a4ffe17af71a1cc9d25b5fc17977839793267cb581c4571ad", func := "loop.example/g00797/laws.FnExactLinear", spec := "fnExactLinear", inPlace := ["slices.overlaps[loop.example/g00797/impl.Doc]", "slices.overlaps[loop.example/g00797/impl.Seen]"], unfollowed := true, recurses := true, apart := false, narrowed := true }
def FnExactLinearUptoSaid : Prop := fnExactLinearUptoRow.holds Tryz.pinned (OpenSpec.upto fnExactLinearSpec)

/-- 'laws.FnAlone', WHERE WHAT IT READS IS OF BULK AT MOST 1048576: true; the input reads as it did. -/
def fnAloneUptoRow : OpenClaim := { program := "ytoldjebobgocpaagreat", sum := "39c215479af4c48a4ffe17af71a1cc9d25b5fc17977839793267cb581c4571ad", func := "loop.example/g00797/laws.FnAlone", spec := "fnAlone", inPlace := ["slices.overlaps[loop.example/g00797/impl.Doc]", "slices.overlaps[loop.example/g00797/impl.Seen]", "slices.overlaps[loop.example/g00797/impl.Queue]"], unfollowed := true, recurses := true, apart := false, narrowed := true }
def FnAloneUptoSaid : Prop := fnAloneUptoRow.holds Tryz.pinned (OpenSpec.upto fnAloneSpec)

/-- 'laws.FnStuck', WHERE WHAT IT READS IS OF BULK AT MOST 1048576: true; the input reads as it did. -/
def fnStuckUptoRow : OpenClaim := { program := "ytoldjebobgocpaagreat", sum := "39c215479af4c48a4ffe17af71a1cc9d25b5fc17977839793267cb581c4571ad", func := "loop.example/g00797/laws.FnStuck", spec := "fnStuck", inPlace := ["slices.overlaps[loop.example/g00797/impl.Doc]", "slices.overlaps[loop.example/g00797/impl.Seen]", "slices.overlaps[loop.example/g00797/impl.Queue]"], unfollowed := true, recurses := true, apart := false, narrowed := true }
def FnStuckUptoSaid : Prop := fnStuckUptoRow.holds Tryz.pinned (OpenSpec.upto fnStuckSpec)

/-- 'laws.FnTime', WHERE WHAT IT READS IS OF BULK AT MOST 1048576: true; the input reads as it did. -/
def fnTimeUptoRow : OpenClaim := { program := "ytoldjebobgocpaagreat", sum := "39c215479af4c48a4ffe17af71a1cc9d25b5fc17977839793267cb581c4571ad", func := "loop.example/g00797/laws.FnTime", spec := "fnTime", inPlace := ["slices.overlaps[loop.example/g00797/impl.Doc]", "slices.overlaps[loop.example/g00797/impl.Seen]", "slices.overlaps[loop.example/g00797/impl.Queue]"], unfollowed := true, recurses := true, apart := false, narrowed := true }
def FnTimeUptoSaid : Prop := fnTimeUptoRow.holds Tryz.pinned (OpenSpec.upto fnTimeSpec)

/-- 'laws.FnTop', WHERE WHAT IT READS IS OF BULK AT MOST 1048576: true; the input reads as it did. -/
def fnTopUptoRow : OpenClaim := { program := "ytoldjebobgocpaagreat", sum := "39c215479af4c48a4ffe17af71a1cc9d25b5fc17977839793267cb581c4571ad", func := "loop.example/g00797/laws.FnTop", spec := "fnTop", inPlace := ["slices.overlaps[loop.example/g00797/impl.Doc]", "slices.overlaps[loop.example/g00797/impl.Seen]", "slices.overlaps[loop.example/g00797/impl.Queue]"], unfollowed := true, recurses := true, apart := false, narrowed := true }
def FnTopUptoSaid : Prop := fnTopUptoRow.holds Tryz.pinned (OpenSpec.upto fnTopSpec)

/-- 'laws.FnNet', WHERE WHAT IT READS IS OF BULK AT MOST 1048576: true; the input reads as it did. -/
def fnNetUptoRow : OpenClaim := { program := "ytoldjebobgocpaagreat", sum := "39c215479af4c48a4ffe17af71a1cc9d25b5fc17977839793267cb581c4571ad", func := "loop.example/g00797/laws.FnNet", spec := "fnNet", inPlace := ["slices.overlaps[loop.example/g00797/impl.Seen]"], unfollowed := true, recurses := true, apart := false, narrowed := true }
def FnNetUptoSaid : Prop := fnNetUptoRow.holds Tryz.pinned (OpenSpec.upto fnNetSpec)

/-- 'laws.FnSettle', WHERE WHAT IT READS IS OF BULK AT MOST 1048576: true; the input reads as it did. -/
def fnSettleUptoRow : OpenClaim := { program := "ytoldjebobgocpaagreat", sum := "39c215479af4c48a4ffe17af71a1cc9d25b5fc17977839793267cb581c4571ad", func := "loop.example/g00797/laws.FnSettle", spec := "fnSettle", inPlace := ["slices.overlaps[loop.example/g00797/impl.Seen]"], unfollowed := true, recurses := true, apart := false, narrowed := true }
def FnSettleUptoSaid : Prop := fnSettleUptoRow.holds Tryz.pinned (OpenSpec.upto fnSettleSpec)

end Rows
end Go.Proofs.YtoldjebobgocpaaGreat
