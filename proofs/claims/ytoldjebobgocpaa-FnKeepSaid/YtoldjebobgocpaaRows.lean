/-
  No cell of these rows narrows 'for every input' (looked for: loops, veiled, ifaces, maps, wideKeys, modest, calm, conditions, laid).
  DERIVED. THE GIVEN ROWS OF THIS SEAT. 3 by the template 'for every input the law returns true; each argument reads behind the call as it read before'; 0 by the template 'total and deterministic' (their statements: YtoldjebobgocpaaTotals.lean).
  GIVEN WITH THE SEED: the statements are not yours to turn. If you find one false, say at which input.
  Laid BY PROGRAM, IN A SANDBOX (cutbox-rows.mjs): the forced cells as the released guide's own fill.sh prints them over the translation ef2eb27401186634… (all of the seat's roots in one cut). By AI agents, Wed Nov 11 2026. No macro, syntax, notation, axiom, sorry.
-/
import Derived.Test.YtoldjebobgocpaaChecked
import GoSem.Claim
import GoSem.ClaimJoined
import GoSem.ClaimMapViews
import Derived.JoinedTies
import Derived.KernelRfl
namespace Go.Proofs.Ytoldjebobgocpaa
/- THE CELL 'sum', in the pinned program and in every row, IS THE sha256 OF THE DUMP (.gsa) THAT YtoldjebobgocpaaProg.lean LOADS. Nothing in Lean hashes anything: it is a label: what it is worth is what the hold of that sum in a sandbox is worth. -/
noncomputable def Try.pinned : Pinned := { name := "ytoldjebobgocpaa", sum := "ef2eb2740118663438091443dafaeb8db70dc490cc50c774900967fe83c7c74e", checked := Try.checked }
namespace Rows
def none {H : Type} : Left H := { results := [], args := [] }

/-- 'laws.FnRep': WHATEVER THE INPUT: true; the input reads as it did. -/
def fnRepSpec : ChangeSpec := { name := "fnRep", fn := fun _ => fun
  | [d] => { results := [.lit (.bool true)], args := [d] }
  | _ => none }
def fnRepRow : OpenClaim := { program := "ytoldjebobgocpaa", sum := "ef2eb2740118663438091443dafaeb8db70dc490cc50c774900967fe83c7c74e", func := "loop.example/g00797/laws.FnRep", spec := "fnRep", unfollowed := true, recurses := true, apart := false }
def FnRepSaid : Prop := fnRepRow.holds Try.pinned (OpenSpec.ofChange fnRepSpec)

/-- ITS FALSE NEIGHBOUR: 'it returns false'. Refute it at one input. -/
def fnRepWrong : ChangeSpec := { name := "fnRep", fn := fun _ => fun
  | [d] => { results := [.lit (.bool false)], args := [d] }
  | _ => none }
def FnRepWrongFalsely : Prop := fnRepRow.holds Try.pinned (OpenSpec.ofChange fnRepWrong)

/-- 'laws.FnTake': WHATEVER THE INPUT: true; the input reads as it did. -/
def fnTakeSpec : ChangeSpec := { name := "fnTake", fn := fun _ => fun
  | [d] => { results := [.lit (.bool true)], args := [d] }
  | _ => none }
def fnTakeRow : OpenClaim := { program := "ytoldjebobgocpaa", sum := "ef2eb2740118663438091443dafaeb8db70dc490cc50c774900967fe83c7c74e", func := "loop.example/g00797/laws.FnTake", spec := "fnTake", unfollowed := true, recurses := true, apart := false }
def FnTakeSaid : Prop := fnTakeRow.holds Try.pinned (OpenSpec.ofChange fnTakeSpec)

/-- ITS FALSE NEIGHBOUR: 'it returns false'. Refute it at one input. -/
def fnTakeWrong : ChangeSpec := { name := "fnTake", fn := fun _ => fun
  | [d] => { results := [.lit (.bool false)], args := [d] }
  | _ => none }
def FnTakeWrongFalsely : Prop := fnTakeRow.holds Try.pinned (OpenSpec.ofChange fnTakeWrong)

/-- 'laws.FnKeep': WHATEVER THE INPUT: true; the input reads as it did. -/
def fnKeepSpec : ChangeSpec := { name := "fnKeep", fn := fun _ => fun
  | [d] => { results := [.lit (.bool true)], args := [d] }
  | _ => none }
def fnKeepRow : OpenClaim := { program := "ytoldjebobgocpaa", sum := "ef2eb2740118663438091443dafaeb8db70dc490cc50c774900967fe83c7c74e", func := "loop.example/g00797/laws.FnKeep", spec := "fnKeep", inPlace := ["slices.overlaps[loop.example/g00797/impl.Seen]"], unfollowed := true, recurses := true, apart := false }
def FnKeepSaid : Prop := fnKeepRow.holds Try.pinned (OpenSpec.ofChange fnKeepSpec)

/-- ITS FALSE NEIGHBOUR: 'it returns false'. Refute it at one input. -/
def fnKeepWrong : ChangeSpec := { name := "fnKeep", fn := fun _ => fun
  | [d] => { results := [.lit (.bool false)], args := [d] }
  | _ => none }
def FnKeepWrongFalsely : Prop := fnKeepRow.holds Try.pinned (OpenSpec.ofChange fnKeepWrong)

/- THE SECOND FORM. 'bulk': how many values and letters a reading holds, each counted each time it is reached (what is shared counts as often as it is met; a slice's spare places count too). A statement '..UptoSaid' is the law's where the arguments, and the package variables that the reading takes, are together of bulk at most 1048576: NARROWER than '..Said'. Prove '..Said' where nothing that the law and all that it calls make is longer than what came in: it says more and counts as full. Else prove '..UptoSaid'. A law counts once. -/
mutual
def uptoBulk {H : Type} : DataW H → Nat
  | .lit (.string bytes) => bytes.length + 1
  | .lit _ => 1
  | .nil => 1
  | .ptr d => uptoBulk d + 1
  | .slice elems spare => uptoBulkAll elems + uptoBulkAll spare + 1
  | .agg parts => uptoBulkAll parts + 1
  | .iface _ d => uptoBulk d + 1
  | .map entries => uptoBulkEntries entries + 1
  | .held _ => 1
def uptoBulkAll {H : Type} : List (DataW H) → Nat
  | [] => 0
  | d :: r => uptoBulk d + uptoBulkAll r
def uptoBulkEntries {H : Type} : List (Lit × DataW H) → Nat
  | [] => 0
  | x :: r => uptoBulkEntry x + uptoBulkEntries r
def uptoBulkEntry {H : Type} : Lit × DataW H → Nat
  | (.string bytes, d) => bytes.length + uptoBulk d + 1
  | (_, d) => uptoBulk d + 1
 end
def uptoSmall : (H : Type) → List (DataW H) → Bool := fun _ ds => decide (uptoBulkAll ds ≤ 1048576)
def OpenSpec.upto (s : _root_.Go.ChangeSpec) : _root_.Go.OpenSpec := { _root_.Go.OpenSpec.ofChange s with cond := some uptoSmall }

/-- 'laws.FnRep', WHERE WHAT IT READS IS OF BULK AT MOST 1048576: true; the input reads as it did. -/
def fnRepUptoRow : OpenClaim := { program := "ytoldjebobgocpaa", sum := "ef2eb2740118663438091443dafaeb8db70dc490cc50c774900967fe83c7c74e", func := "loop.example/g00797/laws.FnRep", spec := "fnRep", unfollowed := true, recurses := true, apart := false, narrowed := true }
def FnRepUptoSaid : Prop := fnRepUptoRow.holds Try.pinned (OpenSpec.upto fnRepSpec)

/-- 'laws.FnTake', WHERE WHAT IT READS IS OF BULK AT MOST 1048576: true; the input reads as it did. -/
def fnTakeUptoRow : OpenClaim := { program := "ytoldjebobgocpaa", sum := "ef2eb2740118663438091443dafaeb8db70dc490cc50c774900967fe83c7c74e", func := "loop.example/g00797/laws.FnTake", spec := "fnTake", unfollowed := true, recurses := true, apart := false, narrowed := true }
def FnTakeUptoSaid : Prop := fnTakeUptoRow.holds Try.pinned (OpenSpec.upto fnTakeSpec)

/-- 'laws.FnKeep', WHERE WHAT IT READS IS OF BULK AT MOST 1048576: true; the input reads as it did. -/
def fnKeepUptoRow : OpenClaim := { program := "ytoldjebobgocpaa", sum := "ef2eb2740118663438091443dafaeb8db70dc490cc50c774900967fe83c7c74e", func := "loop.example/g00797/laws.FnKeep", spec := "fnKeep", inPlace := ["slices.overlaps[loop.example/g00797/impl.Seen]"], unfollowed := true, recurses := true, apart := false, narrowed := true }
def FnKeepUptoSaid : Prop := fnKeepUptoRow.holds Try.pinned (OpenSpec.upto fnKeepSpec)

end Rows
end Go.Proofs.Ytoldjebobgocpaa
