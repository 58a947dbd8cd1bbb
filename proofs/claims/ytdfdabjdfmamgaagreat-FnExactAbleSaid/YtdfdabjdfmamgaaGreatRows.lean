/-
  No cell of these rows narrows 'for every input' (looked for: loops, veiled, ifaces, maps, wideKeys, modest, calm, conditions, laid).
  DERIVED. THE GIVEN ROWS OF THIS SEAT. 12 by the template 'for every input the law returns true; each argument reads behind the call as it read before'; 0 by the template 'total and deterministic' (their statements: YtdfdabjdfmamgaaGreatTotals.lean).
  GIVEN WITH THE SEED: the statements are not yours to turn. If you find one false, say at which input.
  Laid BY PROGRAM, IN A SANDBOX (cutbox-rows.mjs): the forced cells as the released guide's own fill.sh prints them over the translation 302464995355e0b9… (all of the seat's roots in one cut). By AI agents, Wed Nov 11 2026. No macro, syntax, notation, axiom, sorry.
-/
import Derived.Test.YtdfdabjdfmamgaaGreatChecked
import GoSem.Claim
import GoSem.ClaimJoined
import GoSem.ClaimMapViews
import Derived.JoinedTies
import Derived.KernelRfl
namespace Go.Proofs.YtdfdabjdfmamgaaGreat
/- THE CELL 'sum', in the pinned program and in every row, IS THE sha256 OF THE DUMP (.gsa) THAT YtdfdabjdfmamgaaGreatProg.lean LOADS. Nothing in Lean hashes anything: it is a label: what it is worth is what the hold of that sum in a sandbox is worth. -/
noncomputable def Tryz.pinned : Pinned := { name := "ytdfdabjdfmamgaagreat", sum := "302464995355e0b97fe48cc0f7f9b9b659064051671e693712f079851299b7a8", checked := Tryz.checked }
namespace Rows
def none {H : Type} : Left H := { results := [], args := [] }

/-- 'laws.FnExactNetAlike': WHATEVER THE INPUT: true; the input reads as it did. -/
def fnExactNetAlikeSpec : ChangeSpec := { name := "fnExactNetAlike", fn := fun _ => fun
  | [d] => { results := [.lit (.bool true)], args := [d] }
  | _ => none }
def fnExactNetAlikeRow : OpenClaim := { program := "ytdfdabjdfmamgaagreat", sum := "302464995355e0b97fe48cc0f7f9b9b659064051671e693712f079851299b7a8", func := "loop.example/g00797/laws.FnExactNetAlike", spec := "fnExactNetAlike", unfollowed := true, recurses := true, apart := false }
def FnExactNetAlikeSaid : Prop := fnExactNetAlikeRow.holds Tryz.pinned (OpenSpec.ofChange fnExactNetAlikeSpec)

/-- ITS FALSE NEIGHBOUR: 'it returns false'. Refute it at one input. -/
def fnExactNetAlikeWrong : ChangeSpec := { name := "fnExactNetAlike", fn := fun _ => fun
  | [d] => { results := [.lit (.bool false)], args := [d] }
  | _ => none }
def FnExactNetAlikeWrongFalsely : Prop := fnExactNetAlikeRow.holds Tryz.pinned (OpenSpec.ofChange fnExactNetAlikeWrong)

/-- 'laws.FnExactDeskNew': WHATEVER THE INPUT: true; the input reads as it did. -/
def fnExactDeskNewSpec : ChangeSpec := { name := "fnExactDeskNew", fn := fun _ => fun
  | [] => { results := [.lit (.bool true)], args := [] }
  | _ => none }
def fnExactDeskNewRow : OpenClaim := { program := "ytdfdabjdfmamgaagreat", sum := "302464995355e0b97fe48cc0f7f9b9b659064051671e693712f079851299b7a8", func := "loop.example/g00797/laws.FnExactDeskNew", spec := "fnExactDeskNew", unfollowed := true, recurses := true, apart := false }
def FnExactDeskNewSaid : Prop := fnExactDeskNewRow.holds Tryz.pinned (OpenSpec.ofChange fnExactDeskNewSpec)

/-- ITS FALSE NEIGHBOUR: 'it returns false'. Refute it at one input. -/
def fnExactDeskNewWrong : ChangeSpec := { name := "fnExactDeskNew", fn := fun _ => fun
  | [] => { results := [.lit (.bool false)], args := [] }
  | _ => none }
def FnExactDeskNewWrongFalsely : Prop := fnExactDeskNewRow.holds Tryz.pinned (OpenSpec.ofChange fnExactDeskNewWrong)

/-- 'laws.FnExactDeskOk': WHATEVER THE INPUT: true; the input reads as it did. -/
def fnExactDeskOkSpec : ChangeSpec := { name := "fnExactDeskOk", fn := fun _ => fun
  | [d] => { results := [.lit (.bool true)], args := [d] }
  | _ => none }
def fnExactDeskOkRow : OpenClaim := { program := "ytdfdabjdfmamgaagreat", sum := "302464995355e0b97fe48cc0f7f9b9b659064051671e693712f079851299b7a8", func := "loop.example/g00797/laws.FnExactDeskOk", spec := "fnExactDeskOk", unfollowed := true, recurses := true, apart := false }
def FnExactDeskOkSaid : Prop := fnExactDeskOkRow.holds Tryz.pinned (OpenSpec.ofChange fnExactDeskOkSpec)

/-- ITS FALSE NEIGHBOUR: 'it returns false'. Refute it at one input. -/
def fnExactDeskOkWrong : ChangeSpec := { name := "fnExactDeskOk", fn := fun _ => fun
  | [d] => { results := [.lit (.bool false)], args := [d] }
  | _ => none }
def FnExactDeskOkWrongFalsely : Prop := fnExactDeskOkRow.holds Tryz.pinned (OpenSpec.ofChange fnExactDeskOkWrong)

/-- 'laws.FnExactWorldOk': WHATEVER THE INPUT: true; the input reads as it did. -/
def fnExactWorldOkSpec : ChangeSpec := { name := "fnExactWorldOk", fn := fun _ => fun
  | [d] => { results := [.lit (.bool true)], args := [d] }
  | _ => none }
def fnExactWorldOkRow : OpenClaim := { program := "ytdfdabjdfmamgaagreat", sum := "302464995355e0b97fe48cc0f7f9b9b659064051671e693712f079851299b7a8", func := "loop.example/g00797/laws.FnExactWorldOk", spec := "fnExactWorldOk", unfollowed := true, recurses := true, apart := false }
def FnExactWorldOkSaid : Prop := fnExactWorldOkRow.holds Tryz.pinned (OpenSpec.ofChange fnExactWorldOkSpec)

/-- ITS FALSE NEIGHBOUR: 'it returns false'. Refute it at one input. -/
def fnExactWorldOkWrong : ChangeSpec := { name := "fnExactWorldOk", fn := fun _ => fun
  | [d] => { results := [.lit (.bool false)], args := [d] }
  | _ => none }
def FnExactWorldOkWrongFalsely : Prop := fnExactWorldOkRow.holds Tryz.pinned (OpenSpec.ofChange fnExactWorldOkWrong)

/-- 'laws.FnExactWorldNew': WHATEVER THE INPUT: true; the input reads as it did. -/
def fnExactWorldNewSpec : ChangeSpec := { name := "fnExactWorldNew", fn := fun _ => fun
  | [d1, d2] => { results := [.lit (.bool true)], args := [d1, d2] }
  | _ => none }
def fnExactWorldNewRow : OpenClaim := { program := "ytdfdabjdfmamgaagreat", sum := "302464995355e0b97fe48cc0f7f9b9b659064051671e693712f079851299b7a8", func := "loop.example/g00797/laws.FnExactWorldNew", spec := "fnExactWorldNew", unfollowed := true, recurses := true, apart := false }
def FnExactWorldNewSaid : Prop := fnExactWorldNewRow.holds Tryz.pinned (OpenSpec.ofChange fnExactWorldNewSpec)

/-- ITS FALSE NEIGHBOUR: 'it returns false'. Refute it at one input. -/
def fnExactWorldNewWrong : ChangeSpec := { name := "fnExactWorldNew", fn := fun _ => fun
  | [d1, d2] => { results := [.lit (.bool false)], args := [d1, d2] }
  | _ => none }
def FnExactWorldNewWrongFalsely : Prop := fnExactWorldNewRow.holds Tryz.pinned (OpenSpec.ofChange fnExactWorldNewWrong)

/-- 'laws.FnExactWorkLeft': WHATEVER THE INPUT: true; the input reads as it did. -/
def fnExactWorkLeftSpec : ChangeSpec := { name := "fnExactWorkLeft", fn := fun _ => fun
  | [d] => { results := [.lit (.bool true)], args := [d] }
  | _ => none }
def fnExactWorkLeftRow : OpenClaim := { program := "ytdfdabjdfmamgaagreat", sum := "302464995355e0b97fe48cc0f7f9b9b659064051671e693712f079851299b7a8", func := "loop.example/g00797/laws.FnExactWorkLeft", spec := "fnExactWorkLeft", unfollowed := true, recurses := true, apart := false }
def FnExactWorkLeftSaid : Prop := fnExactWorkLeftRow.holds Tryz.pinned (OpenSpec.ofChange fnExactWorkLeftSpec)

/-- ITS FALSE NEIGHBOUR: 'it returns false'. Refute it at one input. -/
def fnExactWorkLeftWrong : ChangeSpec := { name := "fnExactWorkLeft", fn := fun _ => fun
  | [d] => { results := [.lit (.bool false)], args := [d] }
  | _ => none }
def FnExactWorkLeftWrongFalsely : Prop := fnExactWorkLeftRow.holds Tryz.pinned (OpenSpec.ofChange fnExactWorkLeftWrong)

/-- 'laws.FnExactServed': WHATEVER THE INPUT: true; the input reads as it did. -/
def fnExactServedSpec : ChangeSpec := { name := "fnExactServed", fn := fun _ => fun
  | [d] => { results := [.lit (.bool true)], args := [d] }
  | _ => none }
def fnExactServedRow : OpenClaim := { program := "ytdfdabjdfmamgaagreat", sum := "302464995355e0b97fe48cc0f7f9b9b659064051671e693712f079851299b7a8", func := "loop.example/g00797/laws.FnExactServed", spec := "fnExactServed", unfollowed := true, recurses := true, apart := false }
def FnExactServedSaid : Prop := fnExactServedRow.holds Tryz.pinned (OpenSpec.ofChange fnExactServedSpec)

/-- ITS FALSE NEIGHBOUR: 'it returns false'. Refute it at one input. -/
def fnExactServedWrong : ChangeSpec := { name := "fnExactServed", fn := fun _ => fun
  | [d] => { results := [.lit (.bool false)], args := [d] }
  | _ => none }
def FnExactServedWrongFalsely : Prop := fnExactServedRow.holds Tryz.pinned (OpenSpec.ofChange fnExactServedWrong)

/-- 'laws.FnExactCome': WHATEVER THE INPUT: true; the input reads as it did. -/
def fnExactComeSpec : ChangeSpec := { name := "fnExactCome", fn := fun _ => fun
  | [d1, d2] => { results := [.lit (.bool true)], args := [d1, d2] }
  | _ => none }
def fnExactComeRow : OpenClaim := { program := "ytdfdabjdfmamgaagreat", sum := "302464995355e0b97fe48cc0f7f9b9b659064051671e693712f079851299b7a8", func := "loop.example/g00797/laws.FnExactCome", spec := "fnExactCome", unfollowed := true, recurses := true, apart := false }
def FnExactComeSaid : Prop := fnExactComeRow.holds Tryz.pinned (OpenSpec.ofChange fnExactComeSpec)

/-- ITS FALSE NEIGHBOUR: 'it returns false'. Refute it at one input. -/
def fnExactComeWrong : ChangeSpec := { name := "fnExactCome", fn := fun _ => fun
  | [d1, d2] => { results := [.lit (.bool false)], args := [d1, d2] }
  | _ => none }
def FnExactComeWrongFalsely : Prop := fnExactComeRow.holds Tryz.pinned (OpenSpec.ofChange fnExactComeWrong)

/-- 'laws.FnExactNetDo': WHATEVER THE INPUT: true; the input reads as it did. -/
def fnExactNetDoSpec : ChangeSpec := { name := "fnExactNetDo", fn := fun _ => fun
  | [d1, d2] => { results := [.lit (.bool true)], args := [d1, d2] }
  | _ => none }
def fnExactNetDoRow : OpenClaim := { program := "ytdfdabjdfmamgaagreat", sum := "302464995355e0b97fe48cc0f7f9b9b659064051671e693712f079851299b7a8", func := "loop.example/g00797/laws.FnExactNetDo", spec := "fnExactNetDo", inPlace := ["slices.overlaps[loop.example/g00797/impl.Seen]"], unfollowed := true, recurses := true, apart := false }
def FnExactNetDoSaid : Prop := fnExactNetDoRow.holds Tryz.pinned (OpenSpec.ofChange fnExactNetDoSpec)

/-- ITS FALSE NEIGHBOUR: 'it returns false'. Refute it at one input. -/
def fnExactNetDoWrong : ChangeSpec := { name := "fnExactNetDo", fn := fun _ => fun
  | [d1, d2] => { results := [.lit (.bool false)], args := [d1, d2] }
  | _ => none }
def FnExactNetDoWrongFalsely : Prop := fnExactNetDoRow.holds Tryz.pinned (OpenSpec.ofChange fnExactNetDoWrong)

/-- 'laws.FnExactSettle': WHATEVER THE INPUT: true; the input reads as it did. -/
def fnExactSettleSpec : ChangeSpec := { name := "fnExactSettle", fn := fun _ => fun
  | [d] => { results := [.lit (.bool true)], args := [d] }
  | _ => none }
def fnExactSettleRow : OpenClaim := { program := "ytdfdabjdfmamgaagreat", sum := "302464995355e0b97fe48cc0f7f9b9b659064051671e693712f079851299b7a8", func := "loop.example/g00797/laws.FnExactSettle", spec := "fnExactSettle", inPlace := ["slices.overlaps[loop.example/g00797/impl.Seen]"], unfollowed := true, recurses := true, apart := false }
def FnExactSettleSaid : Prop := fnExactSettleRow.holds Tryz.pinned (OpenSpec.ofChange fnExactSettleSpec)

/-- ITS FALSE NEIGHBOUR: 'it returns false'. Refute it at one input. -/
def fnExactSettleWrong : ChangeSpec := { name := "fnExactSettle", fn := fun _ => fun
  | [d] => { results := [.lit (.bool false)], args := [d] }
  | _ => none }
def FnExactSettleWrongFalsely : Prop := fnExactSettleRow.holds Tryz.pinned (OpenSpec.ofChange fnExactSettleWrong)

/-- 'laws.FnExactNetAll': WHATEVER THE INPUT: true; the input reads as it did. -/
def fnExactNetAllSpec : ChangeSpec := { name := "fnExactNetAll", fn := fun _ => fun
  | [d1, d2] => { results := [.lit (.bool true)], args := [d1, d2] }
  | _ => none }
def fnExactNetAllRow : OpenClaim := { program := "ytdfdabjdfmamgaagreat", sum := "302464995355e0b97fe48cc0f7f9b9b659064051671e693712f079851299b7a8", func := "loop.example/g00797/laws.FnExactNetAll", spec := "fnExactNetAll", inPlace := ["slices.overlaps[loop.example/g00797/impl.Seen]"], unfollowed := true, recurses := true, apart := false }
def FnExactNetAllSaid : Prop := fnExactNetAllRow.holds Tryz.pinned (OpenSpec.ofChange fnExactNetAllSpec)

/-- ITS FALSE NEIGHBOUR: 'it returns false'. Refute it at one input. -/
def fnExactNetAllWrong : ChangeSpec := { name := "fnExactNetAll", fn := fun _ => fun
  | [d1, d2] => { results := [.lit (.bool false)], args := [d1, d2] }
  | _ => none }
def FnExactNetAllWrongFalsely : Prop := fnExactNetAllRow.holds Tryz.pinned (OpenSpec.ofChange fnExactNetAllWrong)

/-- 'laws.FnExactAble': WHATEVER THE INPUT: true; the input reads as it did. -/
def fnExactAbleSpec : ChangeSpec := { name := "fnExactAble", fn := fun _ => fun
  | [d] => { results := [.lit (.bool true)], args := [d] }
  | _ => none }
def fnExactAbleRow : OpenClaim := { program := "ytdfdabjdfmamgaagreat", sum := "302464995355e0b97fe48cc0f7f9b9b659064051671e693712f079851299b7a8", func := "loop.example/g00797/laws.FnExactAble", spec := "fnExactAble", unfollowed := true, recurses := true, apart := false }
def FnExactAbleSaid : Prop := fnExactAbleRow.holds Tryz.pinned (OpenSpec.ofChange fnExactAbleSpec)

/-- ITS FALSE NEIGHBOUR: 'it returns false'. Refute it at one input. -/
def fnExactAbleWrong : ChangeSpec := { name := "fnExactAble", fn := fun _ => fun
  | [d] => { results := [.lit (.bool false)], args := [d] }
  | _ => none }
def FnExactAbleWrongFalsely : Prop := fnExactAbleRow.holds Tryz.pinned (OpenSpec.ofChange fnExactAbleWrong)

/- THE SECOND FORM. 'bulk': how many values and letters a reading holds, each counted each time it is reached (what is shared counts as often as it is met; a slice's spare places count too). A statement '..UptoSaid' is the law's where the arguments, and the package variables that the reading takes, are together of bulk at most 1048576: NARROWER than '..Said'. Prove '..Said' where nothing that the law and all that it calls make is longer than what came in: it says more and counts as full. Else prove '..UptoSaid'. A law counts once. -/
mutual
def uptoBulk {H : Type} : DataW H → Nat
  | .lit (.string bytes) => bytes.length + 1
  | .lit _ => 1
  | .nil => 1
  | .ptr d => uptoBulk d + 1
  | .slice elems spare => uptoBulkAll elems + uptoBulkAll spare + 1
  | .agg parts => uptoBulkAll parts + 1
  | .iface _ d => uptoBulk d + 1
  | .map entries => uptoBulkEntries entries + 1
  | .held _ => 1
def uptoBulkAll {H : Type} : List (DataW H) → Nat
  | [] => 0
  | d :: r => uptoBulk d + uptoBulkAll r
def uptoBulkEntries {H : Type} : List (Lit × DataW H) → Nat
  | [] => 0
  | x :: r => uptoBulkEntry x + uptoBulkEntries r
def uptoBulkEntry {H : Type} : Lit × DataW H → Nat
  | (.string bytes, d) => bytes.length + uptoBulk d + 1
  | (_, d) => uptoBulk d + 1
 end
def uptoSmall : (H : Type) → List (DataW H) → Bool := fun _ ds => decide (uptoBulkAll ds ≤ 1048576)
def OpenSpec.upto (s : _root_.Go.ChangeSpec) : _root_.Go.OpenSpec := { _root_.Go.OpenSpec.ofChange s with cond := some uptoSmall }

/-- 'laws.FnExactNetAlike', WHERE WHAT IT READS IS OF BULK AT MOST 1048576: true; the input reads as it did. -/
def fnExactNetAlikeUptoRow : OpenClaim := { program := "ytdfdabjdfmamgaagreat", sum := "302464995355e0b97fe48cc0f7f9b9b659064051671e693712f079851299b7a8", func := "loop.example/g00797/laws.FnExactNetAlike", spec := "fnExactNetAlike", unfollowed := true, recurses := true, apart := false, narrowed := true }
def FnExactNetAlikeUptoSaid : Prop := fnExactNetAlikeUptoRow.holds Tryz.pinned (OpenSpec.upto fnExactNetAlikeSpec)

/-- 'laws.FnExactDeskNew', WHERE WHAT IT READS IS OF BULK AT MOST 1048576: true; the input reads as it did. -/
def fnExactDeskNewUptoRow : OpenClaim := { program := "ytdfdabjdfmamgaagreat", sum := "302464995355e0b97fe48cc0f7f9b9b659064051671e693712f079851299b7a8", func := "loop.example/g00797/laws.FnExactDeskNew", spec := "fnExactDeskNew", unfollowed := true, recurses := true, apart := false, narrowed := true }
def FnExactDeskNewUptoSaid : Prop := fnExactDeskNewUptoRow.holds Tryz.pinned (OpenSpec.upto fnExactDeskNewSpec)

/-- 'laws.FnExactDeskOk', WHERE WHAT IT READS IS OF BULK AT MOST 1048576: true; the input reads as it did. -/
def fnExactDeskOkUptoRow : OpenClaim := { program := "ytdfdabjdfmamgaagreat", sum := "302464995355e0b97fe48cc0f7f9b9b659064051671e693712f079851299b7a8", func := "loop.example/g00797/laws.FnExactDeskOk", spec := "fnExactDeskOk", unfollowed := true, recurses := true, apart := false, narrowed := true }
def FnExactDeskOkUptoSaid : Prop := fnExactDeskOkUptoRow.holds Tryz.pinned (OpenSpec.upto fnExactDeskOkSpec)

/-- 'laws.FnExactWorldOk', WHERE WHAT IT READS IS OF BULK AT MOST 1048576: true; the input reads as it did. -/
def fnExactWorldOkUptoRow : OpenClaim := { program := "ytdfdabjdfmamgaagreat", sum := "302464995355e0b97fe48cc0f7f9b9b659064051671e693712f079851299b7a8", func := "loop.example/g00797/laws.FnExactWorldOk", spec := "fnExactWorldOk", unfollowed := true, recurses := true, apart := false, narrowed := true }
def FnExactWorldOkUptoSaid : Prop := fnExactWorldOkUptoRow.holds Tryz.pinned (OpenSpec.upto fnExactWorldOkSpec)

/-- 'laws.FnExactWorldNew', WHERE WHAT IT READS IS OF BULK AT MOST 1048576: true; the input reads as it did. -/
def fnExactWorldNewUptoRow : OpenClaim := { program := "ytdfdabjdfmamgaagreat", sum := "302464995355e0b97fe48cc0f7f9b9b659064051671e693712f079851299b7a8", func := "loop.example/g00797/laws.FnExactWorldNew", spec := "fnExactWorldNew", unfollowed := true, recurses := true, apart := false, narrowed := true }
def FnExactWorldNewUptoSaid : Prop := fnExactWorldNewUptoRow.holds Tryz.pinned (OpenSpec.upto fnExactWorldNewSpec)

/-- 'laws.FnExactWorkLeft', WHERE WHAT IT READS IS OF BULK AT MOST 1048576: true; the input reads as it did. -/
def fnExactWorkLeftUptoRow : OpenClaim := { program := "ytdfdabjdfmamgaagreat", sum := "302464995355e0b97fe48cc0f7f9b9b659064051671e693712f079851299b7a8", func := "loop.example/g00797/laws.FnExactWorkLeft", spec := "fnExactWorkLeft", unfollowed := true, recurses := true, apart := false, narrowed := true }
def FnExactWorkLeftUptoSaid : Prop := fnExactWorkLeftUptoRow.holds Tryz.pinned (OpenSpec.upto fnExactWorkLeftSpec)

/-- 'laws.FnExactServed', WHERE WHAT IT READS IS OF BULK AT MOST 1048576: true; the input reads as it did. -/
def fnExactServedUptoRow : OpenClaim := { program := "ytdfdabjdfmamgaagreat", sum := "302464995355e0b97fe48cc0f7f9b9b659064051671e693712f079851299b7a8", func := "loop.example/g00797/laws.FnExactServed", spec := "fnExactServed", unfollowed := true, recurses := true, apart := false, narrowed := true }
def FnExactServedUptoSaid : Prop := fnExactServedUptoRow.holds Tryz.pinned (OpenSpec.upto fnExactServedSpec)

/-- 'laws.FnExactCome', WHERE WHAT IT READS IS OF BULK AT MOST 1048576: true; the input reads as it did. -/
def fnExactComeUptoRow : OpenClaim := { program := "ytdfdabjdfmamgaagreat", sum := "302464995355e0b97fe48cc0f7f9b9b659064051671e693712f079851299b7a8", func := "loop.example/g00797/laws.FnExactCome", spec := "fnExactCome", unfollowed := true, recurses := true, apart := false, narrowed := true }
def FnExactComeUptoSaid : Prop := fnExactComeUptoRow.holds Tryz.pinned (OpenSpec.upto fnExactComeSpec)

/-- 'laws.FnExactNetDo', WHERE WHAT IT READS IS OF BULK AT MOST 1048576: true; the input reads as it did. -/
def fnExactNetDoUptoRow : OpenClaim := { program := "ytdfdabjdfmamgaagreat", sum := "302464995355e0b97fe48cc0f7f9b9b659064051671e693712f079851299b7a8", func := "loop.example/g00797/laws.FnExactNetDo", spec := "fnExactNetDo", inPlace := ["slices.overlaps[loop.example/g00797/impl.Seen]"], unfollowed := true, recurses := true, apart := false, narrowed := true }
def FnExactNetDoUptoSaid : Prop := fnExactNetDoUptoRow.holds Tryz.pinned (OpenSpec.upto fnExactNetDoSpec)

/-- 'laws.FnExactSettle', WHERE WHAT IT READS IS OF BULK AT MOST 1048576: true; the input reads as it did. -/
def fnExactSettleUptoRow : OpenClaim := { program := "ytdfdabjdfmamgaagreat", sum := "302464995355e0b97fe48cc0f7f9b9b659064051671e693712f079851299b7a8", func := "loop.example/g00797/laws.FnExactSettle", spec := "fnExactSettle", inPlace := ["slices.overlaps[loop.example/g00797/impl.Seen]"], unfollowed := true, recurses := true, apart := false, narrowed := true }
def FnExactSettleUptoSaid : Prop := fnExactSettleUptoRow.holds Tryz.pinned (OpenSpec.upto fnExactSettleSpec)

/-- 'laws.FnExactNetAll', WHERE WHAT IT READS IS OF BULK AT MOST 1048576: true; the input reads as it did. -/
def fnExactNetAllUptoRow : OpenClaim := { program := "ytdfdabjdfmamgaagreat", sum := "302464995355e0b97fe48cc0f7f9b9b659064051671e693712f079851299b7a8", func := "loop.example/g00797/laws.FnExactNetAll", spec := "fnExactNetAll", inPlace := ["slices.overlaps[loop.example/g00797/impl.Seen]"], unfollowed := true, recurses := true, apart := false, narrowed := true }
def FnExactNetAllUptoSaid : Prop := fnExactNetAllUptoRow.holds Tryz.pinned (OpenSpec.upto fnExactNetAllSpec)

/-- 'laws.FnExactAble', WHERE WHAT IT READS IS OF BULK AT MOST 1048576: true; the input reads as it did. -/
def fnExactAbleUptoRow : OpenClaim := { program := "ytdfdabjdfmamgaagreat", sum := "302464995355e0b97fe48cc0f7f9b9b659064051671e693712f079851299b7a8", func := "loop.example/g00797/laws.FnExactAble", spec := "fnExactAble", unfollowed := true, recurses := true, apart := false, narrowed := true }
def FnExactAbleUptoSaid : Prop := fnExactAbleUptoRow.holds Tryz.pinned (OpenSpec.upto fnExactAbleSpec)

end Rows
end Go.Proofs.YtdfdabjdfmamgaaGreat
