/-
  No cell of these rows narrows 'for every input' (looked for: loops, veiled, ifaces, maps, wideKeys, modest, calm, conditions, laid).
  DERIVED. THE GIVEN ROWS OF THIS SEAT. 12 by the template 'for every input the law returns true; each argument reads behind the call as it read before'; 0 by the template 'total and deterministic' (their statements: YthcdlllclbdbmaaTotals.lean).
  GIVEN WITH THE SEED: the statements are not yours to turn. If you find one false, say at which input.
  Laid BY PROGRAM, IN A SANDBOX (cutbox-rows.mjs): the forced cells as the released guide's own fill.sh prints them over the translation c9282401ddd83673… (all of the seat's roots in one cut). By AI agents, Wed Nov 11 2026. No macro, syntax, notation, axiom, sorry.
-/
import Derived.Test.YthcdlllclbdbmaaChecked
import GoSem.Claim
import GoSem.ClaimJoined
import GoSem.ClaimMapViews
import Derived.JoinedTies
import Derived.KernelRfl
namespace Go.Proofs.Ythcdlllclbdbmaa
/- THE CELL 'sum', in the pinned program and in every row, IS THE sha256 OF THE DUMP (.gsa) THAT YthcdlllclbdbmaaProg.lean LOADS. Nothing in Lean hashes anything: it is a label: what it is worth is what the hold of that sum in a sandbox is worth. -/
noncomputable def Try.pinned : Pinned := { name := "ythcdlllclbdbmaa", sum := "c9282401ddd83673064a753b24ef3f553151e5586e639c5ed4dc0a0d7a4fff14", checked := Try.checked }
namespace Rows
def none {H : Type} : Left H := { results := [], args := [] }

/-- 'laws.FnExactGetNum': WHATEVER THE INPUT: true; the input reads as it did. -/
def fnExactGetNumSpec : ChangeSpec := { name := "fnExactGetNum", fn := fun _ => fun
  | [d1, d2] => { results := [.lit (.bool true)], args := [d1, d2] }
  | _ => none }
def fnExactGetNumRow : OpenClaim := { program := "ythcdlllclbdbmaa", sum := "c9282401ddd83673064a753b24ef3f553151e5586e639c5ed4dc0a0d7a4fff14", func := "loop.example/g00797/laws.FnExactGetNum", spec := "fnExactGetNum", apart := false }
def FnExactGetNumSaid : Prop := fnExactGetNumRow.holds Try.pinned (OpenSpec.ofChange fnExactGetNumSpec)

/-- ITS FALSE NEIGHBOUR: 'it returns false'. Refute it at one input. -/
def fnExactGetNumWrong : ChangeSpec := { name := "fnExactGetNum", fn := fun _ => fun
  | [d1, d2] => { results := [.lit (.bool false)], args := [d1, d2] }
  | _ => none }
def FnExactGetNumWrongFalsely : Prop := fnExactGetNumRow.holds Try.pinned (OpenSpec.ofChange fnExactGetNumWrong)

/-- 'laws.FnExactPutNum': WHATEVER THE INPUT: true; the input reads as it did. -/
def fnExactPutNumSpec : ChangeSpec := { name := "fnExactPutNum", fn := fun _ => fun
  | [d1, d2] => { results := [.lit (.bool true)], args := [d1, d2] }
  | _ => none }
def fnExactPutNumRow : OpenClaim := { program := "ythcdlllclbdbmaa", sum := "c9282401ddd83673064a753b24ef3f553151e5586e639c5ed4dc0a0d7a4fff14", func := "loop.example/g00797/laws.FnExactPutNum", spec := "fnExactPutNum", apart := false }
def FnExactPutNumSaid : Prop := fnExactPutNumRow.holds Try.pinned (OpenSpec.ofChange fnExactPutNumSpec)

/-- ITS FALSE NEIGHBOUR: 'it returns false'. Refute it at one input. -/
def fnExactPutNumWrong : ChangeSpec := { name := "fnExactPutNum", fn := fun _ => fun
  | [d1, d2] => { results := [.lit (.bool false)], args := [d1, d2] }
  | _ => none }
def FnExactPutNumWrongFalsely : Prop := fnExactPutNumRow.holds Try.pinned (OpenSpec.ofChange fnExactPutNumWrong)

/-- 'laws.FnExactRepSame': WHATEVER THE INPUT: true; the input reads as it did. -/
def fnExactRepSameSpec : ChangeSpec := { name := "fnExactRepSame", fn := fun _ => fun
  | [d1, d2] => { results := [.lit (.bool true)], args := [d1, d2] }
  | _ => none }
def fnExactRepSameRow : OpenClaim := { program := "ythcdlllclbdbmaa", sum := "c9282401ddd83673064a753b24ef3f553151e5586e639c5ed4dc0a0d7a4fff14", func := "loop.example/g00797/laws.FnExactRepSame", spec := "fnExactRepSame", unfollowed := true, recurses := true, apart := false }
def FnExactRepSameSaid : Prop := fnExactRepSameRow.holds Try.pinned (OpenSpec.ofChange fnExactRepSameSpec)

/-- ITS FALSE NEIGHBOUR: 'it returns false'. Refute it at one input. -/
def fnExactRepSameWrong : ChangeSpec := { name := "fnExactRepSame", fn := fun _ => fun
  | [d1, d2] => { results := [.lit (.bool false)], args := [d1, d2] }
  | _ => none }
def FnExactRepSameWrongFalsely : Prop := fnExactRepSameRow.holds Try.pinned (OpenSpec.ofChange fnExactRepSameWrong)

/-- 'laws.FnExactAhead': WHATEVER THE INPUT: true; the input reads as it did. -/
def fnExactAheadSpec : ChangeSpec := { name := "fnExactAhead", fn := fun _ => fun
  | [d1, d2] => { results := [.lit (.bool true)], args := [d1, d2] }
  | _ => none }
def fnExactAheadRow : OpenClaim := { program := "ythcdlllclbdbmaa", sum := "c9282401ddd83673064a753b24ef3f553151e5586e639c5ed4dc0a0d7a4fff14", func := "loop.example/g00797/laws.FnExactAhead", spec := "fnExactAhead", apart := false }
def FnExactAheadSaid : Prop := fnExactAheadRow.holds Try.pinned (OpenSpec.ofChange fnExactAheadSpec)

/-- ITS FALSE NEIGHBOUR: 'it returns false'. Refute it at one input. -/
def fnExactAheadWrong : ChangeSpec := { name := "fnExactAhead", fn := fun _ => fun
  | [d1, d2] => { results := [.lit (.bool false)], args := [d1, d2] }
  | _ => none }
def FnExactAheadWrongFalsely : Prop := fnExactAheadRow.holds Try.pinned (OpenSpec.ofChange fnExactAheadWrong)

/-- 'laws.FnExactPutOp': WHATEVER THE INPUT: true; the input reads as it did. -/
def fnExactPutOpSpec : ChangeSpec := { name := "fnExactPutOp", fn := fun _ => fun
  | [d1, d2] => { results := [.lit (.bool true)], args := [d1, d2] }
  | _ => none }
def fnExactPutOpRow : OpenClaim := { program := "ythcdlllclbdbmaa", sum := "c9282401ddd83673064a753b24ef3f553151e5586e639c5ed4dc0a0d7a4fff14", func := "loop.example/g00797/laws.FnExactPutOp", spec := "fnExactPutOp", unfollowed := true, recurses := true, apart := false }
def FnExactPutOpSaid : Prop := fnExactPutOpRow.holds Try.pinned (OpenSpec.ofChange fnExactPutOpSpec)

/-- ITS FALSE NEIGHBOUR: 'it returns false'. Refute it at one input. -/
def fnExactPutOpWrong : ChangeSpec := { name := "fnExactPutOp", fn := fun _ => fun
  | [d1, d2] => { results := [.lit (.bool false)], args := [d1, d2] }
  | _ => none }
def FnExactPutOpWrongFalsely : Prop := fnExactPutOpRow.holds Try.pinned (OpenSpec.ofChange fnExactPutOpWrong)

/-- 'laws.FnExactRepOk': WHATEVER THE INPUT: true; the input reads as it did. -/
def fnExactRepOkSpec : ChangeSpec := { name := "fnExactRepOk", fn := fun _ => fun
  | [d] => { results := [.lit (.bool true)], args := [d] }
  | _ => none }
def fnExactRepOkRow : OpenClaim := { program := "ythcdlllclbdbmaa", sum := "c9282401ddd83673064a753b24ef3f553151e5586e639c5ed4dc0a0d7a4fff14", func := "loop.example/g00797/laws.FnExactRepOk", spec := "fnExactRepOk", unfollowed := true, recurses := true, apart := false }
def FnExactRepOkSaid : Prop := fnExactRepOkRow.holds Try.pinned (OpenSpec.ofChange fnExactRepOkSpec)

/-- ITS FALSE NEIGHBOUR: 'it returns false'. Refute it at one input. -/
def fnExactRepOkWrong : ChangeSpec := { name := "fnExactRepOk", fn := fun _ => fun
  | [d] => { results := [.lit (.bool false)], args := [d] }
  | _ => none }
def FnExactRepOkWrongFalsely : Prop := fnExactRepOkRow.holds Try.pinned (OpenSpec.ofChange fnExactRepOkWrong)

/-- 'laws.FnExactRepClean': WHATEVER THE INPUT: true; the input reads as it did. -/
def fnExactRepCleanSpec : ChangeSpec := { name := "fnExactRepClean", fn := fun _ => fun
  | [d] => { results := [.lit (.bool true)], args := [d] }
  | _ => none }
def fnExactRepCleanRow : OpenClaim := { program := "ythcdlllclbdbmaa", sum := "c9282401ddd83673064a753b24ef3f553151e5586e639c5ed4dc0a0d7a4fff14", func := "loop.example/g00797/laws.FnExactRepClean", spec := "fnExactRepClean", unfollowed := true, recurses := true, apart := false }
def FnExactRepCleanSaid : Prop := fnExactRepCleanRow.holds Try.pinned (OpenSpec.ofChange fnExactRepCleanSpec)

/-- ITS FALSE NEIGHBOUR: 'it returns false'. Refute it at one input. -/
def fnExactRepCleanWrong : ChangeSpec := { name := "fnExactRepClean", fn := fun _ => fun
  | [d] => { results := [.lit (.bool false)], args := [d] }
  | _ => none }
def FnExactRepCleanWrongFalsely : Prop := fnExactRepCleanRow.holds Try.pinned (OpenSpec.ofChange fnExactRepCleanWrong)

/-- 'laws.FnExactNetSame': WHATEVER THE INPUT: true; the input reads as it did. -/
def fnExactNetSameSpec : ChangeSpec := { name := "fnExactNetSame", fn := fun _ => fun
  | [d1, d2] => { results := [.lit (.bool true)], args := [d1, d2] }
  | _ => none }
def fnExactNetSameRow : OpenClaim := { program := "ythcdlllclbdbmaa", sum := "c9282401ddd83673064a753b24ef3f553151e5586e639c5ed4dc0a0d7a4fff14", func := "loop.example/g00797/laws.FnExactNetSame", spec := "fnExactNetSame", unfollowed := true, recurses := true, apart := false }
def FnExactNetSameSaid : Prop := fnExactNetSameRow.holds Try.pinned (OpenSpec.ofChange fnExactNetSameSpec)

/-- ITS FALSE NEIGHBOUR: 'it returns false'. Refute it at one input. -/
def fnExactNetSameWrong : ChangeSpec := { name := "fnExactNetSame", fn := fun _ => fun
  | [d1, d2] => { results := [.lit (.bool false)], args := [d1, d2] }
  | _ => none }
def FnExactNetSameWrongFalsely : Prop := fnExactNetSameRow.holds Try.pinned (OpenSpec.ofChange fnExactNetSameWrong)

/-- 'laws.FnExactRepNew': WHATEVER THE INPUT: true; the input reads as it did. -/
def fnExactRepNewSpec : ChangeSpec := { name := "fnExactRepNew", fn := fun _ => fun
  | [d1, d2, d3, d4] => { results := [.lit (.bool true)], args := [d1, d2, d3, d4] }
  | _ => none }
def fnExactRepNewRow : OpenClaim := { program := "ythcdlllclbdbmaa", sum := "c9282401ddd83673064a753b24ef3f553151e5586e639c5ed4dc0a0d7a4fff14", func := "loop.example/g00797/laws.FnExactRepNew", spec := "fnExactRepNew", unfollowed := true, recurses := true, apart := false }
def FnExactRepNewSaid : Prop := fnExactRepNewRow.holds Try.pinned (OpenSpec.ofChange fnExactRepNewSpec)

/-- ITS FALSE NEIGHBOUR: 'it returns false'. Refute it at one input. -/
def fnExactRepNewWrong : ChangeSpec := { name := "fnExactRepNew", fn := fun _ => fun
  | [d1, d2, d3, d4] => { results := [.lit (.bool false)], args := [d1, d2, d3, d4] }
  | _ => none }
def FnExactRepNewWrongFalsely : Prop := fnExactRepNewRow.holds Try.pinned (OpenSpec.ofChange fnExactRepNewWrong)

/-- 'laws.FnExactGetOp': WHATEVER THE INPUT: true; the input reads as it did. -/
def fnExactGetOpSpec : ChangeSpec := { name := "fnExactGetOp", fn := fun _ => fun
  | [d1, d2] => { results := [.lit (.bool true)], args := [d1, d2] }
  | _ => none }
def fnExactGetOpRow : OpenClaim := { program := "ythcdlllclbdbmaa", sum := "c9282401ddd83673064a753b24ef3f553151e5586e639c5ed4dc0a0d7a4fff14", func := "loop.example/g00797/laws.FnExactGetOp", spec := "fnExactGetOp", unfollowed := true, recurses := true, apart := false }
def FnExactGetOpSaid : Prop := fnExactGetOpRow.holds Try.pinned (OpenSpec.ofChange fnExactGetOpSpec)

/-- ITS FALSE NEIGHBOUR: 'it returns false'. Refute it at one input. -/
def fnExactGetOpWrong : ChangeSpec := { name := "fnExactGetOp", fn := fun _ => fun
  | [d1, d2] => { results := [.lit (.bool false)], args := [d1, d2] }
  | _ => none }
def FnExactGetOpWrongFalsely : Prop := fnExactGetOpRow.holds Try.pinned (OpenSpec.ofChange fnExactGetOpWrong)

/-- 'laws.FnExactRepText': WHATEVER THE INPUT: true; the input reads as it did. -/
def fnExactRepTextSpec : ChangeSpec := { name := "fnExactRepText", fn := fun _ => fun
  | [d] => { results := [.lit (.bool true)], args := [d] }
  | _ => none }
def fnExactRepTextRow : OpenClaim := { program := "ythcdlllclbdbmaa", sum := "c9282401ddd83673064a753b24ef3f553151e5586e639c5ed4dc0a0d7a4fff14", func := "loop.example/g00797/laws.FnExactRepText", spec := "fnExactRepText", unfollowed := true, recurses := true, apart := false }
def FnExactRepTextSaid : Prop := fnExactRepTextRow.holds Try.pinned (OpenSpec.ofChange fnExactRepTextSpec)

/-- ITS FALSE NEIGHBOUR: 'it returns false'. Refute it at one input. -/
def fnExactRepTextWrong : ChangeSpec := { name := "fnExactRepText", fn := fun _ => fun
  | [d] => { results := [.lit (.bool false)], args := [d] }
  | _ => none }
def FnExactRepTextWrongFalsely : Prop := fnExactRepTextRow.holds Try.pinned (OpenSpec.ofChange fnExactRepTextWrong)

/-- 'laws.FnExactRepResend': WHATEVER THE INPUT: true; the input reads as it did. -/
def fnExactRepResendSpec : ChangeSpec := { name := "fnExactRepResend", fn := fun _ => fun
  | [d] => { results := [.lit (.bool true)], args := [d] }
  | _ => none }
def fnExactRepResendRow : OpenClaim := { program := "ythcdlllclbdbmaa", sum := "c9282401ddd83673064a753b24ef3f553151e5586e639c5ed4dc0a0d7a4fff14", func := "loop.example/g00797/laws.FnExactRepResend", spec := "fnExactRepResend", unfollowed := true, recurses := true, apart := false }
def FnExactRepResendSaid : Prop := fnExactRepResendRow.holds Try.pinned (OpenSpec.ofChange fnExactRepResendSpec)

/-- ITS FALSE NEIGHBOUR: 'it returns false'. Refute it at one input. -/
def fnExactRepResendWrong : ChangeSpec := { name := "fnExactRepResend", fn := fun _ => fun
  | [d] => { results := [.lit (.bool false)], args := [d] }
  | _ => none }
def FnExactRepResendWrongFalsely : Prop := fnExactRepResendRow.holds Try.pinned (OpenSpec.ofChange fnExactRepResendWrong)

/- THE SECOND FORM. 'bulk': how many values and letters a reading holds, each counted each time it is reached (what is shared counts as often as it is met; a slice's spare places count too). A statement '..UptoSaid' is the law's where the arguments, and the package variables that the reading takes, are together of bulk at most 1048576: NARROWER than '..Said'. Prove '..Said' where nothing that the law and all that it calls make is longer than what came in: it says more and counts as full. Else prove '..UptoSaid'. A law counts once. -/
mutual
def uptoBulk {H : Type} : DataW H → Nat
  | .lit (.string bytes) => bytes.length + 1
  | .lit _ => 1
  | .nil => 1
  | .ptr d => uptoBulk d + 1
  | .slice elems spare => uptoBulkAll elems + uptoBulkAll spare + 1
  | .agg parts => uptoBulkAll parts + 1
  | .iface _ d => uptoBulk d + 1
  | .map entries => uptoBulkEntries entries + 1
  | .held _ => 1
def uptoBulkAll {H : Type} : List (DataW H) → Nat
  | [] => 0
  | d :: r => uptoBulk d + uptoBulkAll r
def uptoBulkEntries {H : Type} : List (Lit × DataW H) → Nat
  | [] => 0
  | x :: r => uptoBulkEntry x + uptoBulkEntries r
def uptoBulkEntry {H : Type} : Lit × DataW H → Nat
  | (.string bytes, d) => bytes.length + uptoBulk d + 1
  | (_, d) => uptoBulk d + 1
 end
def uptoSmall : (H : Type) → List (DataW H) → Bool := fun _ ds => decide (uptoBulkAll ds ≤ 1048576)
def OpenSpec.upto (s : _root_.Go.ChangeSpec) : _root_.Go.OpenSpec := { _root_.Go.OpenSpec.ofChange s with cond := some uptoSmall }

/-- 'laws.FnExactGetNum', WHERE WHAT IT READS IS OF BULK AT MOST 1048576: true; the input reads as it did. -/
def fnExactGetNumUptoRow : OpenClaim := { program := "ythcdlllclbdbmaa", sum := "c9282401ddd83673064a753b24ef3f553151e5586e639c5ed4dc0a0d7a4fff14", func := "loop.example/g00797/laws.FnExactGetNum", spec := "fnExactGetNum", apart := false, narrowed := true }
def FnExactGetNumUptoSaid : Prop := fnExactGetNumUptoRow.holds Try.pinned (OpenSpec.upto fnExactGetNumSpec)

/-- 'laws.FnExactPutNum', WHERE WHAT IT READS IS OF BULK AT MOST 1048576: true; the input reads as it did. -/
def fnExactPutNumUptoRow : OpenClaim := { program := "ythcdlllclbdbmaa", sum := "c9282401ddd83673064a753b24ef3f553151e5586e639c5ed4dc0a0d7a4fff14", func := "loop.example/g00797/laws.FnExactPutNum", spec := "fnExactPutNum", apart := false, narrowed := true }
def FnExactPutNumUptoSaid : Prop := fnExactPutNumUptoRow.holds Try.pinned (OpenSpec.upto fnExactPutNumSpec)

/-- 'laws.FnExactRepSame', WHERE WHAT IT READS IS OF BULK AT MOST 1048576: true; the input reads as it did. -/
def fnExactRepSameUptoRow : OpenClaim := { program := "ythcdlllclbdbmaa", sum := "c9282401ddd83673064a753b24ef3f553151e5586e639c5ed4dc0a0d7a4fff14", func := "loop.example/g00797/laws.FnExactRepSame", spec := "fnExactRepSame", unfollowed := true, recurses := true, apart := false, narrowed := true }
def FnExactRepSameUptoSaid : Prop := fnExactRepSameUptoRow.holds Try.pinned (OpenSpec.upto fnExactRepSameSpec)

/-- 'laws.FnExactAhead', WHERE WHAT IT READS IS OF BULK AT MOST 1048576: true; the input reads as it did. -/
def fnExactAheadUptoRow : OpenClaim := { program := "ythcdlllclbdbmaa", sum := "c9282401ddd83673064a753b24ef3f553151e5586e639c5ed4dc0a0d7a4fff14", func := "loop.example/g00797/laws.FnExactAhead", spec := "fnExactAhead", apart := false, narrowed := true }
def FnExactAheadUptoSaid : Prop := fnExactAheadUptoRow.holds Try.pinned (OpenSpec.upto fnExactAheadSpec)

/-- 'laws.FnExactPutOp', WHERE WHAT IT READS IS OF BULK AT MOST 1048576: true; the input reads as it did. -/
def fnExactPutOpUptoRow : OpenClaim := { program := "ythcdlllclbdbmaa", sum := "c9282401ddd83673064a753b24ef3f553151e5586e639c5ed4dc0a0d7a4fff14", func := "loop.example/g00797/laws.FnExactPutOp", spec := "fnExactPutOp", unfollowed := true, recurses := true, apart := false, narrowed := true }
def FnExactPutOpUptoSaid : Prop := fnExactPutOpUptoRow.holds Try.pinned (OpenSpec.upto fnExactPutOpSpec)

/-- 'laws.FnExactRepOk', WHERE WHAT IT READS IS OF BULK AT MOST 1048576: true; the input reads as it did. -/
def fnExactRepOkUptoRow : OpenClaim := { program := "ythcdlllclbdbmaa", sum := "c9282401ddd83673064a753b24ef3f553151e5586e639c5ed4dc0a0d7a4fff14", func := "loop.example/g00797/laws.FnExactRepOk", spec := "fnExactRepOk", unfollowed := true, recurses := true, apart := false, narrowed := true }
def FnExactRepOkUptoSaid : Prop := fnExactRepOkUptoRow.holds Try.pinned (OpenSpec.upto fnExactRepOkSpec)

/-- 'laws.FnExactRepClean', WHERE WHAT IT READS IS OF BULK AT MOST 1048576: true; the input reads as it did. -/
def fnExactRepCleanUptoRow : OpenClaim := { program := "ythcdlllclbdbmaa", sum := "c9282401ddd83673064a753b24ef3f553151e5586e639c5ed4dc0a0d7a4fff14", func := "loop.example/g00797/laws.FnExactRepClean", spec := "fnExactRepClean", unfollowed := true, recurses := true, apart := false, narrowed := true }
def FnExactRepCleanUptoSaid : Prop := fnExactRepCleanUptoRow.holds Try.pinned (OpenSpec.upto fnExactRepCleanSpec)

/-- 'laws.FnExactNetSame', WHERE WHAT IT READS IS OF BULK AT MOST 1048576: true; the input reads as it did. -/
def fnExactNetSameUptoRow : OpenClaim := { program := "ythcdlllclbdbmaa", sum := "c9282401ddd83673064a753b24ef3f553151e5586e639c5ed4dc0a0d7a4fff14", func := "loop.example/g00797/laws.FnExactNetSame", spec := "fnExactNetSame", unfollowed := true, recurses := true, apart := false, narrowed := true }
def FnExactNetSameUptoSaid : Prop := fnExactNetSameUptoRow.holds Try.pinned (OpenSpec.upto fnExactNetSameSpec)

/-- 'laws.FnExactRepNew', WHERE WHAT IT READS IS OF BULK AT MOST 1048576: true; the input reads as it did. -/
def fnExactRepNewUptoRow : OpenClaim := { program := "ythcdlllclbdbmaa", sum := "c9282401ddd83673064a753b24ef3f553151e5586e639c5ed4dc0a0d7a4fff14", func := "loop.example/g00797/laws.FnExactRepNew", spec := "fnExactRepNew", unfollowed := true, recurses := true, apart := false, narrowed := true }
def FnExactRepNewUptoSaid : Prop := fnExactRepNewUptoRow.holds Try.pinned (OpenSpec.upto fnExactRepNewSpec)

/-- 'laws.FnExactGetOp', WHERE WHAT IT READS IS OF BULK AT MOST 1048576: true; the input reads as it did. -/
def fnExactGetOpUptoRow : OpenClaim := { program := "ythcdlllclbdbmaa", sum := "c9282401ddd83673064a753b24ef3f553151e5586e639c5ed4dc0a0d7a4fff14", func := "loop.example/g00797/laws.FnExactGetOp", spec := "fnExactGetOp", unfollowed := true, recurses := true, apart := false, narrowed := true }
def FnExactGetOpUptoSaid : Prop := fnExactGetOpUptoRow.holds Try.pinned (OpenSpec.upto fnExactGetOpSpec)

/-- 'laws.FnExactRepText', WHERE WHAT IT READS IS OF BULK AT MOST 1048576: true; the input reads as it did. -/
def fnExactRepTextUptoRow : OpenClaim := { program := "ythcdlllclbdbmaa", sum := "c9282401ddd83673064a753b24ef3f553151e5586e639c5ed4dc0a0d7a4fff14", func := "loop.example/g00797/laws.FnExactRepText", spec := "fnExactRepText", unfollowed := true, recurses := true, apart := false, narrowed := true }
def FnExactRepTextUptoSaid : Prop := fnExactRepTextUptoRow.holds Try.pinned (OpenSpec.upto fnExactRepTextSpec)

/-- 'laws.FnExactRepResend', WHERE WHAT IT READS IS OF BULK AT MOST 1048576: true; the input reads as it did. -/
def fnExactRepResendUptoRow : OpenClaim := { program := "ythcdlllclbdbmaa", sum := "c9282401ddd83673064a753b24ef3f553151e5586e639c5ed4dc0a0d7a4fff14", func := "loop.example/g00797/laws.FnExactRepResend", spec := "fnExactRepResend", unfollowed := true, recurses := true, apart := false, narrowed := true }
def FnExactRepResendUptoSaid : Prop := fnExactRepResendUptoRow.holds Try.pinned (OpenSpec.upto fnExactRepResendSpec)

end Rows
end Go.Proofs.Ythcdlllclbdbmaa
