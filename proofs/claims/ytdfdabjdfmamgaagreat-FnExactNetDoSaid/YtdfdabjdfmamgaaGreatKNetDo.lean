import Derived.Test.YtdfdabjdfmamgaaGreatMG
import Derived.JoinedOf
/-
  The closed facts of the row NetDo: what the program says of itself, counted.
-/
namespace Go.Proofs.YtdfdabjdfmamgaaGreat
open Go.AM
theorem jNetDoa : (Rows.fnExactNetDoRow.inPlace == Tryz.prog.inPlace 11) = true := by kernel_rfl
theorem jNetDob : (Rows.fnExactNetDoRow.unfollowed == Tryz.prog.unfollowed 11) = true := by kernel_rfl
theorem jNetDoc : (Rows.fnExactNetDoRow.recurses == Tryz.prog.recurses 11) = true := by kernel_rfl
theorem jNetDod : (Rows.fnExactNetDoRow.named == Tryz.prog.varsNamed 11) = true := by kernel_rfl
theorem joinedNetDo : joinedFacts Tryz.prog 11 Tryz.f11 Rows.fnExactNetDoSpec Rows.fnExactNetDoRow = true := by
  unfold joinedFacts
  rw [jNetDoa, jNetDob, jNetDoc, jNetDod]
  kernel_rfl
end Go.Proofs.YtdfdabjdfmamgaaGreat

