import Derived.Test.YtdfdabjdfmamgaaGreatMG
import Derived.JoinedOf
/-
  The closed facts of the row NetAlike: what the program says of itself, counted.
-/
namespace Go.Proofs.YtdfdabjdfmamgaaGreat
open Go.AM
theorem jNetAlikea : (Rows.fnExactNetAlikeRow.inPlace == Tryz.prog.inPlace 3) = true := by kernel_rfl
theorem jNetAlikeb : (Rows.fnExactNetAlikeRow.unfollowed == Tryz.prog.unfollowed 3) = true := by kernel_rfl
theorem jNetAlikec : (Rows.fnExactNetAlikeRow.recurses == Tryz.prog.recurses 3) = true := by kernel_rfl
theorem jNetAliked : (Rows.fnExactNetAlikeRow.named == Tryz.prog.varsNamed 3) = true := by kernel_rfl
theorem joinedNetAlike : joinedFacts Tryz.prog 3 Tryz.f3 Rows.fnExactNetAlikeSpec Rows.fnExactNetAlikeRow = true := by
  unfold joinedFacts
  rw [jNetAlikea, jNetAlikeb, jNetAlikec, jNetAliked]
  kernel_rfl
end Go.Proofs.YtdfdabjdfmamgaaGreat

