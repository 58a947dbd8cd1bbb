import Derived.Test.YtdfdabjdfmamgaaGreatMG
import Derived.JoinedOf
/-
  The closed facts of the row DeskNew: what the program says of itself, counted.
-/
namespace Go.Proofs.YtdfdabjdfmamgaaGreat
open Go.AM
theorem jDeskNewa : (Rows.fnExactDeskNewRow.inPlace == Tryz.prog.inPlace 4) = true := by kernel_rfl
theorem jDeskNewb : (Rows.fnExactDeskNewRow.unfollowed == Tryz.prog.unfollowed 4) = true := by kernel_rfl
theorem jDeskNewc : (Rows.fnExactDeskNewRow.recurses == Tryz.prog.recurses 4) = true := by kernel_rfl
theorem jDeskNewd : (Rows.fnExactDeskNewRow.named == Tryz.prog.varsNamed 4) = true := by kernel_rfl
theorem joinedDeskNew : joinedFacts Tryz.prog 4 Tryz.f4 Rows.fnExactDeskNewSpec Rows.fnExactDeskNewRow = true := by
  unfold joinedFacts
  rw [jDeskNewa, jDeskNewb, jDeskNewc, jDeskNewd]
  kernel_rfl
end Go.Proofs.YtdfdabjdfmamgaaGreat

