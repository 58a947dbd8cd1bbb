import Derived.Test.YtdfdabjdfmamgaaGreatMG
import Derived.JoinedOf
/-
  The closed facts of the row WorldNew: what the program says of itself, counted.
-/
namespace Go.Proofs.YtdfdabjdfmamgaaGreat
open Go.AM
theorem jWorldNewa : (Rows.fnExactWorldNewRow.inPlace == Tryz.prog.inPlace 7) = true := by kernel_rfl
theorem jWorldNewb : (Rows.fnExactWorldNewRow.unfollowed == Tryz.prog.unfollowed 7) = true := by kernel_rfl
theorem jWorldNewc : (Rows.fnExactWorldNewRow.recurses == Tryz.prog.recurses 7) = true := by kernel_rfl
theorem jWorldNewd : (Rows.fnExactWorldNewRow.named == Tryz.prog.varsNamed 7) = true := by kernel_rfl
theorem joinedWorldNew : joinedFacts Tryz.prog 7 Tryz.f7 Rows.fnExactWorldNewSpec Rows.fnExactWorldNewRow = true := by
  unfold joinedFacts
  rw [jWorldNewa, jWorldNewb, jWorldNewc, jWorldNewd]
  kernel_rfl
end Go.Proofs.YtdfdabjdfmamgaaGreat

