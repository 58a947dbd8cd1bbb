import Derived.Test.YtdfdabjdfmamgaaGreatMG
import Derived.JoinedOf
/-
  The closed facts of the row NetAll: what the program says of itself, counted.
-/
namespace Go.Proofs.YtdfdabjdfmamgaaGreat
open Go.AM
theorem jNetAlla : (Rows.fnExactNetAllRow.inPlace == Tryz.prog.inPlace 13) = true := by kernel_rfl
theorem jNetAllb : (Rows.fnExactNetAllRow.unfollowed == Tryz.prog.unfollowed 13) = true := by kernel_rfl
theorem jNetAllc : (Rows.fnExactNetAllRow.recurses == Tryz.prog.recurses 13) = true := by kernel_rfl
theorem jNetAlld : (Rows.fnExactNetAllRow.named == Tryz.prog.varsNamed 13) = true := by kernel_rfl
theorem joinedNetAll : joinedFacts Tryz.prog 13 Tryz.f13 Rows.fnExactNetAllSpec Rows.fnExactNetAllRow = true := by
  unfold joinedFacts
  rw [jNetAlla, jNetAllb, jNetAllc, jNetAlld]
  kernel_rfl
end Go.Proofs.YtdfdabjdfmamgaaGreat

