import Derived.Test.YtdfdabjdfmamgaaGreatMG
import Derived.JoinedOf
/-
  The closed facts of the row Settle: what the program says of itself, counted.
-/
namespace Go.Proofs.YtdfdabjdfmamgaaGreat
open Go.AM
theorem jSettlea : (Rows.fnExactSettleRow.inPlace == Tryz.prog.inPlace 12) = true := by kernel_rfl
theorem jSettleb : (Rows.fnExactSettleRow.unfollowed == Tryz.prog.unfollowed 12) = true := by kernel_rfl
theorem jSettlec : (Rows.fnExactSettleRow.recurses == Tryz.prog.recurses 12) = true := by kernel_rfl
theorem jSettled : (Rows.fnExactSettleRow.named == Tryz.prog.varsNamed 12) = true := by kernel_rfl
theorem joinedSettle : joinedFacts Tryz.prog 12 Tryz.f12 Rows.fnExactSettleSpec Rows.fnExactSettleRow = true := by
  unfold joinedFacts
  rw [jSettlea, jSettleb, jSettlec, jSettled]
  kernel_rfl
end Go.Proofs.YtdfdabjdfmamgaaGreat

