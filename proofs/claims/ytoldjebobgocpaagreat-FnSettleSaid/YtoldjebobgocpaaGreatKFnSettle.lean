import Derived.Test.YtoldjebobgocpaaGreatMH
import Derived.JoinedOf
namespace Go.Proofs.YtoldjebobgocpaaGreat
open Go.AM
theorem wL : ((Rows.fnSettleRow.inPlace == Tryz.prog.inPlace 11)) = true:=by kernel_rfl
theorem wK : ((Rows.fnSettleRow.unfollowed == Tryz.prog.unfollowed 11)) = true:=by kernel_rfl
theorem wJ : ((Rows.fnSettleRow.recurses == Tryz.prog.recurses 11)) = true:=by kernel_rfl
theorem wI : ((Rows.fnSettleRow.named == Tryz.prog.varsNamed 11)) = true:=by kernel_rfl
theorem pS : joinedFacts Tryz.prog 11 Tryz.f11 Rows.fnSettleSpec Rows.fnSettleRow = true:=by
 unfold joinedFacts;rw [wL,wK,wJ,wI]
 kernel_rfl
end Go.Proofs.YtoldjebobgocpaaGreat
