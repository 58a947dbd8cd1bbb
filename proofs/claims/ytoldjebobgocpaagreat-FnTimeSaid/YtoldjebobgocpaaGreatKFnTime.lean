import Derived.Test.YtoldjebobgocpaaGreatMH
import Derived.JoinedOf
namespace Go.Proofs.YtoldjebobgocpaaGreat
open Go.AM
theorem FZ : ((Rows.fnTimeRow.inPlace == Tryz.prog.inPlace 8)) = true:=by kernel_rfl
theorem FY : ((Rows.fnTimeRow.unfollowed == Tryz.prog.unfollowed 8)) = true:=by kernel_rfl
theorem FX : ((Rows.fnTimeRow.recurses == Tryz.prog.recurses 8)) = true:=by kernel_rfl
theorem FW : ((Rows.fnTimeRow.named == Tryz.prog.varsNamed 8)) = true:=by kernel_rfl
theorem wj : joinedFacts Tryz.prog 8 Tryz.f8 Rows.fnTimeSpec Rows.fnTimeRow = true:=by
 unfold joinedFacts;rw [FZ,FY,FX,FW]
 kernel_rfl
end Go.Proofs.YtoldjebobgocpaaGreat
