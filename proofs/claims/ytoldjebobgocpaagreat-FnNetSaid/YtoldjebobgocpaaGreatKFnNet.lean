import Derived.Test.YtoldjebobgocpaaGreatMH
import Derived.JoinedOf
namespace Go.Proofs.YtoldjebobgocpaaGreat
open Go.AM
theorem C1 : ((Rows.fnNetRow.inPlace == Tryz.prog.inPlace 10)) = true:=by kernel_rfl
theorem CZ : ((Rows.fnNetRow.unfollowed == Tryz.prog.unfollowed 10)) = true:=by kernel_rfl
theorem CY : ((Rows.fnNetRow.recurses == Tryz.prog.recurses 10)) = true:=by kernel_rfl
theorem CX : ((Rows.fnNetRow.named == Tryz.prog.varsNamed 10)) = true:=by kernel_rfl
theorem ug : joinedFacts Tryz.prog 10 Tryz.f10 Rows.fnNetSpec Rows.fnNetRow = true:=by
 unfold joinedFacts;rw [C1,CZ,CY,CX]
 kernel_rfl
end Go.Proofs.YtoldjebobgocpaaGreat
