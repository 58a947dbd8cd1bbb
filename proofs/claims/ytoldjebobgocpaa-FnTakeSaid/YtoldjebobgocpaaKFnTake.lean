import Derived.Test.YtoldjebobgocpaaMG
import Derived.JoinedOf
namespace Go.Proofs.Ytoldjebobgocpaa
open Go.AM
theorem jFnTake0 : ((Rows.fnTakeRow.inPlace == Try.prog.inPlace 4)) = true:=by kernel_rfl
theorem jFnTake1 : ((Rows.fnTakeRow.unfollowed == Try.prog.unfollowed 4)) = true:=by kernel_rfl
theorem jFnTake2 : ((Rows.fnTakeRow.recurses == Try.prog.recurses 4)) = true:=by kernel_rfl
theorem jFnTake3 : ((Rows.fnTakeRow.named == Try.prog.varsNamed 4)) = true:=by kernel_rfl
theorem joinedFnTake : joinedFacts Try.prog 4 Try.f4 Rows.fnTakeSpec Rows.fnTakeRow = true:=by
 unfold joinedFacts;rw [jFnTake0,jFnTake1,jFnTake2,jFnTake3]
 kernel_rfl
end Go.Proofs.Ytoldjebobgocpaa
