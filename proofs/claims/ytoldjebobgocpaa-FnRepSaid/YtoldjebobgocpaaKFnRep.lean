import Derived.Test.YtoldjebobgocpaaMG
import Derived.JoinedOf
namespace Go.Proofs.Ytoldjebobgocpaa
open Go.AM
theorem jFnRep0 : ((Rows.fnRepRow.inPlace == Try.prog.inPlace 3)) = true:=by kernel_rfl
theorem jFnRep1 : ((Rows.fnRepRow.unfollowed == Try.prog.unfollowed 3)) = true:=by kernel_rfl
theorem jFnRep2 : ((Rows.fnRepRow.recurses == Try.prog.recurses 3)) = true:=by kernel_rfl
theorem jFnRep3 : ((Rows.fnRepRow.named == Try.prog.varsNamed 3)) = true:=by kernel_rfl
theorem joinedFnRep : joinedFacts Try.prog 3 Try.f3 Rows.fnRepSpec Rows.fnRepRow = true:=by
 unfold joinedFacts;rw [jFnRep0,jFnRep1,jFnRep2,jFnRep3]
 kernel_rfl
end Go.Proofs.Ytoldjebobgocpaa
