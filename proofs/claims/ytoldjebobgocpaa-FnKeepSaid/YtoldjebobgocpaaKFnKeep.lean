import Derived.Test.YtoldjebobgocpaaMH
import Derived.JoinedOf
namespace Go.Proofs.Ytoldjebobgocpaa
open Go.AM
theorem yJ : ((Rows.fnKeepRow.inPlace == Try.prog.inPlace 5)) = true:=by kernel_rfl
theorem yI : ((Rows.fnKeepRow.unfollowed == Try.prog.unfollowed 5)) = true:=by kernel_rfl
theorem yH : ((Rows.fnKeepRow.recurses == Try.prog.recurses 5)) = true:=by kernel_rfl
theorem yG : ((Rows.fnKeepRow.named == Try.prog.varsNamed 5)) = true:=by kernel_rfl
theorem qg : joinedFacts Try.prog 5 Try.f5 Rows.fnKeepSpec Rows.fnKeepRow = true:=by
 unfold joinedFacts;rw [yJ,yI,yH,yG]
 kernel_rfl
end Go.Proofs.Ytoldjebobgocpaa
