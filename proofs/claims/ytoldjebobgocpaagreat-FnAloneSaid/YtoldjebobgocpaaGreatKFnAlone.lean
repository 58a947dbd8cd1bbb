import Derived.Test.YtoldjebobgocpaaGreatMH
import Derived.JoinedOf
namespace Go.Proofs.YtoldjebobgocpaaGreat
open Go.AM
theorem Dg : ((Rows.fnAloneRow.inPlace == Tryz.prog.inPlace 6)) = true:=by kernel_rfl
theorem Df : ((Rows.fnAloneRow.unfollowed == Tryz.prog.unfollowed 6)) = true:=by kernel_rfl
theorem De : ((Rows.fnAloneRow.recurses == Tryz.prog.recurses 6)) = true:=by kernel_rfl
theorem Dd : ((Rows.fnAloneRow.named == Tryz.prog.varsNamed 6)) = true:=by kernel_rfl
theorem tX : joinedFacts Tryz.prog 6 Tryz.f6 Rows.fnAloneSpec Rows.fnAloneRow = true:=by
 unfold joinedFacts;rw [Dg,Df,De,Dd]
 kernel_rfl
end Go.Proofs.YtoldjebobgocpaaGreat
