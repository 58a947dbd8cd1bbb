import Derived.Test.YtoldjebobgocpaaGreatMH
import Derived.JoinedOf
namespace Go.Proofs.YtoldjebobgocpaaGreat
open Go.AM
theorem KG:((Rows.fnTopRow.inPlace == Tryz.prog.inPlace 9))=true:=by kernel_rfl
theorem KF:((Rows.fnTopRow.unfollowed == Tryz.prog.unfollowed 9))=true:=by kernel_rfl
theorem KE:((Rows.fnTopRow.recurses == Tryz.prog.recurses 9))=true:=by kernel_rfl
theorem KD:((Rows.fnTopRow.named == Tryz.prog.varsNamed 9))=true:=by kernel_rfl
theorem Aq:joinedFacts Tryz.prog 9 Tryz.f9 Rows.fnTopSpec Rows.fnTopRow=true:=by
 unfold joinedFacts;rw [KG,KF,KE,KD]
 kernel_rfl
end Go.Proofs.YtoldjebobgocpaaGreat
