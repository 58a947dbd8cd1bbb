import Derived.Test.YthckkpphnmmfdaaGreatDoorMH
import Derived.JoinedOf
namespace Go.Proofs.YthckkpphnmmfdaaGreatDoor
open Go.AM
theorem mX:((Rows.fnExactCallTextRow.inPlace == Tryz.prog.inPlace 3))=true:=by kernel_rfl
theorem mW:((Rows.fnExactCallTextRow.unfollowed == Tryz.prog.unfollowed 3))=true:=by kernel_rfl
theorem mV:((Rows.fnExactCallTextRow.recurses == Tryz.prog.recurses 3))=true:=by kernel_rfl
theorem mU:((Rows.fnExactCallTextRow.named == Tryz.prog.varsNamed 3))=true:=by kernel_rfl
theorem ii:joinedFacts Tryz.prog 3 Tryz.f3 Rows.fnExactCallTextSpec Rows.fnExactCallTextRow=true:=by
 unfold joinedFacts;rw [mX,mW,mV,mU]
 kernel_rfl
end Go.Proofs.YthckkpphnmmfdaaGreatDoor
