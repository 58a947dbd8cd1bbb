import Derived.Test.YthckkpphnmmfdaaGreatDoorMH
import Derived.JoinedOf
namespace Go.Proofs.YthckkpphnmmfdaaGreatDoor
open Go.AM
theorem qO:((Rows.fnExactTextCallRow.inPlace == Tryz.prog.inPlace 5))=true:=by kernel_rfl
theorem qN:((Rows.fnExactTextCallRow.unfollowed == Tryz.prog.unfollowed 5))=true:=by kernel_rfl
theorem qM:((Rows.fnExactTextCallRow.recurses == Tryz.prog.recurses 5))=true:=by kernel_rfl
theorem qK:((Rows.fnExactTextCallRow.named == Tryz.prog.varsNamed 5))=true:=by kernel_rfl
theorem kI:joinedFacts Tryz.prog 5 Tryz.f5 Rows.fnExactTextCallSpec Rows.fnExactTextCallRow=true:=by
 unfold joinedFacts;rw [qO,qN,qM,qK]
 kernel_rfl
end Go.Proofs.YthckkpphnmmfdaaGreatDoor
