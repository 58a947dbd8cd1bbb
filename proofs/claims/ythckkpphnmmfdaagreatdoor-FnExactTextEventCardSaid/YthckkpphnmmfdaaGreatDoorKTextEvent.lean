import Derived.Test.YthckkpphnmmfdaaGreatDoorMH
import Derived.JoinedOf
namespace Go.Proofs.YthckkpphnmmfdaaGreatDoor
open Go.AM
theorem ou:((Rows.fnExactTextEventRow.inPlace == Tryz.prog.inPlace 4))=true:=by kernel_rfl
theorem ot:((Rows.fnExactTextEventRow.unfollowed == Tryz.prog.unfollowed 4))=true:=by kernel_rfl
theorem oq:((Rows.fnExactTextEventRow.recurses == Tryz.prog.recurses 4))=true:=by kernel_rfl
theorem om:((Rows.fnExactTextEventRow.named == Tryz.prog.varsNamed 4))=true:=by kernel_rfl
theorem jh:joinedFacts Tryz.prog 4 Tryz.f4 Rows.fnExactTextEventSpec Rows.fnExactTextEventRow=true:=by
 unfold joinedFacts;rw [ou,ot,oq,om]
 kernel_rfl
end Go.Proofs.YthckkpphnmmfdaaGreatDoor
