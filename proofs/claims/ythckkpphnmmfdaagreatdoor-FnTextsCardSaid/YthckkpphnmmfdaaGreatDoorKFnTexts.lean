import Derived.Test.YthckkpphnmmfdaaGreatDoorMH
import Derived.JoinedOf
namespace Go.Proofs.YthckkpphnmmfdaaGreatDoor
open Go.AM
theorem DB:((Rows.fnTextsRow.inPlace == Tryz.prog.inPlace 6))=true:=by kernel_rfl
theorem DA:((Rows.fnTextsRow.unfollowed == Tryz.prog.unfollowed 6))=true:=by kernel_rfl
theorem Dz:((Rows.fnTextsRow.recurses == Tryz.prog.recurses 6))=true:=by kernel_rfl
theorem Dy:((Rows.fnTextsRow.named == Tryz.prog.varsNamed 6))=true:=by kernel_rfl
theorem tS:joinedFacts Tryz.prog 6 Tryz.f6 Rows.fnTextsSpec Rows.fnTextsRow=true:=by
 unfold joinedFacts;rw [DB,DA,Dz,Dy]
 kernel_rfl
end Go.Proofs.YthckkpphnmmfdaaGreatDoor
