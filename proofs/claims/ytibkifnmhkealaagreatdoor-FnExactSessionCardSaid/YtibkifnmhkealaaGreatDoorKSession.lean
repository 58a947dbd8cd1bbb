import Derived.Test.YtibkifnmhkealaaGreatDoorMH
import Derived.JoinedOf
namespace Go.Proofs.YtibkifnmhkealaaGreatDoor
open Go.AM
theorem HP:((Rows.fnExactSessionRow.inPlace == Tryz.prog.inPlace 3))=true:=by kernel_rfl
theorem HO:((Rows.fnExactSessionRow.unfollowed == Tryz.prog.unfollowed 3))=true:=by kernel_rfl
theorem HM:((Rows.fnExactSessionRow.recurses == Tryz.prog.recurses 3))=true:=by kernel_rfl
theorem HL:((Rows.fnExactSessionRow.named == Tryz.prog.varsNamed 3))=true:=by kernel_rfl
theorem yT:joinedFacts Tryz.prog 3 Tryz.f3 Rows.fnExactSessionSpec Rows.fnExactSessionRow=true:=by
 unfold joinedFacts;rw [HP,HO,HM,HL]
 kernel_rfl
end Go.Proofs.YtibkifnmhkealaaGreatDoor
