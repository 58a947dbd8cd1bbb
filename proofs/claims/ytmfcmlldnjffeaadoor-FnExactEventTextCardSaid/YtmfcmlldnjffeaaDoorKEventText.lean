import Derived.Test.YtmfcmlldnjffeaaDoorMH
import Derived.JoinedOf
namespace Go.Proofs.YtmfcmlldnjffeaaDoor
open Go.AM
theorem kL:((Rows.fnExactEventTextRow.inPlace == Tryd.prog.inPlace 4))=true:=by kernel_rfl
theorem kK:((Rows.fnExactEventTextRow.unfollowed == Tryd.prog.unfollowed 4))=true:=by kernel_rfl
theorem kJ:((Rows.fnExactEventTextRow.recurses == Tryd.prog.recurses 4))=true:=by kernel_rfl
theorem kI:((Rows.fnExactEventTextRow.named == Tryd.prog.varsNamed 4))=true:=by kernel_rfl
theorem f6:joinedFacts Tryd.prog 4 Tryd.f4 Rows.fnExactEventTextSpec Rows.fnExactEventTextRow=true:=by
 unfold joinedFacts;rw [kL,kK,kJ,kI]
 kernel_rfl
end Go.Proofs.YtmfcmlldnjffeaaDoor
