import Derived.Test.YtmfcmlldnjffeaaDoorMH
import Derived.JoinedOf
namespace Go.Proofs.YtmfcmlldnjffeaaDoor
open Go.AM
theorem kA:((Rows.fnExactEntryTextRow.inPlace == Tryd.prog.inPlace 3))=true:=by kernel_rfl
theorem kz:((Rows.fnExactEntryTextRow.unfollowed == Tryd.prog.unfollowed 3))=true:=by kernel_rfl
theorem ky:((Rows.fnExactEntryTextRow.recurses == Tryd.prog.recurses 3))=true:=by kernel_rfl
theorem kx:((Rows.fnExactEntryTextRow.named == Tryd.prog.varsNamed 3))=true:=by kernel_rfl
theorem fR:joinedFacts Tryd.prog 3 Tryd.f3 Rows.fnExactEntryTextSpec Rows.fnExactEntryTextRow=true:=by
 unfold joinedFacts;rw [kA,kz,ky,kx]
 kernel_rfl
end Go.Proofs.YtmfcmlldnjffeaaDoor
