import Derived.Test.YtmfcmlldnjffeaaDoorMH
import Derived.JoinedOf
namespace Go.Proofs.YtmfcmlldnjffeaaDoor
open Go.AM
theorem jM:((Rows.fnExactAnswerTextRow.inPlace == Tryd.prog.inPlace 5))=true:=by kernel_rfl
theorem jL:((Rows.fnExactAnswerTextRow.unfollowed == Tryd.prog.unfollowed 5))=true:=by kernel_rfl
theorem jK:((Rows.fnExactAnswerTextRow.recurses == Tryd.prog.recurses 5))=true:=by kernel_rfl
theorem jJ:((Rows.fnExactAnswerTextRow.named == Tryd.prog.varsNamed 5))=true:=by kernel_rfl
theorem fl:joinedFacts Tryd.prog 5 Tryd.f5 Rows.fnExactAnswerTextSpec Rows.fnExactAnswerTextRow=true:=by
 unfold joinedFacts;rw [jM,jL,jK,jJ]
 kernel_rfl
end Go.Proofs.YtmfcmlldnjffeaaDoor
