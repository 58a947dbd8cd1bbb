import Derived.Test.YtklblkobegcljaaGreatMH
import Derived.JoinedOf
namespace Go.Proofs.YtklblkobegcljaaGreat
open Go.AM
theorem TQ:((Rows.fnExactFinishRow.inPlace==Tryz.prog.inPlace 4))=true:=al
theorem TP:((Rows.fnExactFinishRow.unfollowed==Tryz.prog.unfollowed 4))=true:=al
theorem TO:((Rows.fnExactFinishRow.recurses==Tryz.prog.recurses 4))=true:=al
theorem TN:((Rows.fnExactFinishRow.named==Tryz.prog.varsNamed 4))=true:=al
theorem FL:joinedFacts Tryz.prog 4 Tryz.f4 Rows.fnExactFinishSpec Rows.fnExactFinishRow=true:=by
 unfold joinedFacts;rw[TQ,TP,TO,TN]
 kernel_rfl
end Go.Proofs.YtklblkobegcljaaGreat
