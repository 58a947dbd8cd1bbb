import Derived.Test.YtklblkobegcljaaGreatMH
import Derived.JoinedOf
namespace Go.Proofs.YtklblkobegcljaaGreat
open Go.AM
theorem Yt:((Rows.fnExactPickRow.inPlace==Tryz.prog.inPlace 3))=true:=al
theorem Ys:((Rows.fnExactPickRow.unfollowed==Tryz.prog.unfollowed 3))=true:=al
theorem Yr:((Rows.fnExactPickRow.recurses==Tryz.prog.recurses 3))=true:=al
theorem Yq:((Rows.fnExactPickRow.named==Tryz.prog.varsNamed 3))=true:=al
theorem HY:joinedFacts Tryz.prog 3 Tryz.f3 Rows.fnExactPickSpec Rows.fnExactPickRow=true:=by
 unfold joinedFacts;rw[Yt,Ys,Yr,Yq]
 kernel_rfl
end Go.Proofs.YtklblkobegcljaaGreat
