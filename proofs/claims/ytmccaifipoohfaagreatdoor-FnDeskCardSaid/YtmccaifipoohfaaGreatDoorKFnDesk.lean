import Derived.Test.YtmccaifipoohfaaGreatDoorMH
import Derived.JoinedOf
namespace Go.Proofs.YtmccaifipoohfaaGreatDoor
open Go.AM
theorem ab4:((Rows.fnDeskRow.inPlace==Tryz.prog.inPlace 3))=true:=ah
theorem ab3:((Rows.fnDeskRow.unfollowed==Tryz.prog.unfollowed 3))=true:=ah
theorem ab2:((Rows.fnDeskRow.recurses==Tryz.prog.recurses 3))=true:=ah
theorem ab1:((Rows.fnDeskRow.named==Tryz.prog.varsNamed 3))=true:=ah
theorem MQ:joinedFacts Tryz.prog 3 Tryz.f3 Rows.fnDeskSpec Rows.fnDeskRow=true:=by
 unfold joinedFacts;rw[ab4,ab3,ab2,ab1]
 kernel_rfl
end Go.Proofs.YtmccaifipoohfaaGreatDoor
