import Derived.Test.YtdeimojjhhdeaaaGreatDoorMH
import Derived.JoinedOf
namespace Go.Proofs.YtdeimojjhhdeaaaGreatDoor
open Go.AM
theorem Pq:((Rows.fnExactDeskLineRow.inPlace==Tryz.prog.inPlace 3))=true:=ai
theorem Pp:((Rows.fnExactDeskLineRow.unfollowed==Tryz.prog.unfollowed 3))=true:=ai
theorem Po:((Rows.fnExactDeskLineRow.recurses==Tryz.prog.recurses 3))=true:=ai
theorem Pn:((Rows.fnExactDeskLineRow.named==Tryz.prog.varsNamed 3))=true:=ai
theorem FE:joinedFacts Tryz.prog 3 Tryz.f3 Rows.fnExactDeskLineSpec Rows.fnExactDeskLineRow=true:=by
 unfold joinedFacts;rw[Pq,Pp,Po,Pn]
 kernel_rfl
end Go.Proofs.YtdeimojjhhdeaaaGreatDoor
