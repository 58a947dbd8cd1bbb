/-
  The law FnDesk returns true for every code: what impl.Session answers to the lines that spec.MakeDesk makes is what impl.DeskLine answers line by line, and every desk on the way is valid. No condition.
-/
import Derived.Test.YtmccaifipoohfaaGreatDoorKFnDesk
import Derived.Test.YtmccaifipoohfaaGreatDoorPQ
import Derived.Test.YtmccaifipoohfaaGreatDoorNA
import Derived.Test.YtmccaifipoohfaaGreatDoorMF
import Derived.Test.YtmccaifipoohfaaGreatDoorTie
import Derived.Test.YtmccaifipoohfaaGreatDoorCards
namespace Go.Proofs.YtmccaifipoohfaaGreatDoor
open Go.AM Go.ChangeShapes Go.WideShapes Go.ChangeAt Go.RowKit
set_option maxRecDepth 20000
theorem YS(os:Os)(args:Array Value):laidMetH Tryz.prog Rows.fnDeskRow.laid ((World.laidAll Tryz.prog os Rows.fnDeskRow.laid).forCall (λ_ _=>0) ⟨#[],args,[]⟩).memory:=
 aeh args ah ah ah
set_option maxRecDepth 100000 in
theorem I1(os:Os)(started:os.Started)(H:Type)(enc:TypeId×Value->H) :
 ReturnsInHanded {} Tryz.checked os 3 .any (λw args=>(Rows.fnDeskSpec.pre enc Tryz.prog Tryz.f3 [] false w args/\laidMetH Tryz.prog Rows.fnDeskRow.laid w)/\sizedMet enc Tryz.prog Tryz.f3 (OpenSpec.ofChange Rows.fnDeskSpec) false w args) (Rows.fnDeskSpec.post enc Tryz.prog Tryz.f3 false true false false):=by
 refine abk (C:=Tryz.checked) (X:=λw _=>laidMetH Tryz.prog Rows.fnDeskRow.laid w) (λ_ _ _ hh h=>h.of_heap hh) own started ah Tryz.func3
  (ChangeSpec.witness_shaped (enc:=enc) (C:=Tryz.checked) (os:=os) (X:=λw _=>laidMetH Tryz.prog Rows.fnDeskRow.laid w) false (World.laidAll Tryz.prog os Rows.fnDeskRow.laid) #[.slice none 0 0] 12 (World.laidAll_os _ _ _) (World.shaped_of_ZipB ah ah) ah ah ah (YS os _)) ?_
 intro W base args ds gs before hval hW hL hsh;have hL:laidMetH Tryz.prog Rows.fnDeskRow.laid W:=hL;rw[MakeChecks.laidMetH_plain _ _ _ ah]at hL;have hLT:LT W:=ajZ hL hsh (aei hL.tail.tail.tail.tail);refine Y3 (L:=LT) (D:=16) laid rfl rfl Tryz.underlying4 ah ah (λds h=>?_) hval hW hLT (λvds ho=>?_)
 ·match ds,h with
  | [d0],_=>rfl
 ·have ho0:tU Tryz.prog 16 W [22] args.toList vds:=ho
  obtain⟨v0,_,rfl,h0,_,ho1⟩:=ho0.cons;obtain rfl:=ho1.nil;obtain⟨a0,rfl,e0⟩:=Po Tryz.underlying22 Tryz.underlying5 h0;exact OW a0 e0
theorem Rp:Rows.FnDeskSaid:=
 OpenClaim.holds_of_wide 3 Tryz.f3 rfl rfl rfl rfl rfl rfl rfl ⟨rfl,rfl,rfl,rfl,rfl⟩ rfl rfl rfl rfl rfl ah Tryz.func3 MQ
  (of_decide_eq_true ah) (by unfold Func.isWrapper;first|(rw[ai ug];kernel_rfl)|(rw[aj ug];exact⟨rfl,rfl⟩))
  (λos started H enc _=>I1 os started H enc)
theorem fnDesk_holds:Rows.FnDeskCardSaid:=
 Claim7.holds_tied_plain_at .later [] [.data, .data, .data, .data, .sentinel, .sentinel, .pinned] true (true, "fa6f1a9b518b3bf63f2a66f5048cb4f53e8a9df3023135bc31cdcaa696f6bf22") true Rp (fun _ h => kF) ah (fun _ h => kF) fnDesk_row_tie rfl ⟨rfl, rfl⟩ ah rfl
  (λf fn hf hfn=>by
   obtain rfl:f=3:=jy ((show Tryz.prog.funcNamed Rows.fnDeskRow.func=some 3 from ah).symm.trans hf) |>.symm;obtain rfl:fn=Tryz.f3:=(jy (Tryz.func3.symm.trans hfn)).symm;refine⟨ah,λj t ht=>?_⟩;have ht':(#[22]:Array TypeId)[j]? = some t:=ht;have hm:t∈[22]:=by simpa using Array.mem_of_getElem? ht'
   have hall:([22].all λu=>!Tryz.prog.wantsStandIn u)=true:=ah;exact(show Tryz.prog.wantsStandIn t=false by simpa using List.all_eq_true.1 hall t hm))
  (Zh ah rfl)
#print axioms fnDesk_holds
end Go.Proofs.YtmccaifipoohfaaGreatDoor
