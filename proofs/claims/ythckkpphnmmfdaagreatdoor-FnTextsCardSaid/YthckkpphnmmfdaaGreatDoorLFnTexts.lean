import Derived.Test.YthckkpphnmmfdaaGreatDoorKFnTexts
import Derived.Test.YthckkpphnmmfdaaGreatDoorPN
import Derived.Test.YthckkpphnmmfdaaGreatDoorNA
import Derived.Test.YthckkpphnmmfdaaGreatDoorMF
import Derived.Test.YthckkpphnmmfdaaGreatDoorTie
import Derived.Test.YthckkpphnmmfdaaGreatDoorCards
namespace Go.Proofs.YthckkpphnmmfdaaGreatDoor
open Go.AM Go.ChangeShapes Go.WideShapes Go.ChangeAt Go.RowKit
set_option maxRecDepth 20000
theorem AE (os:Os) (args:Array Value):laidMetH Tryz.prog Rows.fnTextsRow.laid ((World.laidAll Tryz.prog os Rows.fnTextsRow.laid).forCall (λ_ _=>0) ⟨#[],args,[]⟩).memory:=
 I1 args (by kernel_rfl) (by kernel_rfl) (by kernel_rfl)
set_option maxRecDepth 100000 in
theorem sH (os:Os) (started:os.Started) (H:Type) (enc:TypeId×Value->H) :
 ReturnsInHanded {} Tryz.checked os 6 .any (λw args=>(Rows.fnTextsSpec.pre enc Tryz.prog Tryz.f6 [] false w args/\laidMetH Tryz.prog Rows.fnTextsRow.laid w)/\sizedMet enc Tryz.prog Tryz.f6 (OpenSpec.ofChange Rows.fnTextsSpec) false w args) (Rows.fnTextsSpec.post enc Tryz.prog Tryz.f6 false true false false):=by
 refine FG (C:=Tryz.checked) (X:=λw _=>laidMetH Tryz.prog Rows.fnTextsRow.laid w) (λ_ _ _ hh h=>h.of_heap hh) own started (by kernel_rfl) Tryz.func6
  (ChangeSpec.witness_shaped (enc:=enc) (C:=Tryz.checked) (os:=os) (X:=λw _=>laidMetH Tryz.prog Rows.fnTextsRow.laid w) false (World.laidAll Tryz.prog os Rows.fnTextsRow.laid) #[.slice none 0 0] 12 (World.laidAll_os _ _ _) (World.shaped_of_ZipB (by kernel_rfl) (by kernel_rfl)) (by kernel_rfl) (by kernel_rfl) (by kernel_rfl) (AE os _)) ?_
 intro W base args ds gs before hval hW hL hsh;have hL:laidMetH Tryz.prog Rows.fnTextsRow.laid W:=hL;rw [MakeChecks.laidMetH_plain _ _ _ (by kernel_rfl)] at hL;have hLT:LT W:=O9 hL hsh (I2 hL.tail.tail.tail.tail);refine Dl (L:=LT) (D:=16) laid rfl rfl Tryz.underlying4 (by kernel_rfl) (by kernel_rfl) (λds h=>?_) hval hW hLT (λvds ho=>?_)
 ·match ds,h with
  | [d0],_=>rfl
 ·have ho0:ku Tryz.prog 16 W [44] args.toList vds:=ho
  obtain ⟨v0,_,rfl,h0,_,ho1⟩:=ho0.cons;obtain rfl:=ho1.nil;obtain ⟨a0,rfl,e0⟩:=zc Tryz.underlying44 Tryz.underlying5 h0;exact ww a0 e0
theorem za:Rows.FnTextsSaid:=
 OpenClaim.holds_of_wide 6 Tryz.f6 rfl rfl rfl rfl rfl rfl rfl ⟨rfl,rfl,rfl,rfl,rfl⟩ rfl rfl rfl rfl rfl (by kernel_rfl) Tryz.func6 tS
  (of_decide_eq_true (by kernel_rfl)) (by unfold Func.isWrapper;first|(rw [if_pos (by decide +kernel)];kernel_rfl)|(rw [if_neg (by decide +kernel)];exact ⟨rfl,rfl⟩))
  (λos started H enc _=>sH os started H enc)
theorem fnTexts_holds:Rows.FnTextsCardSaid:=
 Claim7.holds_tied_plain_at .later [] [.data, .data, .data, .data, .sentinel, .sentinel, .pinned] true (true, "4e866340558d7d4f814e433ae05a72f34cc5fdab6f0fa6919db05416dbdfeb4a") true za (fun _ h => by cases h) (by kernel_rfl) (fun _ h => by cases h) fnTexts_row_tie rfl ⟨rfl, rfl⟩ (by kernel_rfl) rfl
  (λf fn hf hfn=>by
   obtain rfl:f=6:=Option.some.inj ((show Tryz.prog.funcNamed Rows.fnTextsRow.func=some 6 by kernel_rfl).symm.trans hf) |>.symm;obtain rfl:fn=Tryz.f6:=(Option.some.inj (Tryz.func6.symm.trans hfn)).symm;refine ⟨by kernel_rfl,λj t ht=>?_⟩;have ht':(#[44]:Array TypeId)[j]? = some t:=ht;have hm:t∈[44]:=by simpa using Array.mem_of_getElem? ht'
   have hall:([44].all λu=>!Tryz.prog.wantsStandIn u)=true:=by kernel_rfl
   exact (show Tryz.prog.wantsStandIn t=false by simpa using List.all_eq_true.1 hall t hm))
  (by kernel_rfl)
#print axioms fnTexts_holds
end Go.Proofs.YthckkpphnmmfdaaGreatDoor
