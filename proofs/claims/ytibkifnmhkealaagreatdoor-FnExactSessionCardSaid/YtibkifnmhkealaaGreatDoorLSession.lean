import Derived.Test.YtibkifnmhkealaaGreatDoorKSession
import Derived.Test.YtibkifnmhkealaaGreatDoorPR
import Derived.Test.YtibkifnmhkealaaGreatDoorNA
import Derived.Test.YtibkifnmhkealaaGreatDoorMF
import Derived.Test.YtibkifnmhkealaaGreatDoorTie
import Derived.Test.YtibkifnmhkealaaGreatDoorCards
namespace Go.Proofs.YtibkifnmhkealaaGreatDoor
open Go.AM Go.ChangeShapes Go.WideShapes Go.ChangeAt Go.RowKit
set_option maxRecDepth 20000
set_option maxHeartbeats 3200000 in
theorem Bp (a0:ByteArray) (f0:a0.size<=9223372036854775807):bY Tryz.prog LT 3 [.c (.v (.string a0))] (.one (.c (.v (.bool true)) 1)):=by
 refine bY.introL ae LT.stay Tryz.func3 (by kernel_rfl) rfl rfl rfl (Nat.le_of_ble_eq_true rfl) rfl (λw0 base us eok=>?_);simp
 try intros
 by_cases hbig0:1048576<(a0.size:Int)
 ·simp [hbig0]
 have n0:a0.size<=2 ^ 20:=by omega
 simp [hbig0];have hs:=yz a0 f0 n0;have hi:=yZ a0 f0 n0;generalize oW a0=r at hs hi;obtain ⟨r0,r1⟩:=r;simp only at hs hi;have nn0:a0.size<=2 ^ 40:=Nat.le_trans n0 (by decide);refine aa.pure hs (by simp) ?_;simp
 try intros
 refine ag eok hi (by simp) ?_;simp
 try intros
theorem E3 (os:Os) (args:Array Value):laidMetH Tryz.prog Rows.fnExactSessionRow.laid ((World.laidAll Tryz.prog os Rows.fnExactSessionRow.laid).forCall (λ_ _=>0) ⟨#[],args,[]⟩).memory:=
 Mm args (by kernel_rfl) (by kernel_rfl) (by kernel_rfl)
set_option maxRecDepth 100000 in
theorem oa (os:Os) (started:os.Started) (H:Type) (enc:TypeId×Value->H) :
 ReturnsInHanded {} Tryz.checked os 3 .any (λw args=>(Rows.fnExactSessionSpec.pre enc Tryz.prog Tryz.f3 [] false w args/\laidMetH Tryz.prog Rows.fnExactSessionRow.laid w)/\sizedMet enc Tryz.prog Tryz.f3 (OpenSpec.ofChange Rows.fnExactSessionSpec) false w args) (Rows.fnExactSessionSpec.post enc Tryz.prog Tryz.f3 false true false false):=by
 refine JJ (C:=Tryz.checked) (X:=λw _=>laidMetH Tryz.prog Rows.fnExactSessionRow.laid w) (λ_ _ _ hh h=>h.of_heap hh) own started (by kernel_rfl) Tryz.func3
  (ChangeSpec.witness_shaped (enc:=enc) (C:=Tryz.checked) (os:=os) (X:=λw _=>laidMetH Tryz.prog Rows.fnExactSessionRow.laid w) false (World.laidAll Tryz.prog os Rows.fnExactSessionRow.laid) #[.string ⟨#[]⟩] 12 (World.laidAll_os _ _ _) (World.shaped_of_ZipB (by kernel_rfl) (by kernel_rfl)) (by kernel_rfl) (by kernel_rfl) (by kernel_rfl) (E3 os _)) ?_
 intro W base args ds gs before hval hW hL hsh;have hL:laidMetH Tryz.prog Rows.fnExactSessionRow.laid W:=hL;rw [MakeChecks.laidMetH_plain _ _ _ (by kernel_rfl)] at hL;have hLT:LT W:=R0 hL hsh (Mn hL.tail.tail.tail.tail);refine HC (L:=LT) (D:=16) laid rfl rfl Tryz.underlying4 (by kernel_rfl) (by kernel_rfl) (λds h=>?_) hval hW hLT (λvds ho=>?_)
 ·match ds,h with
  | [d0],_=>rfl
 ·have ho0:mK Tryz.prog 16 W [9] args.toList vds:=ho
  obtain ⟨v0,_,rfl,h0,_,ho1⟩:=ho0.cons;obtain rfl:=ho1.nil;obtain ⟨x0,rfl,y0⟩:=MB Tryz.underlying9 (by simp) h0;obtain ⟨a0,z0,e0⟩:=DI Tryz.underlying9 y0;simp at z0;subst z0;rw [mL] at e0;exact Bp a0 e0
theorem rm:Rows.FnExactSessionSaid:=
 OpenClaim.holds_of_wide 3 Tryz.f3 rfl rfl rfl rfl rfl rfl rfl ⟨rfl,rfl,rfl,rfl,rfl⟩ rfl rfl rfl rfl rfl (by kernel_rfl) Tryz.func3 yT
  (of_decide_eq_true (by kernel_rfl)) (by unfold Func.isWrapper;first|(rw [if_pos (by decide +kernel)];kernel_rfl)|(rw [if_neg (by decide +kernel)];exact ⟨rfl,rfl⟩))
  (λos started H enc _=>oa os started H enc)
theorem fnExactSession_holds:Rows.FnExactSessionCardSaid:=
 Claim7.holds_tied_plain_at .later [] [.data, .data, .data, .data, .sentinel, .sentinel, .pinned] true (true, "54c898c493ad9f862139a0b92f6f0bf96e5763315e85e1c1f2ac989e06b7b053") true rm (fun _ h => by cases h) (by kernel_rfl) (fun _ h => by cases h) fnExactSession_row_tie rfl ⟨rfl, rfl⟩ (by kernel_rfl) rfl
  (λf fn hf hfn=>by
   obtain rfl:f=3:=Option.some.inj ((show Tryz.prog.funcNamed Rows.fnExactSessionRow.func=some 3 by kernel_rfl).symm.trans hf) |>.symm;obtain rfl:fn=Tryz.f3:=(Option.some.inj (Tryz.func3.symm.trans hfn)).symm;refine ⟨by kernel_rfl,λj t ht=>?_⟩;have ht':(#[9]:Array TypeId)[j]? = some t:=ht;have hm:t∈[9]:=by simpa using Array.mem_of_getElem? ht'
   have hall:([9].all λu=>!Tryz.prog.wantsStandIn u)=true:=by kernel_rfl
   exact (show Tryz.prog.wantsStandIn t=false by simpa using List.all_eq_true.1 hall t hm))
  (HU (by kernel_rfl) rfl)
#print axioms fnExactSession_holds
end Go.Proofs.YtibkifnmhkealaaGreatDoor
