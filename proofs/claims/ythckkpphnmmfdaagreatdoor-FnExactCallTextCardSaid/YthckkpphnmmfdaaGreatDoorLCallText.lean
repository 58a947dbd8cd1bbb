import Derived.Test.YthckkpphnmmfdaaGreatDoorKCallText
import Derived.Test.YthckkpphnmmfdaaGreatDoorPD
import Derived.Test.YthckkpphnmmfdaaGreatDoorNA
import Derived.Test.YthckkpphnmmfdaaGreatDoorMF
import Derived.Test.YthckkpphnmmfdaaGreatDoorTie
import Derived.Test.YthckkpphnmmfdaaGreatDoorCards
namespace Go.Proofs.YthckkpphnmmfdaaGreatDoor
open Go.AM Go.ChangeShapes Go.WideShapes Go.ChangeAt Go.RowKit
set_option maxRecDepth 20000
set_option maxHeartbeats 3200000 in
theorem iX (a0:Call) (f0:a0.fits):ba Tryz.prog LT 3 [.agg a0.row] (.one (.c (.v (.bool true)) 1)):=by
 refine k9 al LT.stay Tryz.func3 (by kernel_rfl) rfl rfl rfl (Nat.le_of_ble_eq_true rfl) rfl (λw0 base us eok=>?_);simp [Call.row];intro u0 u1
 try intros
 refine aa.pure (qJ a0 f0 (2 ^ 20) (by omega)) (by simp [Call.row,u0,u1]) ?_;by_cases k1:bK a0<=2 ^ 20
 rotate_left
 ·rw [cK k1];simp
 rw [eb k1];obtain ⟨m1,hm1⟩:∃ m,2 ^ 20 - bK a0=m:=⟨_,rfl⟩;rw [hm1];have n0:bK a0<=2 ^ 20:=by omega
 simp;have hs:=gZ a0 f0 n0;have hi:=il a0 f0 n0;generalize fT a0=r at hs hi;have nn0:bK a0<=2 ^ 40:=Nat.le_trans n0 (by decide);refine aa.pure (gT a0 (by omega)) (by simp [Call.row,u0,u1]) ?_;simp [Call.res]
 try intros
 refine aa.pure hs (by simp [Call.row]) ?_;simp
 try intros
 refine aa.pure (gT a0 (by omega)) (by simp [Call.row,u0,u1]) ?_;simp [Call.res]
 try intros
 refine ap eok hi (by simp [Call.row]) ?_;simp
 try intros
 refine ld eok mix (by kernel_rfl) ?_;simp;refine ⟨_,_,(gT a0 (by omega)).up,by simp [Call.row,u0,u1],?_⟩;simp [Call.res];refine ⟨_,_,(sa a0 a0 (by omega)).up,by simp [Call.row],?_⟩;simp
theorem lH (os:Os) (args:Array Value):laidMetH Tryz.prog Rows.fnExactCallTextRow.laid ((World.laidAll Tryz.prog os Rows.fnExactCallTextRow.laid).forCall (λ_ _=>0) ⟨#[],args,[]⟩).memory:=
 tQ args (by kernel_rfl) (by kernel_rfl) (by kernel_rfl)
set_option maxRecDepth 100000 in
theorem dP (os:Os) (started:os.Started) (H:Type) (enc:TypeId×Value->H) :
 ReturnsInHanded {} Tryz.checked os 3 .any (λw args=>(Rows.fnExactCallTextSpec.pre enc Tryz.prog Tryz.f3 [] false w args/\laidMetH Tryz.prog Rows.fnExactCallTextRow.laid w)/\sizedMet enc Tryz.prog Tryz.f3 (OpenSpec.ofChange Rows.fnExactCallTextSpec) false w args) (Rows.fnExactCallTextSpec.post enc Tryz.prog Tryz.f3 false true false false):=by
 refine qR (C:=Tryz.checked) (X:=λw _=>laidMetH Tryz.prog Rows.fnExactCallTextRow.laid w) (λ_ _ _ hh h=>h.of_heap hh) own started (by kernel_rfl) Tryz.func3
  (ChangeSpec.witness_shaped (enc:=enc) (C:=Tryz.checked) (os:=os) (X:=λw _=>laidMetH Tryz.prog Rows.fnExactCallTextRow.laid w) false (World.laidAll Tryz.prog os Rows.fnExactCallTextRow.laid) #[.agg #[.int .i64 0,.string ⟨#[]⟩,.int .i64 0,.int .i64 0,.int .i64 0,.slice none 0 0,.slice none 0 0]] 12 (World.laidAll_os _ _ _) (World.shaped_of_ZipB (by kernel_rfl) (by kernel_rfl)) (by kernel_rfl) (by kernel_rfl) (by kernel_rfl) (lH os _)) ?_
 intro W base args ds gs before hval hW hL hsh;have hL:laidMetH Tryz.prog Rows.fnExactCallTextRow.laid W:=hL;rw [MakeChecks.laidMetH_plain _ _ _ (by kernel_rfl)] at hL;have hLT:LT W:=zR hL hsh trivial;refine o5 (L:=LT) (D:=16) laid rfl rfl Tryz.underlying4 (by kernel_rfl) (by kernel_rfl) (λds h=>?_) hval hW hLT (λvds ho=>?_)
 ·match ds,h with
  | [d0],_=>rfl
 ·have ho0:dG Tryz.prog 16 W [25] args.toList vds:=ho
  obtain ⟨v0,_,rfl,h0,_,ho1⟩:=ho0.cons;obtain rfl:=ho1.nil;obtain ⟨x0,rfl,y0⟩:=kE Tryz.underlying25 (by rw [ox];decide) h0;obtain ⟨a0,rfl,e0⟩:=pk y0;exact iX a0 e0
theorem eG:Rows.FnExactCallTextSaid:=
 OpenClaim.holds_of_wide 3 Tryz.f3 rfl rfl rfl rfl rfl rfl rfl ⟨rfl,rfl,rfl,rfl,rfl⟩ rfl rfl rfl rfl rfl (by kernel_rfl) Tryz.func3 ii
  (of_decide_eq_true (by kernel_rfl)) (by unfold Func.isWrapper;first|(rw [if_pos (by decide +kernel)];kernel_rfl)|(rw [if_neg (by decide +kernel)];exact ⟨rfl,rfl⟩))
  (λos started H enc _=>dP os started H enc)
theorem fnExactCallText_holds:Rows.FnExactCallTextCardSaid:=
 Claim7.holds_tied_plain_at .later [] [.data, .data, .data, .data, .pinned] true (true, "4e866340558d7d4f814e433ae05a72f34cc5fdab6f0fa6919db05416dbdfeb4a") true eG (fun _ h => by cases h) (by kernel_rfl) (fun _ h => by cases h) fnExactCallText_row_tie rfl ⟨rfl, rfl⟩ (by kernel_rfl) rfl
  (λf fn hf hfn=>by
   obtain rfl:f=3:=Option.some.inj ((show Tryz.prog.funcNamed Rows.fnExactCallTextRow.func=some 3 by kernel_rfl).symm.trans hf) |>.symm;obtain rfl:fn=Tryz.f3:=(Option.some.inj (Tryz.func3.symm.trans hfn)).symm;refine ⟨by kernel_rfl,λj t ht=>?_⟩;have ht':(#[25]:Array TypeId)[j]? = some t:=ht;have hm:t∈[25]:=by simpa using Array.mem_of_getElem? ht'
   have hall:([25].all λu=>!Tryz.prog.wantsStandIn u)=true:=by kernel_rfl
   exact (show Tryz.prog.wantsStandIn t=false by simpa using List.all_eq_true.1 hall t hm))
  (by kernel_rfl)
#print axioms fnExactCallText_holds
end Go.Proofs.YthckkpphnmmfdaaGreatDoor
