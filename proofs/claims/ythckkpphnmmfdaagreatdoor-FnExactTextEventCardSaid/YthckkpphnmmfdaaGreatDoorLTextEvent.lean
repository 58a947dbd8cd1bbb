import Derived.Test.YthckkpphnmmfdaaGreatDoorKTextEvent
import Derived.Test.YthckkpphnmmfdaaGreatDoorPE
import Derived.Test.YthckkpphnmmfdaaGreatDoorPF
import Derived.Test.YthckkpphnmmfdaaGreatDoorNA
import Derived.Test.YthckkpphnmmfdaaGreatDoorMF
import Derived.Test.YthckkpphnmmfdaaGreatDoorTie
import Derived.Test.YthckkpphnmmfdaaGreatDoorCards
namespace Go.Proofs.YthckkpphnmmfdaaGreatDoor
open Go.AM Go.ChangeShapes Go.WideShapes Go.ChangeAt Go.RowKit
set_option maxRecDepth 20000
set_option maxHeartbeats 3200000 in
theorem ke (a0:ByteArray) (f0:a0.size<=9223372036854775807):aK Tryz.prog LT 4 [.c (.v (.string a0))] (.one (.c (.v (.bool true)) 1)):=by
 refine nF aq LT.stay Tryz.func4 (by kernel_rfl) rfl rfl rfl (Nat.le_of_ble_eq_true rfl) rfl (λw0 base us eok=>?_);simp
 try intros
 by_cases hbig0:1048576<(a0.size:Int)
 ·simp [hbig0]
 have n0:a0.size<=2 ^ 20:=by omega
 simp [hbig0];have hs:=jc a0 f0 n0;have hi:=jk a0 f0 n0;have hb:=m9 a0 f0 n0;generalize cG a0=r at hs hi hb;obtain ⟨r0,r1⟩:=r;simp only at hs hi hb;have nn0:a0.size<=2 ^ 40:=Nat.le_trans n0 (by decide);have:=Event.cntT_le r0;refine aa.pure hs (by simp) ?_;simp [Event.res]
 try intros
 refine ah eok hi (by simp) ?_;simp [Event.res]
 try intros
 refine aa.pure (me r0 r0 (by omega)) (by simp [Event.row]) ?_;simp;refine aa.mark (oc r0 1 (by omega) (by omega) (by omega)) rfl (λ_ h=>h) (by simp) ?_;obtain ⟨c1,hc1⟩:∃ c,1+((r0.cntT:Nat):Int)=c:=⟨_,rfl⟩;have zc1:¬ c1<0:=by omega
 simp [Event.markT,Event.res,hc1];refine aa.pure (iQ r0 1 (by omega) (by omega) (by omega)) (by simp [ay,Event.row,Event.markT]) ?_;simp [hc1,zc1];refine ah eok hi (by simp) ?_;simp [Event.res]
 try intros
 refine aa.pure (me r0 r0 (by omega)) (by simp [Event.row]) ?_;simp;refine aa.pure (iQ r0 1 (by omega) (by omega) (by omega)) (by simp [ay,Event.row,Event.markT]) ?_;simp [hc1,zc1]
theorem mN (os:Os) (args:Array Value):laidMetH Tryz.prog Rows.fnExactTextEventRow.laid ((World.laidAll Tryz.prog os Rows.fnExactTextEventRow.laid).forCall (λ_ _=>0) ⟨#[],args,[]⟩).memory:=
 wP args (by kernel_rfl) (by kernel_rfl) (by kernel_rfl)
set_option maxRecDepth 100000 in
theorem ek (os:Os) (started:os.Started) (H:Type) (enc:TypeId×Value->H) :
 ReturnsInHanded {} Tryz.checked os 4 .any (λw args=>(Rows.fnExactTextEventSpec.pre enc Tryz.prog Tryz.f4 [] false w args/\laidMetH Tryz.prog Rows.fnExactTextEventRow.laid w)/\sizedMet enc Tryz.prog Tryz.f4 (OpenSpec.ofChange Rows.fnExactTextEventSpec) false w args) (Rows.fnExactTextEventSpec.post enc Tryz.prog Tryz.f4 false true false false):=by
 refine tN (C:=Tryz.checked) (X:=λw _=>laidMetH Tryz.prog Rows.fnExactTextEventRow.laid w) (λ_ _ _ hh h=>h.of_heap hh) own started (by kernel_rfl) Tryz.func4
  (ChangeSpec.witness_shaped (enc:=enc) (C:=Tryz.checked) (os:=os) (X:=λw _=>laidMetH Tryz.prog Rows.fnExactTextEventRow.laid w) false (World.laidAll Tryz.prog os Rows.fnExactTextEventRow.laid) #[.string ⟨#[]⟩] 12 (World.laidAll_os _ _ _) (World.shaped_of_ZipB (by kernel_rfl) (by kernel_rfl)) (by kernel_rfl) (by kernel_rfl) (by kernel_rfl) (mN os _)) ?_
 intro W base args ds gs before hval hW hL hsh;have hL:laidMetH Tryz.prog Rows.fnExactTextEventRow.laid W:=hL;rw [MakeChecks.laidMetH_plain _ _ _ (by kernel_rfl)] at hL;have hLT:LT W:=CC hL hsh (wQ hL.tail.tail.tail.tail);refine rP (L:=LT) (D:=16) laid rfl rfl Tryz.underlying4 (by kernel_rfl) (by kernel_rfl) (λds h=>?_) hval hW hLT (λvds ho=>?_)
 ·match ds,h with
  | [d0],_=>rfl
 ·have ho0:er Tryz.prog 16 W [9] args.toList vds:=ho
  obtain ⟨v0,_,rfl,h0,_,ho1⟩:=ho0.cons;obtain rfl:=ho1.nil;obtain ⟨x0,rfl,y0⟩:=xi Tryz.underlying9 (by simp) h0;obtain ⟨a0,z0,e0⟩:=oJ Tryz.underlying9 y0;simp at z0;subst z0;rw [mL] at e0;exact ke a0 e0
theorem fj:Rows.FnExactTextEventSaid:=
 OpenClaim.holds_of_wide 4 Tryz.f4 rfl rfl rfl rfl rfl rfl rfl ⟨rfl,rfl,rfl,rfl,rfl⟩ rfl rfl rfl rfl rfl (by kernel_rfl) Tryz.func4 jh
  (of_decide_eq_true (by kernel_rfl)) (by unfold Func.isWrapper;first|(rw [if_pos (by decide +kernel)];kernel_rfl)|(rw [if_neg (by decide +kernel)];exact ⟨rfl,rfl⟩))
  (λos started H enc _=>ek os started H enc)
theorem fnExactTextEvent_holds:Rows.FnExactTextEventCardSaid:=
 Claim7.holds_tied_plain_at .later [] [.data, .data, .data, .data, .sentinel, .sentinel, .pinned] true (true, "4e866340558d7d4f814e433ae05a72f34cc5fdab6f0fa6919db05416dbdfeb4a") true fj (fun _ h => by cases h) (by kernel_rfl) (fun _ h => by cases h) fnExactTextEvent_row_tie rfl ⟨rfl, rfl⟩ (by kernel_rfl) rfl
  (λf fn hf hfn=>by
   obtain rfl:f=4:=Option.some.inj ((show Tryz.prog.funcNamed Rows.fnExactTextEventRow.func=some 4 by kernel_rfl).symm.trans hf) |>.symm;obtain rfl:fn=Tryz.f4:=(Option.some.inj (Tryz.func4.symm.trans hfn)).symm;refine ⟨by kernel_rfl,λj t ht=>?_⟩;have ht':(#[9]:Array TypeId)[j]? = some t:=ht;have hm:t∈[9]:=by simpa using Array.mem_of_getElem? ht'
   have hall:([9].all λu=>!Tryz.prog.wantsStandIn u)=true:=by kernel_rfl
   exact (show Tryz.prog.wantsStandIn t=false by simpa using List.all_eq_true.1 hall t hm))
  (by kernel_rfl)
#print axioms fnExactTextEvent_holds
end Go.Proofs.YthckkpphnmmfdaaGreatDoor
