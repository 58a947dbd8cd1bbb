import Derived.Test.YthckkpphnmmfdaaGreatDoorKTextCall
import Derived.Test.YthckkpphnmmfdaaGreatDoorPF
import Derived.Test.YthckkpphnmmfdaaGreatDoorNA
import Derived.Test.YthckkpphnmmfdaaGreatDoorMF
import Derived.Test.YthckkpphnmmfdaaGreatDoorTie
import Derived.Test.YthckkpphnmmfdaaGreatDoorCards
namespace Go.Proofs.YthckkpphnmmfdaaGreatDoor
open Go.AM Go.ChangeShapes Go.WideShapes Go.ChangeAt Go.RowKit
set_option maxRecDepth 20000
set_option maxHeartbeats 3200000 in
theorem lP (a0:ByteArray) (f0:a0.size<=9223372036854775807):aW Tryz.prog LT 5 [.c (.v (.string a0))] (.one (.c (.v (.bool true)) 1)):=by
 refine om aq LT.stay Tryz.func5 (by kernel_rfl) rfl rfl rfl (Nat.le_of_ble_eq_true rfl) rfl (λw0 base us eok=>?_);simp
 try intros
 by_cases hbig0:1048576<(a0.size:Int)
 ·simp [hbig0]
 have n0:a0.size<=2 ^ 20:=by omega
 simp [hbig0];have hs:=j7 a0 f0 n0;have hi:=kO a0 f0 n0;have hb:=pA a0 f0 n0;generalize dv a0=r at hs hi hb;obtain ⟨r0,r1⟩:=r;simp only at hs hi hb;have nn0:a0.size<=2 ^ 40:=Nat.le_trans n0 (by decide);have:=Call.cntT_le r0;refine aa.pure hs (by simp) ?_;simp [Call.res]
 try intros
 refine ab eok hi (by simp) ?_;simp [Call.res]
 try intros
 refine aa.pure (pE r0 r0 (by omega)) (by simp [Call.row]) ?_;simp;refine aa.mark (qB r0 1 (by omega) (by omega) (by omega)) rfl (λ_ h=>h) (by simp) ?_;obtain ⟨c1,hc1⟩:∃ c,1+((r0.cntT:Nat):Int)=c:=⟨_,rfl⟩;have zc1:¬ c1<0:=by omega
 simp [Call.markT,Call.res,hc1];refine aa.pure (kR r0 1 (by omega) (by omega) (by omega)) (by simp [aJ,Call.row,Call.markT]) ?_;simp [hc1,zc1];refine ab eok hi (by simp) ?_;simp [Call.res]
 try intros
 refine aa.pure (pE r0 r0 (by omega)) (by simp [Call.row]) ?_;simp;refine aa.pure (kR r0 1 (by omega) (by omega) (by omega)) (by simp [aJ,Call.row,Call.markT]) ?_;simp [hc1,zc1]
theorem oZ (os:Os) (args:Array Value):laidMetH Tryz.prog Rows.fnExactTextCallRow.laid ((World.laidAll Tryz.prog os Rows.fnExactTextCallRow.laid).forCall (λ_ _=>0) ⟨#[],args,[]⟩).memory:=
 xS args (by kernel_rfl) (by kernel_rfl) (by kernel_rfl)
set_option maxRecDepth 100000 in
theorem fe (os:Os) (started:os.Started) (H:Type) (enc:TypeId×Value->H) :
 ReturnsInHanded {} Tryz.checked os 5 .any (λw args=>(Rows.fnExactTextCallSpec.pre enc Tryz.prog Tryz.f5 [] false w args/\laidMetH Tryz.prog Rows.fnExactTextCallRow.laid w)/\sizedMet enc Tryz.prog Tryz.f5 (OpenSpec.ofChange Rows.fnExactTextCallSpec) false w args) (Rows.fnExactTextCallSpec.post enc Tryz.prog Tryz.f5 false true false false):=by
 refine uV (C:=Tryz.checked) (X:=λw _=>laidMetH Tryz.prog Rows.fnExactTextCallRow.laid w) (λ_ _ _ hh h=>h.of_heap hh) own started (by kernel_rfl) Tryz.func5
  (ChangeSpec.witness_shaped (enc:=enc) (C:=Tryz.checked) (os:=os) (X:=λw _=>laidMetH Tryz.prog Rows.fnExactTextCallRow.laid w) false (World.laidAll Tryz.prog os Rows.fnExactTextCallRow.laid) #[.string ⟨#[]⟩] 12 (World.laidAll_os _ _ _) (World.shaped_of_ZipB (by kernel_rfl) (by kernel_rfl)) (by kernel_rfl) (by kernel_rfl) (by kernel_rfl) (oZ os _)) ?_
 intro W base args ds gs before hval hW hL hsh;have hL:laidMetH Tryz.prog Rows.fnExactTextCallRow.laid W:=hL;rw [MakeChecks.laidMetH_plain _ _ _ (by kernel_rfl)] at hL;have hLT:LT W:=DB hL hsh (xT hL.tail.tail.tail.tail);refine sS (L:=LT) (D:=16) laid rfl rfl Tryz.underlying4 (by kernel_rfl) (by kernel_rfl) (λds h=>?_) hval hW hLT (λvds ho=>?_)
 ·match ds,h with
  | [d0],_=>rfl
 ·have ho0:eN Tryz.prog 16 W [9] args.toList vds:=ho
  obtain ⟨v0,_,rfl,h0,_,ho1⟩:=ho0.cons;obtain rfl:=ho1.nil;obtain ⟨x0,rfl,y0⟩:=yj Tryz.underlying9 (by simp) h0;obtain ⟨a0,z0,e0⟩:=pw Tryz.underlying9 y0;simp at z0;subst z0;rw [mL] at e0;exact lP a0 e0
theorem ge:Rows.FnExactTextCallSaid:=
 OpenClaim.holds_of_wide 5 Tryz.f5 rfl rfl rfl rfl rfl rfl rfl ⟨rfl,rfl,rfl,rfl,rfl⟩ rfl rfl rfl rfl rfl (by kernel_rfl) Tryz.func5 kI
  (of_decide_eq_true (by kernel_rfl)) (by unfold Func.isWrapper;first|(rw [if_pos (by decide +kernel)];kernel_rfl)|(rw [if_neg (by decide +kernel)];exact ⟨rfl,rfl⟩))
  (λos started H enc _=>fe os started H enc)
theorem fnExactTextCall_holds:Rows.FnExactTextCallCardSaid:=
 Claim7.holds_tied_plain_at .later [] [.data, .data, .data, .data, .sentinel, .sentinel, .pinned] true (true, "4e866340558d7d4f814e433ae05a72f34cc5fdab6f0fa6919db05416dbdfeb4a") true ge (fun _ h => by cases h) (by kernel_rfl) (fun _ h => by cases h) fnExactTextCall_row_tie rfl ⟨rfl, rfl⟩ (by kernel_rfl) rfl
  (λf fn hf hfn=>by
   obtain rfl:f=5:=Option.some.inj ((show Tryz.prog.funcNamed Rows.fnExactTextCallRow.func=some 5 by kernel_rfl).symm.trans hf) |>.symm;obtain rfl:fn=Tryz.f5:=(Option.some.inj (Tryz.func5.symm.trans hfn)).symm;refine ⟨by kernel_rfl,λj t ht=>?_⟩;have ht':(#[9]:Array TypeId)[j]? = some t:=ht;have hm:t∈[9]:=by simpa using Array.mem_of_getElem? ht'
   have hall:([9].all λu=>!Tryz.prog.wantsStandIn u)=true:=by kernel_rfl
   exact (show Tryz.prog.wantsStandIn t=false by simpa using List.all_eq_true.1 hall t hm))
  (by kernel_rfl)
#print axioms fnExactTextCall_holds
end Go.Proofs.YthckkpphnmmfdaaGreatDoor
