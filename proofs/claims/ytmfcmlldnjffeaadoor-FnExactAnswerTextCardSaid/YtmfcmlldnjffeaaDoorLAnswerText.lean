import Derived.Test.YtmfcmlldnjffeaaDoorKAnswerText
import Derived.Test.YtmfcmlldnjffeaaDoorPC
import Derived.Test.YtmfcmlldnjffeaaDoorNA
import Derived.Test.YtmfcmlldnjffeaaDoorMF
import Derived.Test.YtmfcmlldnjffeaaDoorTie
import Derived.Test.YtmfcmlldnjffeaaDoorCards
namespace Go.Proofs.YtmfcmlldnjffeaaDoor
open Go.AM Go.ChangeShapes Go.WideShapes Go.ChangeAt Go.RowKit
set_option maxRecDepth 20000
set_option maxHeartbeats 3200000 in
theorem gi (a0:Answer) (f0:a0.fits):aN Tryd.prog LT 5 [.agg a0.row] (.one (.c (.v (.bool true)) 1)):=by
 refine kr ak LT.stay Tryd.func5 (by kernel_rfl) rfl rfl rfl (Nat.le_of_ble_eq_true rfl) rfl (λw0 base us eok=>?_);simp [Answer.row];intro u0 u1
 try intros
 refine ab.pure (lS a0 f0 (2 ^ 20) (by omega)) (by simp [Answer.row,u0,u1]) ?_;by_cases k1:ba a0<=2 ^ 20
 rotate_left
 ·rw [bE k1];simp
 rw [cB k1];obtain ⟨m1,hm1⟩:∃ m,2 ^ 20 - ba a0=m:=⟨_,rfl⟩;rw [hm1];have n0:ba a0<=2 ^ 20:=by omega
 simp;have hs:=fe a0 f0 n0;have hi:=fp a0 f0 n0;generalize dS a0=r at hs hi;have nn0:ba a0<=2 ^ 40:=Nat.le_trans n0 (by decide);refine ab.pure (en a0 (by omega)) (by simp [Answer.row,u0,u1]) ?_;simp [Answer.res]
 try intros
 refine ab.pure hs (by simp [Answer.row]) ?_;simp
 try intros
 refine ab.pure (en a0 (by omega)) (by simp [Answer.row,u0,u1]) ?_;simp [Answer.res]
 try intros
 refine ar eok hi (by simp [Answer.row]) ?_;simp
 try intros
 refine kt eok mix (by kernel_rfl) ?_;simp;refine ⟨_,_,(en a0 (by omega)).up,by simp [Answer.row,u0,u1],?_⟩;simp [Answer.res];refine ⟨_,_,(mn a0 a0 (by omega)).up,by simp [Answer.row],?_⟩;simp
theorem iw (os:Os) (args:Array Value):laidMetH Tryd.prog Rows.fnExactAnswerTextRow.laid ((World.laidAll Tryd.prog os Rows.fnExactAnswerTextRow.laid).forCall (λ_ _=>0) ⟨#[],args,[]⟩).memory:=
 sh args (by kernel_rfl) (by kernel_rfl) (by kernel_rfl)
set_option maxRecDepth 100000 in
theorem c5 (os:Os) (started:os.Started) (H:Type) (enc:TypeId×Value->H) :
 ReturnsInHanded {} Tryd.checked os 5 .any (λw args=>(Rows.fnExactAnswerTextSpec.pre enc Tryd.prog Tryd.f5 [] false w args/\laidMetH Tryd.prog Rows.fnExactAnswerTextRow.laid w)/\sizedMet enc Tryd.prog Tryd.f5 (OpenSpec.ofChange Rows.fnExactAnswerTextSpec) false w args) (Rows.fnExactAnswerTextSpec.post enc Tryd.prog Tryd.f5 false true false false):=by
 refine pA (C:=Tryd.checked) (X:=λw _=>laidMetH Tryd.prog Rows.fnExactAnswerTextRow.laid w) (λ_ _ _ hh h=>h.of_heap hh) own started (by kernel_rfl) Tryd.func5
  (ChangeSpec.witness_shaped (enc:=enc) (C:=Tryd.checked) (os:=os) (X:=λw _=>laidMetH Tryd.prog Rows.fnExactAnswerTextRow.laid w) false (World.laidAll Tryd.prog os Rows.fnExactAnswerTextRow.laid) #[.agg #[.int .i64 0,.int .i64 0,.slice none 0 0,.slice none 0 0]] 12 (World.laidAll_os _ _ _) (World.shaped_of_ZipB (by kernel_rfl) (by kernel_rfl)) (by kernel_rfl) (by kernel_rfl) (by kernel_rfl) (iw os _)) ?_
 intro W base args ds gs before hval hW hL hsh;have hL:laidMetH Tryd.prog Rows.fnExactAnswerTextRow.laid W:=hL;rw [MakeChecks.laidMetH_plain _ _ _ (by kernel_rfl)] at hL;have hLT:LT W:=x8 hL hsh trivial;refine n9 (L:=LT) (D:=16) laid rfl rfl Tryd.underlying4 (by kernel_rfl) (by kernel_rfl) (λds h=>?_) hval hW hLT (λvds ho=>?_)
 ·match ds,h with
  | [d0],_=>rfl
 ·have ho0:dh Tryd.prog 16 W [45] args.toList vds:=ho
  obtain ⟨v0,_,rfl,h0,_,ho1⟩:=ho0.cons;obtain rfl:=ho1.nil;obtain ⟨x0,rfl,y0⟩:=j0 Tryd.underlying45 (by rw [nu];decide) h0;obtain ⟨a0,rfl,e0⟩:=li y0;exact gi a0 e0
theorem dH:Rows.FnExactAnswerTextSaid:=
 OpenClaim.holds_of_wide 5 Tryd.f5 rfl rfl rfl rfl rfl rfl rfl ⟨rfl,rfl,rfl,rfl,rfl⟩ rfl rfl rfl rfl rfl (by kernel_rfl) Tryd.func5 fl
  (of_decide_eq_true (by kernel_rfl)) (by unfold Func.isWrapper;first|(rw [if_pos (by decide +kernel)];kernel_rfl)|(rw [if_neg (by decide +kernel)];exact ⟨rfl,rfl⟩))
  (λos started H enc _=>c5 os started H enc)
theorem fnExactAnswerText_holds:Rows.FnExactAnswerTextCardSaid:=
 Claim7.holds_tied_plain_at .later [] [.data, .data, .data, .data, .pinned] true (true, "9dd214575629145ceb30e4123ca89f071726cc258af3849756c234e6e0f5aa7e") false dH (fun _ h => by cases h) (by kernel_rfl) (fun _ h => by cases h) fnExactAnswerText_row_tie rfl ⟨rfl, rfl⟩ (by kernel_rfl) rfl
  (λf fn hf hfn=>by
   obtain rfl:f=5:=Option.some.inj ((show Tryd.prog.funcNamed Rows.fnExactAnswerTextRow.func=some 5 by kernel_rfl).symm.trans hf) |>.symm;obtain rfl:fn=Tryd.f5:=(Option.some.inj (Tryd.func5.symm.trans hfn)).symm;refine ⟨by kernel_rfl,λj t ht=>?_⟩;have ht':(#[45]:Array TypeId)[j]? = some t:=ht;have hm:t∈[45]:=by simpa using Array.mem_of_getElem? ht'
   have hall:([45].all λu=>!Tryd.prog.wantsStandIn u)=true:=by kernel_rfl
   exact (show Tryd.prog.wantsStandIn t=false by simpa using List.all_eq_true.1 hall t hm))
  (by kernel_rfl)
#print axioms fnExactAnswerText_holds
end Go.Proofs.YtmfcmlldnjffeaaDoor
