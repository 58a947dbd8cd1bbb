import Derived.Test.YtmfcmlldnjffeaaDoorKEventText
import Derived.Test.YtmfcmlldnjffeaaDoorPC
import Derived.Test.YtmfcmlldnjffeaaDoorNA
import Derived.Test.YtmfcmlldnjffeaaDoorMF
import Derived.Test.YtmfcmlldnjffeaaDoorTie
import Derived.Test.YtmfcmlldnjffeaaDoorCards
namespace Go.Proofs.YtmfcmlldnjffeaaDoor
open Go.AM Go.ChangeShapes Go.WideShapes Go.ChangeAt Go.RowKit
set_option maxRecDepth 20000
set_option maxHeartbeats 3200000 in
theorem gD (a0:Event) (f0:a0.fits):aT Tryd.prog LT 4 [.agg a0.row] (.one (.c (.v (.bool true)) 1)):=by
 refine j7 am LT.stay Tryd.func4 (by kernel_rfl) rfl rfl rfl (Nat.le_of_ble_eq_true rfl) rfl (λw0 base us eok=>?_);simp [Event.row];intro u0
 try intros
 refine ab.pure (nj a0 f0 (2 ^ 20) (by omega)) (by simp [Event.row,u0]) ?_;by_cases k1:bu a0<=2 ^ 20
 rotate_left
 ·rw [df k1];simp
 rw [ei k1];obtain ⟨m1,hm1⟩:∃ m,2 ^ 20 - bu a0=m:=⟨_,rfl⟩;rw [hm1];have n0:bu a0<=2 ^ 20:=by omega
 simp;have hs:=fW a0 f0 n0;have hi:=f8 a0 f0 n0;generalize es a0=r at hs hi;have nn0:bu a0<=2 ^ 40:=Nat.le_trans n0 (by decide);refine ab.pure (eZ a0 (by omega)) (by simp [Event.row,u0]) ?_;simp [Event.res]
 try intros
 refine ab.pure hs (by simp [Event.row]) ?_;simp
 try intros
 refine ab.pure (eZ a0 (by omega)) (by simp [Event.row,u0]) ?_;simp [Event.res]
 try intros
 refine ap eok hi (by simp [Event.row]) ?_;simp
 try intros
 refine j8 eok mix (by kernel_rfl) ?_;simp;refine ⟨_,_,(eZ a0 (by omega)).up,by simp [Event.row,u0],?_⟩;simp [Event.res];refine ⟨_,_,(nZ a0 a0 (by omega)).up,by simp [Event.row],?_⟩;simp
theorem jw (os:Os) (args:Array Value):laidMetH Tryd.prog Rows.fnExactEventTextRow.laid ((World.laidAll Tryd.prog os Rows.fnExactEventTextRow.laid).forCall (λ_ _=>0) ⟨#[],args,[]⟩).memory:=
 rY args (by kernel_rfl) (by kernel_rfl) (by kernel_rfl)
set_option maxRecDepth 100000 in
theorem cX (os:Os) (started:os.Started) (H:Type) (enc:TypeId×Value->H) :
 ReturnsInHanded {} Tryd.checked os 4 .any (λw args=>(Rows.fnExactEventTextSpec.pre enc Tryd.prog Tryd.f4 [] false w args/\laidMetH Tryd.prog Rows.fnExactEventTextRow.laid w)/\sizedMet enc Tryd.prog Tryd.f4 (OpenSpec.ofChange Rows.fnExactEventTextSpec) false w args) (Rows.fnExactEventTextSpec.post enc Tryd.prog Tryd.f4 false true false false):=by
 refine pf (C:=Tryd.checked) (X:=λw _=>laidMetH Tryd.prog Rows.fnExactEventTextRow.laid w) (λ_ _ _ hh h=>h.of_heap hh) own started (by kernel_rfl) Tryd.func4
  (ChangeSpec.witness_shaped (enc:=enc) (C:=Tryd.checked) (os:=os) (X:=λw _=>laidMetH Tryd.prog Rows.fnExactEventTextRow.laid w) false (World.laidAll Tryd.prog os Rows.fnExactEventTextRow.laid) #[.agg #[.int .i64 0,.int .i64 0,.int .i64 0,.slice none 0 0]] 12 (World.laidAll_os _ _ _) (World.shaped_of_ZipB (by kernel_rfl) (by kernel_rfl)) (by kernel_rfl) (by kernel_rfl) (by kernel_rfl) (jw os _)) ?_
 intro W base args ds gs before hval hW hL hsh;have hL:laidMetH Tryd.prog Rows.fnExactEventTextRow.laid W:=hL;rw [MakeChecks.laidMetH_plain _ _ _ (by kernel_rfl)] at hL;have hLT:LT W:=xM hL hsh trivial;refine nI (L:=LT) (D:=16) laid rfl rfl Tryd.underlying4 (by kernel_rfl) (by kernel_rfl) (λds h=>?_) hval hW hLT (λvds ho=>?_)
 ·match ds,h with
  | [d0],_=>rfl
 ·have ho0:da Tryd.prog 16 W [34] args.toList vds:=ho
  obtain ⟨v0,_,rfl,h0,_,ho1⟩:=ho0.cons;obtain rfl:=ho1.nil;obtain ⟨x0,rfl,y0⟩:=jN Tryd.underlying34 (by rw [m8];decide) h0;obtain ⟨a0,rfl,e0⟩:=l1 y0;exact gD a0 e0
theorem dO:Rows.FnExactEventTextSaid:=
 OpenClaim.holds_of_wide 4 Tryd.f4 rfl rfl rfl rfl rfl rfl rfl ⟨rfl,rfl,rfl,rfl,rfl⟩ rfl rfl rfl rfl rfl (by kernel_rfl) Tryd.func4 f6
  (of_decide_eq_true (by kernel_rfl)) (by unfold Func.isWrapper;first|(rw [if_pos (by decide +kernel)];kernel_rfl)|(rw [if_neg (by decide +kernel)];exact ⟨rfl,rfl⟩))
  (λos started H enc _=>cX os started H enc)
theorem fnExactEventText_holds:Rows.FnExactEventTextCardSaid:=
 Claim7.holds_tied_plain_at .later [] [.data, .data, .data, .data, .pinned] true (true, "9dd214575629145ceb30e4123ca89f071726cc258af3849756c234e6e0f5aa7e") false dO (fun _ h => by cases h) (by kernel_rfl) (fun _ h => by cases h) fnExactEventText_row_tie rfl ⟨rfl, rfl⟩ (by kernel_rfl) rfl
  (λf fn hf hfn=>by
   obtain rfl:f=4:=Option.some.inj ((show Tryd.prog.funcNamed Rows.fnExactEventTextRow.func=some 4 by kernel_rfl).symm.trans hf) |>.symm;obtain rfl:fn=Tryd.f4:=(Option.some.inj (Tryd.func4.symm.trans hfn)).symm;refine ⟨by kernel_rfl,λj t ht=>?_⟩;have ht':(#[34]:Array TypeId)[j]? = some t:=ht;have hm:t∈[34]:=by simpa using Array.mem_of_getElem? ht'
   have hall:([34].all λu=>!Tryd.prog.wantsStandIn u)=true:=by kernel_rfl
   exact (show Tryd.prog.wantsStandIn t=false by simpa using List.all_eq_true.1 hall t hm))
  (by kernel_rfl)
#print axioms fnExactEventText_holds
end Go.Proofs.YtmfcmlldnjffeaaDoor
