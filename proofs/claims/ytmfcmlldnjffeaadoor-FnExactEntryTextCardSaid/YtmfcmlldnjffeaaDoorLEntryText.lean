import Derived.Test.YtmfcmlldnjffeaaDoorKEntryText
import Derived.Test.YtmfcmlldnjffeaaDoorPC
import Derived.Test.YtmfcmlldnjffeaaDoorNA
import Derived.Test.YtmfcmlldnjffeaaDoorMF
import Derived.Test.YtmfcmlldnjffeaaDoorTie
import Derived.Test.YtmfcmlldnjffeaaDoorCards
namespace Go.Proofs.YtmfcmlldnjffeaaDoor
open Go.AM Go.ChangeShapes Go.WideShapes Go.ChangeAt Go.RowKit
set_option maxRecDepth 20000
set_option maxHeartbeats 3200000 in
theorem gr (a0:Entry) (f0:a0.fits):aS Tryd.prog LT 3 [.agg a0.row] (.one (.c (.v (.bool true)) 1)):=by
 refine jW an LT.stay Tryd.func3 (by kernel_rfl) rfl rfl rfl (Nat.le_of_ble_eq_true rfl) rfl (λw0 base us eok=>?_);simp [Entry.row];intro u0
 try intros
 refine ac.pure (m6 a0 f0 (2 ^ 20) (by omega)) (by simp [Entry.row,u0]) ?_;by_cases k1:bJ a0<=2 ^ 20
 rotate_left
 ·rw [c5 k1];simp
 rw [d8 k1];obtain ⟨m1,hm1⟩:∃ m,2 ^ 20 - bJ a0=m:=⟨_,rfl⟩;rw [hm1];have n0:bJ a0<=2 ^ 20:=by omega
 simp;have hs:=fL a0 f0 n0;have hi:=fT a0 f0 n0;generalize ef a0=r at hs hi;have nn0:bJ a0<=2 ^ 40:=Nat.le_trans n0 (by decide);refine ac.pure (eO a0 (by omega)) (by simp [Entry.row,u0]) ?_;simp [Entry.res]
 try intros
 refine ac.pure hs (by simp [Entry.row]) ?_;simp
 try intros
 refine ac.pure (eO a0 (by omega)) (by simp [Entry.row,u0]) ?_;simp [Entry.res]
 try intros
 refine aK eok hi (by simp [Entry.row]) ?_;simp
 try intros
 refine jX eok mix (by kernel_rfl) ?_;simp;refine ⟨_,_,(eO a0 (by omega)).up,by simp [Entry.row,u0],?_⟩;simp [Entry.res];refine ⟨_,_,(nN a0 a0 (by omega)).up,by simp [Entry.row],?_⟩;simp
theorem jl (os:Os) (args:Array Value):laidMetH Tryd.prog Rows.fnExactEntryTextRow.laid ((World.laidAll Tryd.prog os Rows.fnExactEntryTextRow.laid).forCall (λ_ _=>0) ⟨#[],args,[]⟩).memory:=
 rM args (by kernel_rfl) (by kernel_rfl) (by kernel_rfl)
set_option maxRecDepth 100000 in
theorem cS (os:Os) (started:os.Started) (H:Type) (enc:TypeId×Value->H) :
 ReturnsInHanded {} Tryd.checked os 3 .any (λw args=>(Rows.fnExactEntryTextSpec.pre enc Tryd.prog Tryd.f3 [] false w args/\laidMetH Tryd.prog Rows.fnExactEntryTextRow.laid w)/\sizedMet enc Tryd.prog Tryd.f3 (OpenSpec.ofChange Rows.fnExactEntryTextSpec) false w args) (Rows.fnExactEntryTextSpec.post enc Tryd.prog Tryd.f3 false true false false):=by
 refine oZ (C:=Tryd.checked) (X:=λw _=>laidMetH Tryd.prog Rows.fnExactEntryTextRow.laid w) (λ_ _ _ hh h=>h.of_heap hh) own started (by kernel_rfl) Tryd.func3
  (ChangeSpec.witness_shaped (enc:=enc) (C:=Tryd.checked) (os:=os) (X:=λw _=>laidMetH Tryd.prog Rows.fnExactEntryTextRow.laid w) false (World.laidAll Tryd.prog os Rows.fnExactEntryTextRow.laid) #[.agg #[.int .i64 0,.int .i64 0,.slice none 0 0]] 12 (World.laidAll_os _ _ _) (World.shaped_of_ZipB (by kernel_rfl) (by kernel_rfl)) (by kernel_rfl) (by kernel_rfl) (by kernel_rfl) (jl os _)) ?_
 intro W base args ds gs before hval hW hL hsh;have hL:laidMetH Tryd.prog Rows.fnExactEntryTextRow.laid W:=hL;rw [MakeChecks.laidMetH_plain _ _ _ (by kernel_rfl)] at hL;have hLT:LT W:=xA hL hsh trivial;refine nv (L:=LT) (D:=16) laid rfl rfl Tryd.underlying4 (by kernel_rfl) (by kernel_rfl) (λds h=>?_) hval hW hLT (λvds ho=>?_)
 ·match ds,h with
  | [d0],_=>rfl
 ·have ho0:cY Tryd.prog 16 W [24] args.toList vds:=ho
  obtain ⟨v0,_,rfl,h0,_,ho1⟩:=ho0.cons;obtain rfl:=ho1.nil;obtain ⟨x0,rfl,y0⟩:=jD Tryd.underlying24 (by rw [mU];decide) h0;obtain ⟨a0,rfl,e0⟩:=lQ y0;exact gr a0 e0
theorem dF:Rows.FnExactEntryTextSaid:=
 OpenClaim.holds_of_wide 3 Tryd.f3 rfl rfl rfl rfl rfl rfl rfl ⟨rfl,rfl,rfl,rfl,rfl⟩ rfl rfl rfl rfl rfl (by kernel_rfl) Tryd.func3 fR
  (of_decide_eq_true (by kernel_rfl)) (by unfold Func.isWrapper;first|(rw [if_pos (by decide +kernel)];kernel_rfl)|(rw [if_neg (by decide +kernel)];exact ⟨rfl,rfl⟩))
  (λos started H enc _=>cS os started H enc)
theorem fnExactEntryText_holds:Rows.FnExactEntryTextCardSaid:=
 Claim7.holds_tied_plain_at .later [] [.data, .data, .data, .data, .pinned] true (true, "9dd214575629145ceb30e4123ca89f071726cc258af3849756c234e6e0f5aa7e") false dF (fun _ h => by cases h) (by kernel_rfl) (fun _ h => by cases h) fnExactEntryText_row_tie rfl ⟨rfl, rfl⟩ (by kernel_rfl) rfl
  (λf fn hf hfn=>by
   obtain rfl:f=3:=Option.some.inj ((show Tryd.prog.funcNamed Rows.fnExactEntryTextRow.func=some 3 by kernel_rfl).symm.trans hf) |>.symm;obtain rfl:fn=Tryd.f3:=(Option.some.inj (Tryd.func3.symm.trans hfn)).symm;refine ⟨by kernel_rfl,λj t ht=>?_⟩;have ht':(#[24]:Array TypeId)[j]? = some t:=ht;have hm:t∈[24]:=by simpa using Array.mem_of_getElem? ht'
   have hall:([24].all λu=>!Tryd.prog.wantsStandIn u)=true:=by kernel_rfl
   exact (show Tryd.prog.wantsStandIn t=false by simpa using List.all_eq_true.1 hall t hm))
  (by kernel_rfl)
#print axioms fnExactEntryText_holds
end Go.Proofs.YtmfcmlldnjffeaaDoor
