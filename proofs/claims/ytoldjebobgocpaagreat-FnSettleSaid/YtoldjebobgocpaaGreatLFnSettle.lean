import Derived.Test.YtoldjebobgocpaaGreatKFnSettle
import Derived.Test.YtoldjebobgocpaaGreatPM
import Derived.Test.YtoldjebobgocpaaGreatNA
import Derived.Test.YtoldjebobgocpaaGreatMF
namespace Go.Proofs.YtoldjebobgocpaaGreat
open Go.AM Go.ChangeShapes Go.WideShapes Go.ChangeAt Go.RowKit
set_option maxRecDepth 20000
set_option maxRecDepth 100000 in
theorem oR (os : Os) (started : os.Started) (H : Type) (enc : TypeId × Value->H) :
 ReturnsInHanded {} Tryz.checked os 11 .any (Rows.fnSettleSpec.pre6 enc Tryz.prog Tryz.f11 Rows.fnSettleRow.domain false) (Rows.fnSettleSpec.post enc Tryz.prog Tryz.f11 false true false false):=by
 refine returnsInHanded_of_change (C:=Tryz.checked) own started (by kernel_rfl) Tryz.func11
  (ChangeSpec.witness6 (enc:=enc) (C:=Tryz.checked) false ⟨#[],#[.slice none 0 0],[]⟩ 12 (by kernel_rfl) (by kernel_rfl) (by kernel_rfl) (by kernel_rfl)) ?_
 intro W base args ds gs before hval hW _ _;refine Cg (D:=16) Np rfl rfl Tryz.underlying4 (by kernel_rfl) (by kernel_rfl) (λds h=>?_) hval hW (λvds ho=>?_)
 ·match ds,h with
  | [d0],_=>rfl
 ·have ho0 : it Tryz.prog 16 W [57] args.toList vds:=ho
  obtain ⟨v0,_,rfl,h0,_,ho1⟩:=ho0.cons;obtain rfl:=ho1.nil;obtain ⟨a0,rfl,e0⟩:=vx Tryz.underlying57 Tryz.underlying5 h0;exact q7 a0 e0
theorem fnSettle_holds : Rows.FnSettleSaid:=
 OpenClaim.holds_of_wide 11 Tryz.f11 rfl rfl rfl rfl rfl rfl rfl ⟨rfl,rfl,rfl,rfl,rfl⟩ rfl rfl rfl rfl rfl (by kernel_rfl) Tryz.func11 pS
  (of_decide_eq_true (by kernel_rfl)) (by unfold Func.isWrapper;first | (rw [if_pos (by decide +kernel)];kernel_rfl) | (rw [if_neg (by decide +kernel)];exact ⟨rfl,rfl⟩))
  (λos started H enc _=>oR os started H enc)
#print axioms fnSettle_holds
end Go.Proofs.YtoldjebobgocpaaGreat
