import Derived.Test.YtoldjebobgocpaaKFnKeep
import Derived.Test.YtoldjebobgocpaaPJ
import Derived.Test.YtoldjebobgocpaaNA
import Derived.Test.YtoldjebobgocpaaMF
namespace Go.Proofs.Ytoldjebobgocpaa
open Go.AM Go.ChangeShapes Go.WideShapes Go.ChangeAt Go.RowKit
set_option maxRecDepth 20000
set_option maxRecDepth 100000 in
theorem oB (os : Os) (started : os.Started) (H : Type) (enc : TypeId × Value->H) :
 ReturnsInHanded {} Try.checked os 5 .any (Rows.fnKeepSpec.pre6 enc Try.prog Try.f5 Rows.fnKeepRow.domain false) (Rows.fnKeepSpec.post enc Try.prog Try.f5 false true false false):=by
 refine returnsInHanded_of_change (C:=Try.checked) own started (by kernel_rfl) Try.func5
  (ChangeSpec.witness6 (enc:=enc) (C:=Try.checked) false ⟨#[],#[.slice none 0 0],[]⟩ 12 (by kernel_rfl) (by kernel_rfl) (by kernel_rfl) (by kernel_rfl)) ?_
 intro W base args ds gs before hval hW _ _;refine yy (D:=16) IG rfl rfl Try.underlying4 (by kernel_rfl) (by kernel_rfl) (λds h=>?_) hval hW (λvds ho=>?_)
 ·match ds,h with
  | [d0],_=>rfl
 ·have ho0 : gm Try.prog 16 W [22] args.toList vds:=ho
  obtain ⟨v0,_,rfl,h0,_,ho1⟩:=ho0.cons;obtain rfl:=ho1.nil;obtain ⟨a0,rfl,e0⟩:=si Try.underlying22 Try.underlying5 h0;exact rW a0 e0
theorem fnKeep_holds : Rows.FnKeepSaid:=
 OpenClaim.holds_of_wide 5 Try.f5 rfl rfl rfl rfl rfl rfl rfl ⟨rfl,rfl,rfl,rfl,rfl⟩ rfl rfl rfl rfl rfl (by kernel_rfl) Try.func5 qg
  (of_decide_eq_true (by kernel_rfl)) (by unfold Func.isWrapper;first | (rw [if_pos (by decide +kernel)];kernel_rfl) | (rw [if_neg (by decide +kernel)];exact ⟨rfl,rfl⟩))
  (λos started H enc _=>oB os started H enc)
#print axioms fnKeep_holds
end Go.Proofs.Ytoldjebobgocpaa
