import Derived.Test.YtoldjebobgocpaaGreatKFnAlone
import Derived.Test.YtoldjebobgocpaaGreatPP
import Derived.Test.YtoldjebobgocpaaGreatNA
import Derived.Test.YtoldjebobgocpaaGreatMF
namespace Go.Proofs.YtoldjebobgocpaaGreat
open Go.AM Go.ChangeShapes Go.WideShapes Go.ChangeAt Go.RowKit
set_option maxRecDepth 20000
set_option maxRecDepth 100000 in
theorem sE (os : Os) (started : os.Started) (H : Type) (enc : TypeId × Value->H) :
 ReturnsInHanded {} Tryz.checked os 6 .any (Rows.fnAloneSpec.pre6 enc Tryz.prog Tryz.f6 Rows.fnAloneRow.domain false) (Rows.fnAloneSpec.post enc Tryz.prog Tryz.f6 false true false false):=by
 refine returnsInHanded_of_change (C:=Tryz.checked) own started (by kernel_rfl) Tryz.func6
  (ChangeSpec.witness6 (enc:=enc) (C:=Tryz.checked) false ⟨#[],#[.slice none 0 0],[]⟩ 12 (by kernel_rfl) (by kernel_rfl) (by kernel_rfl) (by kernel_rfl)) ?_
 intro W base args ds gs before hval hW _ _;refine FV (D:=16) RK rfl rfl Tryz.underlying4 (by kernel_rfl) (by kernel_rfl) (λds h=>?_) hval hW (λvds ho=>?_)
 ·match ds,h with
  | [d0],_=>rfl
 ·have ho0 : jT Tryz.prog 16 W [57] args.toList vds:=ho
  obtain ⟨v0,_,rfl,h0,_,ho1⟩:=ho0.cons;obtain rfl:=ho1.nil;obtain ⟨a0,rfl,e0⟩:=yV Tryz.underlying57 Tryz.underlying5 h0;exact v3 a0 e0
theorem fnAlone_holds : Rows.FnAloneSaid:=
 OpenClaim.holds_of_wide 6 Tryz.f6 rfl rfl rfl rfl rfl rfl rfl ⟨rfl,rfl,rfl,rfl,rfl⟩ rfl rfl rfl rfl rfl (by kernel_rfl) Tryz.func6 tX
  (of_decide_eq_true (by kernel_rfl)) (by unfold Func.isWrapper;first | (rw [if_pos (by decide +kernel)];kernel_rfl) | (rw [if_neg (by decide +kernel)];exact ⟨rfl,rfl⟩))
  (λos started H enc _=>sE os started H enc)
#print axioms fnAlone_holds
end Go.Proofs.YtoldjebobgocpaaGreat
