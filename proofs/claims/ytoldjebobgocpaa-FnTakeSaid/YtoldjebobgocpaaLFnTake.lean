import Derived.Test.YtoldjebobgocpaaKFnTake
import Derived.Test.YtoldjebobgocpaaPJ
import Derived.Test.YtoldjebobgocpaaNA
import Derived.Test.YtoldjebobgocpaaMF
namespace Go.Proofs.Ytoldjebobgocpaa
open Go.AM Go.ChangeShapes Go.WideShapes Go.ChangeAt Go.RowKit
set_option maxRecDepth 20000
set_option maxRecDepth 100000 in
theorem fnTake_lifted (os : Os) (started : os.Started) (H : Type) (enc : TypeId × Value→H) :
 ReturnsInHanded {} Try.checked os 4 .any (Rows.fnTakeSpec.pre6 enc Try.prog Try.f4 Rows.fnTakeRow.domain false) (Rows.fnTakeSpec.post enc Try.prog Try.f4 false true false false):=by
 refine returnsInHanded_of_change (C:=Try.checked) own started (by kernel_rfl) Try.func4
  (ChangeSpec.witness6 (enc:=enc) (C:=Try.checked) false ⟨#[],#[.slice none 0 0],[]⟩ 12 (by kernel_rfl) (by kernel_rfl) (by kernel_rfl) (by kernel_rfl)) ?_
 intro W base args ds gs before hval hW _ _;refine law_post (D:=16) laid rfl rfl Try.underlying4 (by kernel_rfl) (by kernel_rfl) (fun ds h=>?_) hval hW (fun vds ho=>?_)
 ·match ds,h with
  | [d0],_=>rfl
 ·have ho0 : Opens Try.prog 16 W [22] args.toList vds:=ho
  obtain ⟨v0,_,rfl,h0,_,ho1⟩:=ho0.cons;obtain rfl:=ho1.nil;obtain ⟨a0,rfl,e0⟩:=fitsV_bytes Try.underlying22 Try.underlying5 h0;exact lawFnTake_c a0 e0
theorem fnTake_holds : Rows.FnTakeSaid:=
 OpenClaim.holds_of_wide 4 Try.f4 rfl rfl rfl rfl rfl rfl rfl ⟨rfl,rfl,rfl,rfl,rfl⟩ rfl rfl rfl rfl rfl (by kernel_rfl) Try.func4 joinedFnTake
  (of_decide_eq_true (by kernel_rfl)) (by unfold Func.isWrapper;first | (rw [if_pos (by decide +kernel)];kernel_rfl) | (rw [if_neg (by decide +kernel)];exact ⟨rfl,rfl⟩))
  (fun os started H enc _=>fnTake_lifted os started H enc)
#print axioms fnTake_holds
end Go.Proofs.Ytoldjebobgocpaa
