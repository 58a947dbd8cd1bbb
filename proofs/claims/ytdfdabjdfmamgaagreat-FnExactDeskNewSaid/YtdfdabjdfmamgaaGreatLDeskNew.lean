import Derived.Test.YtdfdabjdfmamgaaGreatKDeskNew
import Derived.Test.YtdfdabjdfmamgaaGreatPC
import Derived.Test.YtdfdabjdfmamgaaGreatNA
import Derived.Test.YtdfdabjdfmamgaaGreatMF
/-
  The law on DeskNew returns true for every argument; what it was handed reads afterwards as before.
-/
namespace Go.Proofs.YtdfdabjdfmamgaaGreat
open Go.AM Go.ChangeShapes Go.WideShapes Go.ChangeAt Go.RowKit
set_option maxRecDepth 20000

set_option maxHeartbeats 3200000 in
theorem lawDeskNew_c  : PureC Tryz.prog 4 [] (.one (.c (.v (.bool true)) 1)) := by
  refine PureC.introL tt_ok Tryz.func4 (by kernel_rfl) rfl rfl rfl (Nat.le_of_ble_eq_true rfl) rfl (fun w0 base us => ?_)
  simp
  try intros
  have hs := specDeskNew_c 
  have hi := implDeskNew_c 
  have hb := fDeskNew_b 
  generalize fDeskNew  = r at hs hi hb
  have := Desk.cntT_le r
  refine ACall.pure hs (by simp) ?_
  simp [Desk.res]
  try intros
  refine ACall.pure hi (by simp) ?_
  simp [Desk.res]
  try intros
  refine ACall.pure (eqDesk_c r r (by omega)) (by simp [Desk.row]) ?_
  simp
  refine ACall.mark (markDesk_c r 1 (by omega) (by omega) (by omega)) rfl (fun _ h => h) (by simp) ?_
  obtain ⟨c1, hc1⟩ : ∃ c, 1 + ((r.cntT : Nat) : Int) = c := ⟨_, rfl⟩
  have zc1 : ¬ c1 < 0 := by omega
  simp [Desk.markT, Desk.res, hc1]
  refine ACall.pure (heldDesk_c r 1 (by omega) (by omega) (by omega)) (by simp [markL_length, Desk.row, Desk.markT]) ?_
  simp [hc1, zc1]
  refine ACall.pure hi (by simp) ?_
  simp [Desk.res]
  try intros
  refine ACall.pure (eqDesk_c r r (by omega)) (by simp [Desk.row]) ?_
  simp
  refine ACall.pure (heldDesk_c r 1 (by omega) (by omega) (by omega)) (by simp [markL_length, Desk.row, Desk.markT]) ?_
  simp [hc1, zc1]

set_option maxRecDepth 100000 in
theorem fnExactDeskNew_lifted (os : Os) (started : os.Started) (H : Type) (enc : TypeId × Value → H) :
    ReturnsInHanded {} Tryz.checked os 4 .any (Rows.fnExactDeskNewSpec.pre6 enc Tryz.prog Tryz.f4 Rows.fnExactDeskNewRow.domain false) (Rows.fnExactDeskNewSpec.post enc Tryz.prog Tryz.f4 false true false false) := by
  refine returnsInHanded_of_change (C := Tryz.checked) own started (by kernel_rfl) Tryz.func4
    (ChangeSpec.witness6 (enc := enc) (C := Tryz.checked) false ⟨#[], #[], []⟩ 12 (by kernel_rfl) (by kernel_rfl) (by kernel_rfl) (by kernel_rfl)) ?_
  intro W base args ds gs before hval hW _ _
  refine law_post (D := 16) laid rfl rfl Tryz.underlying4 (by kernel_rfl) (by kernel_rfl) (fun ds h => ?_) hval hW (fun vds ho => ?_)
  · match ds, h with
    | [], _ => rfl
  · have ho0 : Opens Tryz.prog 16 W [] args.toList vds := ho
    obtain rfl := ho0.nil
    exact lawDeskNew_c 

theorem fnExactDeskNew_holds : Rows.FnExactDeskNewSaid :=
  OpenClaim.holds_of_wide 4 Tryz.f4 rfl rfl rfl rfl rfl rfl rfl ⟨rfl, rfl, rfl, rfl, rfl⟩ rfl rfl rfl rfl rfl (by kernel_rfl) Tryz.func4 joinedDeskNew
    (of_decide_eq_true (by kernel_rfl)) (by unfold Func.isWrapper; first | (rw [if_pos (by decide +kernel)]; kernel_rfl) | (rw [if_neg (by decide +kernel)]; exact ⟨rfl, rfl⟩))
    (fun os started H enc _ => fnExactDeskNew_lifted os started H enc)
#print axioms fnExactDeskNew_holds
end Go.Proofs.YtdfdabjdfmamgaaGreat

