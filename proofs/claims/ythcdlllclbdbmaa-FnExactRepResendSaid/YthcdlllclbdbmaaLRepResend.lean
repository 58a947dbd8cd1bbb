/-
  The law on RepResend returns true for every argument; what it was handed reads afterwards as before.
-/
import Derived.Test.YthcdlllclbdbmaaFRepResend
import Derived.Test.YthcdlllclbdbmaaDFit
namespace Go.Proofs.Ythcdlllclbdbmaa
open Go.AM Go.ChangeShapes Go.WideShapes Go.ChangeAt Go.RowKit
set_option maxRecDepth 20000

theorem lawRepResend_c (a0 : Rep) (f0 : a0.fits) : PureC Try.prog 14 [.agg a0.row] (.one (.c (.v (.bool true)) 1)) := by
  refine PureC.introL tt_ok Try.func14 (by kernel_rfl) rfl rfl rfl (Nat.le_of_ble_eq_true rfl) rfl (fun w0 base us => ?_)
  simp [Rep.row]
  intro u0 u1 u2
  try intros
  refine ACall.pure (szRep_c a0 f0 (2 ^ 20) (by omega)) (by simp [Rep.row, u0, u1, u2]) ?_
  by_cases k1 : nRep a0 ≤ 2 ^ 20
  rotate_left
  · rw [szR_no k1]; simp
  rw [szR_ok k1]
  obtain ⟨m1, hm1⟩ : ∃ m, 2 ^ 20 - nRep a0 = m := ⟨_, rfl⟩
  rw [hm1]
  have n0 : nRep a0 ≤ 2 ^ 20 := by omega
  simp
  have hs := specRepResend_c a0 f0 n0
  have hi := implRepResend_c a0 f0 n0
  have hb := fRepResend_b a0 f0 n0
  generalize fRepResend a0 = r at hs hi hb
  obtain ⟨r0, r1⟩ := r
  simp only at hs hi hb
  have nn0 : nRep a0 ≤ 2 ^ 40 := Nat.le_trans n0 (by decide)
  have := Rep.cntT_le a0
  have := Call.cntT_le r0
  refine ACall.pure (toRep_c a0 (by omega)) (by simp [Rep.row, u0, u1, u2]) ?_
  simp [Rep.res]
  try intros
  refine ACall.pure hs (by simp [Rep.row]) ?_
  simp [Call.res]
  try intros
  refine ACall.pure (toRep_c a0 (by omega)) (by simp [Rep.row, u0, u1, u2]) ?_
  simp [Rep.res]
  try intros
  refine ACall.pure hi (by simp [Rep.row]) ?_
  simp [Call.res]
  try intros
  refine ACall.pure (eqCall_c r0 r0 (by omega)) (by simp [Call.row]) ?_
  simp
  refine DrawT.quietH eok mix (by kernel_rfl) ?_
  simp
  refine ⟨_, _, toRep_c a0 (by omega), by simp [Rep.row, u0, u1, u2], ?_⟩
  simp [Rep.res]
  refine ⟨_, _, eqRep_c a0 a0 (by omega), by simp [Rep.row], ?_⟩
  simp
  refine ACall.mark (markRep_c a0 1 (by omega) (by omega) (by omega)) rfl (fun _ h => h) (by simp) ?_
  obtain ⟨c1, hc1⟩ : ∃ c, 1 + ((a0.cntT : Nat) : Int) = c := ⟨_, rfl⟩
  have zc1 : ¬ c1 < 0 := by omega
  simp [Rep.markT, Rep.res, hc1, zc1]
  refine ACall.pure (eqCall_c r0 r0 (by omega)) (by simp [Call.row]) ?_
  simp
  refine ACall.mark (markCall_c r0 1 (by omega) (by omega) (by omega)) rfl (fun _ h => h) (by simp) ?_
  obtain ⟨c2, hc2⟩ : ∃ c, 1 + ((r0.cntT : Nat) : Int) = c := ⟨_, rfl⟩
  have zc2 : ¬ c2 < 0 := by omega
  simp [Call.markT, Call.res, hc2]
  refine ACall.pure (heldCall_c r0 1 (by omega) (by omega) (by omega)) (by simp [markL_length, Call.row, Call.markT]) ?_
  simp [hc2, zc2]
  refine ACall.pure (toRep_c a0 (by omega)) (by simp [Rep.row, u0, u1, u2]) ?_
  simp [Rep.res]
  try intros
  refine ACall.pure hi (by simp [Rep.row]) ?_
  simp [Call.res]
  try intros
  refine ACall.pure (eqCall_c r0 r0 (by omega)) (by simp [Call.row]) ?_
  simp
  refine ACall.pure (heldCall_c r0 1 (by omega) (by omega) (by omega)) (by simp [markL_length, Call.row, Call.markT]) ?_
  simp [hc2, zc2]

set_option maxRecDepth 100000 in
theorem fnExactRepResend_lifted (os : Os) (started : os.Started) (H : Type) (enc : TypeId × Value → H) :
    ReturnsInHanded {} Try.checked os 14 .any (Rows.fnExactRepResendSpec.pre6 enc Try.prog Try.f14 Rows.fnExactRepResendRow.domain false) (Rows.fnExactRepResendSpec.post enc Try.prog Try.f14 false true false false) := by
  refine returnsInHanded_of_change (C := Try.checked) own started (by kernel_rfl) Try.func14
    (ChangeSpec.witness6 (enc := enc) (C := Try.checked) false ⟨#[], #[.agg #[.int .i64 0, .int .i64 0, .int .i64 0, .slice none 0 0, .bool false, .slice none 0 0, .slice none 0 0]], []⟩ 12 (by kernel_rfl) (by kernel_rfl) (by kernel_rfl) (by kernel_rfl)) ?_
  intro W base args ds gs before hval hW _ _
  refine law_post (D := 10) laid rfl rfl Try.underlying4 (by kernel_rfl) (by kernel_rfl) (fun ds h => ?_) hval hW (fun vds ho => ?_)
  · match ds, h with
    | [d0], _ => rfl
  · have ho0 : Opens Try.prog 10 W [34] args.toList vds := ho
    obtain ⟨v0, _, rfl, h0, _, ho1⟩ := ho0.cons
    obtain rfl := ho1.nil
    obtain ⟨x0, rfl, y0⟩ := fitsV_struct Try.underlying34 (by rw [cells34]; decide) h0
    obtain ⟨a0, rfl, e0⟩ := fits_Rep y0
    exact lawRepResend_c a0 e0

theorem fnExactRepResend_holds : Rows.FnExactRepResendSaid :=
  OpenClaim.holds_of_wide 14 Try.f14 rfl rfl rfl rfl rfl rfl rfl ⟨rfl, rfl, rfl, rfl, rfl⟩ rfl rfl rfl rfl rfl (by kernel_rfl) Try.func14 (by kernel_rfl)
    (of_decide_eq_true (by kernel_rfl)) (by unfold Func.isWrapper; first | (rw [if_pos (by decide +kernel)]; kernel_rfl) | (rw [if_neg (by decide +kernel)]; exact ⟨rfl, rfl⟩))
    (fun os started H enc _ => fnExactRepResend_lifted os started H enc)
#print axioms fnExactRepResend_holds
end Go.Proofs.Ythcdlllclbdbmaa
