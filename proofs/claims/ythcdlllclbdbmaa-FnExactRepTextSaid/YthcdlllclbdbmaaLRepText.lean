/-
  The law on RepText returns true for every argument; what it was handed reads afterwards as before.
-/
import Derived.Test.YthcdlllclbdbmaaFRepText
import Derived.Test.YthcdlllclbdbmaaDFit
namespace Go.Proofs.Ythcdlllclbdbmaa
open Go.AM Go.ChangeShapes Go.WideShapes Go.ChangeAt Go.RowKit
set_option maxRecDepth 20000

theorem lawRepText_c (a0 : Rep) (f0 : a0.fits) : PureC Try.prog 13 [.agg a0.row] (.one (.c (.v (.bool true)) 1)) := by
  refine PureC.introL tt_ok Try.func13 (by kernel_rfl) rfl rfl rfl (Nat.le_of_ble_eq_true rfl) rfl (fun w0 base us => ?_)
  simp [Rep.row]
  intro u0 u1 u2
  try intros
  refine ACall.pure (szRep_c a0 f0 (2 ^ 20) (by omega)) (by simp [Rep.row, u0, u1, u2]) ?_
  by_cases k1 : nRep a0 ≤ 2 ^ 20
  rotate_left
  · rw [szR_no k1]; simp
  rw [szR_ok k1]
  obtain ⟨m1, hm1⟩ : ∃ m, 2 ^ 20 - nRep a0 = m := ⟨_, rfl⟩
  rw [hm1]
  have n0 : nRep a0 ≤ 2 ^ 20 := by omega
  simp
  have hs := specRepText_c a0 f0 n0
  have hi := implRepText_c a0 f0 n0
  have hb := fRepText_b a0 f0 n0
  generalize fRepText a0 = r at hs hi hb
  have nn0 : nRep a0 ≤ 2 ^ 40 := Nat.le_trans n0 (by decide)
  have := Rep.cntT_le a0
  refine ACall.pure (toRep_c a0 (by omega)) (by simp [Rep.row, u0, u1, u2]) ?_
  simp [Rep.res]
  try intros
  refine ACall.pure hs (by simp [Rep.row]) ?_
  simp
  try intros
  refine ACall.pure (toRep_c a0 (by omega)) (by simp [Rep.row, u0, u1, u2]) ?_
  simp [Rep.res]
  try intros
  refine ACall.pure hi (by simp [Rep.row]) ?_
  simp
  try intros
  refine ACall.pure (eqIntS_c r r (by omega)) (by simp) ?_
  simp
  refine DrawT.quietH eok mix (by kernel_rfl) ?_
  simp
  refine ⟨_, _, toRep_c a0 (by omega), by simp [Rep.row, u0, u1, u2], ?_⟩
  simp [Rep.res]
  refine ⟨_, _, eqRep_c a0 a0 (by omega), by simp [Rep.row], ?_⟩
  simp
  refine ACall.mark (markRep_c a0 1 (by omega) (by omega) (by omega)) rfl (fun _ h => h) (by simp) ?_
  obtain ⟨c1, hc1⟩ : ∃ c, 1 + ((a0.cntT : Nat) : Int) = c := ⟨_, rfl⟩
  have zc1 : ¬ c1 < 0 := by omega
  simp [Rep.markT, Rep.res, hc1, zc1]
  refine ACall.pure (eqIntS_c r r (by omega)) (by simp) ?_
  simp
  refine ACall.mark (markIntS_c r 1 (by omega) (by omega)) rfl (fun _ h => h) (by simp) ?_
  obtain ⟨c2, hc2⟩ : ∃ c, 1 + ((r.length : Nat) : Int) = c := ⟨_, rfl⟩
  have zc2 : ¬ c2 < 0 := by omega
  simp [hc2]
  refine ACall.pure (heldIntS_c r 1 (by omega) (by omega)) (by simp [markL_length]) ?_
  simp [hc2, zc2]
  refine ACall.pure (toRep_c a0 (by omega)) (by simp [Rep.row, u0, u1, u2]) ?_
  simp [Rep.res]
  try intros
  refine ACall.pure hi (by simp [Rep.row]) ?_
  simp
  try intros
  refine ACall.pure (eqIntS_c r r (by omega)) (by simp) ?_
  simp
  refine ACall.pure (heldIntS_c r 1 (by omega) (by omega)) (by simp [markL_length]) ?_
  simp [hc2, zc2]

set_option maxRecDepth 100000 in
theorem fnExactRepText_lifted (os : Os) (started : os.Started) (H : Type) (enc : TypeId × Value → H) :
    ReturnsInHanded {} Try.checked os 13 .any (Rows.fnExactRepTextSpec.pre6 enc Try.prog Try.f13 Rows.fnExactRepTextRow.domain false) (Rows.fnExactRepTextSpec.post enc Try.prog Try.f13 false true false false) := by
  refine returnsInHanded_of_change (C := Try.checked) own started (by kernel_rfl) Try.func13
    (ChangeSpec.witness6 (enc := enc) (C := Try.checked) false ⟨#[], #[.agg #[.int .i64 0, .int .i64 0, .int .i64 0, .slice none 0 0, .bool false, .slice none 0 0, .slice none 0 0]], []⟩ 12 (by kernel_rfl) (by kernel_rfl) (by kernel_rfl) (by kernel_rfl)) ?_
  intro W base args ds gs before hval hW _ _
  refine law_post (D := 10) laid rfl rfl Try.underlying4 (by kernel_rfl) (by kernel_rfl) (fun ds h => ?_) hval hW (fun vds ho => ?_)
  · match ds, h with
    | [d0], _ => rfl
  · have ho0 : Opens Try.prog 10 W [34] args.toList vds := ho
    obtain ⟨v0, _, rfl, h0, _, ho1⟩ := ho0.cons
    obtain rfl := ho1.nil
    obtain ⟨x0, rfl, y0⟩ := fitsV_struct Try.underlying34 (by rw [cells34]; decide) h0
    obtain ⟨a0, rfl, e0⟩ := fits_Rep y0
    exact lawRepText_c a0 e0

theorem fnExactRepText_holds : Rows.FnExactRepTextSaid :=
  OpenClaim.holds_of_wide 13 Try.f13 rfl rfl rfl rfl rfl rfl rfl ⟨rfl, rfl, rfl, rfl, rfl⟩ rfl rfl rfl rfl rfl (by kernel_rfl) Try.func13 (by kernel_rfl)
    (of_decide_eq_true (by kernel_rfl)) (by unfold Func.isWrapper; first | (rw [if_pos (by decide +kernel)]; kernel_rfl) | (rw [if_neg (by decide +kernel)]; exact ⟨rfl, rfl⟩))
    (fun os started H enc _ => fnExactRepText_lifted os started H enc)
#print axioms fnExactRepText_holds
end Go.Proofs.Ythcdlllclbdbmaa
