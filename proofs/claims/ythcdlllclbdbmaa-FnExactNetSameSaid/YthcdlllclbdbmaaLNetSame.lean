/-
  The law on NetSame returns true for every argument; what it was handed reads afterwards as before.
-/
import Derived.Test.YthcdlllclbdbmaaFNetSame2
import Derived.Test.YthcdlllclbdbmaaDFit
namespace Go.Proofs.Ythcdlllclbdbmaa
open Go.AM Go.ChangeShapes Go.WideShapes Go.ChangeAt Go.RowKit
set_option maxRecDepth 20000

theorem lawNetSame_c (a0 : Net) (f0 : a0.fits) (a1 : Net) (f1 : a1.fits) : PureC Try.prog 10 [.agg a0.row, .agg a1.row] (.one (.c (.v (.bool true)) 1)) := by
  refine PureC.introL tt_ok Try.func10 (by kernel_rfl) rfl rfl rfl (Nat.le_of_ble_eq_true rfl) rfl (fun w0 base us => ?_)
  simp [Net.row]
  intro u0 u1 u2 u3 u4 u5 u6 u7
  try intros
  refine ACall.pure (szNet_c a0 f0 (2 ^ 20) (by omega)) (by simp [Net.row, u0, u1, u2, u3]) ?_
  by_cases k1 : nNet a0 ≤ 2 ^ 20
  rotate_left
  · rw [szR_no k1]; simp
  rw [szR_ok k1]
  obtain ⟨m1, hm1⟩ : ∃ m, 2 ^ 20 - nNet a0 = m := ⟨_, rfl⟩
  rw [hm1]
  have n0 : nNet a0 ≤ 2 ^ 20 := by omega
  simp
  refine ACall.pure (szNet_c a1 f1 (m1) (by omega)) (by simp [Net.row, u4, u5, u6, u7]) ?_
  by_cases k2 : nNet a1 ≤ m1
  rotate_left
  · rw [szR_no k2]; simp
  rw [szR_ok k2]
  obtain ⟨m2, hm2⟩ : ∃ m, m1 - nNet a1 = m := ⟨_, rfl⟩
  rw [hm2]
  have n1 : nNet a1 ≤ 2 ^ 20 := by omega
  simp
  have hs := specNetSame_c a0 f0 n0 a1 f1 n1
  have hi := implNetSame_c a0 f0 n0 a1 f1 n1
  have hb := fNetSame_b a0 f0 n0 a1 f1 n1
  generalize fNetSame a0 a1 = r at hs hi hb
  have nn0 : nNet a0 ≤ 2 ^ 40 := Nat.le_trans n0 (by decide)
  have nn1 : nNet a1 ≤ 2 ^ 40 := Nat.le_trans n1 (by decide)
  refine DrawT.quietH eok mix (by kernel_rfl) ?_
  simp
  refine ⟨_, _, toNet_c a0 (by omega), by simp [Net.row, u0, u1, u2, u3], ?_⟩
  simp [Net.res]
  refine ⟨_, _, toNet_c a1 (by omega), by simp [Net.row, u4, u5, u6, u7], ?_⟩
  simp [Net.res]
  refine ⟨_, _, hs, by simp [Net.row], ?_⟩
  simp
  refine ACall.pure (toNet_c a0 (by omega)) (by simp [Net.row, u0, u1, u2, u3]) ?_
  simp [Net.res]
  try intros
  refine ACall.pure (toNet_c a1 (by omega)) (by simp [Net.row, u4, u5, u6, u7]) ?_
  simp [Net.res]
  try intros
  refine ACall.pure hi (by simp [Net.row]) ?_
  simp
  try intros
  refine DrawT.quietH eok mix (by kernel_rfl) ?_
  simp
  refine ⟨_, _, toNet_c a0 (by omega), by simp [Net.row, u0, u1, u2, u3], ?_⟩
  simp [Net.res]
  refine ⟨_, _, eqNet_c a0 a0 (by omega), by simp [Net.row], ?_⟩
  simp
  refine DrawT.quietH eok mix (by kernel_rfl) ?_
  simp
  refine ⟨_, _, toNet_c a1 (by omega), by simp [Net.row, u4, u5, u6, u7], ?_⟩
  simp [Net.res]
  refine ⟨_, _, eqNet_c a1 a1 (by omega), by simp [Net.row], ?_⟩
  simp

set_option maxRecDepth 100000 in
theorem fnExactNetSame_lifted (os : Os) (started : os.Started) (H : Type) (enc : TypeId × Value → H) :
    ReturnsInHanded {} Try.checked os 10 .any (Rows.fnExactNetSameSpec.pre6 enc Try.prog Try.f10 Rows.fnExactNetSameRow.domain false) (Rows.fnExactNetSameSpec.post enc Try.prog Try.f10 false true false false) := by
  refine returnsInHanded_of_change (C := Try.checked) own started (by kernel_rfl) Try.func10
    (ChangeSpec.witness6 (enc := enc) (C := Try.checked) false ⟨#[], #[.agg #[.string ⟨#[]⟩, .int .i64 0, .slice none 0 0, .slice none 0 0, .slice none 0 0, .slice none 0 0], .agg #[.string ⟨#[]⟩, .int .i64 0, .slice none 0 0, .slice none 0 0, .slice none 0 0, .slice none 0 0]], []⟩ 12 (by kernel_rfl) (by kernel_rfl) (by kernel_rfl) (by kernel_rfl)) ?_
  intro W base args ds gs before hval hW _ _
  refine law_post (D := 10) laid rfl rfl Try.underlying4 (by kernel_rfl) (by kernel_rfl) (fun ds h => ?_) hval hW (fun vds ho => ?_)
  · match ds, h with
    | [d0, d1], _ => rfl
  · have ho0 : Opens Try.prog 10 W [73, 73] args.toList vds := ho
    obtain ⟨v0, _, rfl, h0, _, ho1⟩ := ho0.cons
    obtain ⟨v1, _, rfl, h1, _, ho2⟩ := ho1.cons
    obtain rfl := ho2.nil
    obtain ⟨x0, rfl, y0⟩ := fitsV_struct Try.underlying73 (by rw [cells73]; decide) h0
    obtain ⟨a0, rfl, e0⟩ := fits_Net y0
    obtain ⟨x1, rfl, y1⟩ := fitsV_struct Try.underlying73 (by rw [cells73]; decide) h1
    obtain ⟨a1, rfl, e1⟩ := fits_Net y1
    exact lawNetSame_c a0 e0 a1 e1

theorem fnExactNetSame_holds : Rows.FnExactNetSameSaid :=
  OpenClaim.holds_of_wide 10 Try.f10 rfl rfl rfl rfl rfl rfl rfl ⟨rfl, rfl, rfl, rfl, rfl⟩ rfl rfl rfl rfl rfl (by kernel_rfl) Try.func10 (by kernel_rfl)
    (of_decide_eq_true (by kernel_rfl)) (by unfold Func.isWrapper; first | (rw [if_pos (by decide +kernel)]; kernel_rfl) | (rw [if_neg (by decide +kernel)]; exact ⟨rfl, rfl⟩))
    (fun os started H enc _ => fnExactNetSame_lifted os started H enc)
#print axioms fnExactNetSame_holds
end Go.Proofs.Ythcdlllclbdbmaa
