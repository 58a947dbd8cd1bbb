/-
  The law on Ahead returns true for every argument; what it was handed reads afterwards as before.
-/
import Derived.Test.YthcdlllclbdbmaaFAhead
import Derived.Test.YthcdlllclbdbmaaDFit
namespace Go.Proofs.Ythcdlllclbdbmaa
open Go.AM Go.ChangeShapes Go.WideShapes Go.ChangeAt Go.RowKit
set_option maxRecDepth 20000

theorem lawAhead_c (a0 : Task) (f0 : a0.fits) (a1 : Task) (f1 : a1.fits) : PureC Try.prog 6 [.agg a0.row, .agg a1.row] (.one (.c (.v (.bool true)) 1)) := by
  refine PureC.introL tt_ok Try.func6 (by kernel_rfl) rfl rfl rfl (Nat.le_of_ble_eq_true rfl) rfl (fun w0 base us => ?_)
  simp [Task.row]
  intro u0 u1 u2 u3 u4 u5 u6 u7
  try intros
  refine ACall.pure (szTask_c a0 f0 (2 ^ 20) (by omega)) (by simp [Task.row, u0, u1, u2, u3, u4, u5, u6, u7]) ?_
  by_cases k1 : nTask a0 ≤ 2 ^ 20
  rotate_left
  · rw [szR_no k1]; simp
  rw [szR_ok k1]
  obtain ⟨m1, hm1⟩ : ∃ m, 2 ^ 20 - nTask a0 = m := ⟨_, rfl⟩
  rw [hm1]
  have n0 : nTask a0 ≤ 2 ^ 20 := by omega
  simp
  refine ACall.pure (szTask_c a1 f1 (m1) (by omega)) (by simp [Task.row, u0, u1, u2, u3, u4, u5, u6, u7]) ?_
  by_cases k2 : nTask a1 ≤ m1
  rotate_left
  · rw [szR_no k2]; simp
  rw [szR_ok k2]
  obtain ⟨m2, hm2⟩ : ∃ m, m1 - nTask a1 = m := ⟨_, rfl⟩
  rw [hm2]
  have n1 : nTask a1 ≤ 2 ^ 20 := by omega
  simp
  have hs := specAhead_c a0 f0 n0 a1 f1 n1
  have hi := implAhead_c a0 f0 n0 a1 f1 n1
  have hb := fAhead_b a0 f0 n0 a1 f1 n1
  generalize fAhead a0 a1 = r at hs hi hb
  have nn0 : nTask a0 ≤ 2 ^ 40 := Nat.le_trans n0 (by decide)
  have nn1 : nTask a1 ≤ 2 ^ 40 := Nat.le_trans n1 (by decide)
  refine DrawT.quietH eok mix (by kernel_rfl) ?_
  simp
  refine ⟨_, _, toTask_c a0 (by omega), by simp [Task.row, u0, u1, u2, u3, u4, u5, u6, u7], ?_⟩
  simp [Task.res]
  refine ⟨_, _, toTask_c a1 (by omega), by simp [Task.row, u0, u1, u2, u3, u4, u5, u6, u7], ?_⟩
  simp [Task.res]
  refine ⟨_, _, hs, by simp [Task.row], ?_⟩
  simp
  refine ACall.pure (toTask_c a0 (by omega)) (by simp [Task.row, u0, u1, u2, u3, u4, u5, u6, u7]) ?_
  simp [Task.res]
  try intros
  refine ACall.pure (toTask_c a1 (by omega)) (by simp [Task.row, u0, u1, u2, u3, u4, u5, u6, u7]) ?_
  simp [Task.res]
  try intros
  refine ACall.pure hi (by simp [Task.row]) ?_
  simp
  try intros
  refine DrawT.quietH eok mix (by kernel_rfl) ?_
  simp
  refine ⟨_, _, toTask_c a0 (by omega), by simp [Task.row, u0, u1, u2, u3, u4, u5, u6, u7], ?_⟩
  simp [Task.res]
  refine ⟨_, _, eqTask_c a0 a0 (by omega), by simp [Task.row], ?_⟩
  simp
  refine DrawT.quietH eok mix (by kernel_rfl) ?_
  simp
  refine ⟨_, _, toTask_c a1 (by omega), by simp [Task.row, u0, u1, u2, u3, u4, u5, u6, u7], ?_⟩
  simp [Task.res]
  refine ⟨_, _, eqTask_c a1 a1 (by omega), by simp [Task.row], ?_⟩
  simp

set_option maxRecDepth 100000 in
theorem fnExactAhead_lifted (os : Os) (started : os.Started) (H : Type) (enc : TypeId × Value → H) :
    ReturnsInHanded {} Try.checked os 6 .any (Rows.fnExactAheadSpec.pre6 enc Try.prog Try.f6 Rows.fnExactAheadRow.domain false) (Rows.fnExactAheadSpec.post enc Try.prog Try.f6 false true false false) := by
  refine returnsInHanded_of_change (C := Try.checked) own started (by kernel_rfl) Try.func6
    (ChangeSpec.witness6 (enc := enc) (C := Try.checked) false ⟨#[], #[.agg #[.int .i64 0, .string ⟨#[]⟩, .int .i64 0, .int .i64 0, .int .i64 0, .slice none 0 0, .slice none 0 0, .int .i64 0, .int .i64 0, .int .i64 0, .int .i64 0, .int .i64 0, .int .i64 0, .slice none 0 0, .slice none 0 0], .agg #[.int .i64 0, .string ⟨#[]⟩, .int .i64 0, .int .i64 0, .int .i64 0, .slice none 0 0, .slice none 0 0, .int .i64 0, .int .i64 0, .int .i64 0, .int .i64 0, .int .i64 0, .int .i64 0, .slice none 0 0, .slice none 0 0]], []⟩ 12 (by kernel_rfl) (by kernel_rfl) (by kernel_rfl) (by kernel_rfl)) ?_
  intro W base args ds gs before hval hW _ _
  refine law_post (D := 10) laid rfl rfl Try.underlying4 (by kernel_rfl) (by kernel_rfl) (fun ds h => ?_) hval hW (fun vds ho => ?_)
  · match ds, h with
    | [d0, d1], _ => rfl
  · have ho0 : Opens Try.prog 10 W [48, 48] args.toList vds := ho
    obtain ⟨v0, _, rfl, h0, _, ho1⟩ := ho0.cons
    obtain ⟨v1, _, rfl, h1, _, ho2⟩ := ho1.cons
    obtain rfl := ho2.nil
    obtain ⟨x0, rfl, y0⟩ := fitsV_struct Try.underlying48 (by rw [cells48]; decide) h0
    obtain ⟨a0, rfl, e0⟩ := fits_Task y0
    obtain ⟨x1, rfl, y1⟩ := fitsV_struct Try.underlying48 (by rw [cells48]; decide) h1
    obtain ⟨a1, rfl, e1⟩ := fits_Task y1
    exact lawAhead_c a0 e0 a1 e1

theorem fnExactAhead_holds : Rows.FnExactAheadSaid :=
  OpenClaim.holds_of_wide 6 Try.f6 rfl rfl rfl rfl rfl rfl rfl ⟨rfl, rfl, rfl, rfl, rfl⟩ rfl rfl rfl rfl rfl (by kernel_rfl) Try.func6 (by kernel_rfl)
    (of_decide_eq_true (by kernel_rfl)) (by unfold Func.isWrapper; first | (rw [if_pos (by decide +kernel)]; kernel_rfl) | (rw [if_neg (by decide +kernel)]; exact ⟨rfl, rfl⟩))
    (fun os started H enc _ => fnExactAhead_lifted os started H enc)
#print axioms fnExactAhead_holds
end Go.Proofs.Ythcdlllclbdbmaa
