import Derived.Test.YthcdlllclbdbmaaDAnswer
import Derived.Test.YthcdlllclbdbmaaDCall
import Derived.Test.YthcdlllclbdbmaaDInt
namespace Go.Proofs.Ythcdlllclbdbmaa
open Go.AM
set_option maxRecDepth 20000
theorem toTask_c (x : Task) (h : nTask x ≤ 2 ^ 40) : PureC Try.prog 30 [.agg x.row] (.one (.agg x.res)) := by
  refine PureC.intro' tt_ok Try.func30 (by kernel_rfl) rfl rfl rfl (Nat.le_of_ble_eq_true rfl) (fun w0 base => ?_)
  unfold nTask at h
  simp [Task.row, Task.res]
  try intros
  refine ACall.pure (toCall_c x.c (by omega)) (by simp [Call.row]) ?_
  simp [Call.res]
  try intros
  refine ACall.pure (toAnswer_c x.a (by omega)) (by simp [Answer.row]) ?_
  simp [Answer.res]
  try intros

theorem eqTask_c (x y : Task) (h : nTask x ≤ 2 ^ 40) : PureC Try.prog 32 [.agg x.row, .agg y.row] (.one (.c (vb (x = y)) 1)) := by
  refine PureC.intro' tt_ok Try.func32 (by kernel_rfl) rfl rfl rfl (Nat.le_of_ble_eq_true rfl) (fun w0 base => ?_)
  unfold nTask at h
  obtain ⟨a0, a1, a2, a3, a4, a5⟩ := x
  obtain ⟨b0, b1, b2, b3, b4, b5⟩ := y
  simp only at h
  simp [Task.row]
  try intros
  refine ACall.pure (eqCall_c a0 b0 (by omega)) (by simp [Call.row]) ?_
  simp
  by_cases h0 : a0 = b0
  rotate_left
  · simp [h0]
  subst h0
  try simp
  by_cases h1 : a1 = b1
  rotate_left
  · simp [h1]
  subst h1
  try simp
  by_cases h2 : a2 = b2
  rotate_left
  · simp [h2]
  subst h2
  try simp
  by_cases h3 : a3 = b3
  rotate_left
  · simp [h3]
  subst h3
  try simp
  by_cases h4 : a4 = b4
  rotate_left
  · simp [h4]
  subst h4
  try simp
  refine ACall.pure (eqAnswer_c a5 b5 (by omega)) (by simp [Answer.row]) ?_
  simp
  by_cases h5 : a5 = b5
  rotate_left
  · simp [h5]
  subst h5
  try simp

theorem szTask_c (x : Task) (h : x.fits) (left : Nat) (hf : left ≤ 2 ^ 20) : PureC Try.prog 28 [.agg x.row, .c (vi left)] (.one (.c (vi (szR (nTask x) left)) 1)) := by
  refine PureC.intro' tt_ok Try.func28 (by kernel_rfl) rfl rfl rfl (Nat.le_of_ble_eq_true rfl) (fun w0 base => ?_)
  obtain ⟨f0, f1, f2, f3, f4, f5⟩ := h
  obtain ⟨r, hr⟩ : ∃ r, szR (nTask x) left = r := ⟨_, rfl⟩
  rw [hr]
  have hn : nTask x = nCall x.c + (nAnswer x.a) := rfl
  simp [Task.row]
  try intros
  refine ACall.pure (szCall_c x.c f0 left (by omega)) (by simp [Call.row]) ?_
  by_cases k0 : nCall x.c ≤ left
  rotate_left
  · have : r = -1 := by rw [← hr]; exact szR_no (by omega)
    rw [szR_no k0]
    simp [this]
  rw [szR_ok k0]
  obtain ⟨m0, hm0⟩ : ∃ m, left - nCall x.c = m := ⟨_, rfl⟩
  rw [hm0]
  simp
  refine ACall.pure (szAnswer_c x.a f5 m0 (by omega)) (by simp [Answer.row]) ?_
  by_cases k1 : nAnswer x.a ≤ m0
  rotate_left
  · have : r = -1 := by rw [← hr]; exact szR_no (by omega)
    rw [szR_no k1]
    simp [this]
  rw [szR_ok k1]
  obtain ⟨m1, hm1⟩ : ∃ m, m0 - nAnswer x.a = m := ⟨_, rfl⟩
  rw [hm1]
  have : r = (m1 : Int) := by rw [← hr, szR_ok (by omega)]; omega
  simp [this]
end Go.Proofs.Ythcdlllclbdbmaa
