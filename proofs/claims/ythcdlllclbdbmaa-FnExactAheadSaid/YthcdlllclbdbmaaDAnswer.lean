import Derived.Test.YthcdlllclbdbmaaDEntry
import Derived.Test.YthcdlllclbdbmaaDInt
namespace Go.Proofs.Ythcdlllclbdbmaa
open Go.AM
set_option maxRecDepth 20000
theorem toAnswer_c (x : Answer) (h : nAnswer x ≤ 2 ^ 40) : PureC Try.prog 76 [.agg x.row] (.one (.agg x.res)) := by
  refine PureC.intro' tt_ok Try.func76 (by kernel_rfl) rfl rfl rfl (Nat.le_of_ble_eq_true rfl) (fun w0 base => ?_)
  unfold nAnswer at h
  simp [Answer.row, Answer.res]
  try intros
  refine ACall.pure (toIntS_c x.text (by omega)) (by simp) ?_
  simp
  try intros
  refine ACall.pure (toEntryS_c x.list (by omega)) (by simp) ?_
  simp
  try intros

theorem eqAnswer_c (x y : Answer) (h : nAnswer x ≤ 2 ^ 40) : PureC Try.prog 77 [.agg x.row, .agg y.row] (.one (.c (vb (x = y)) 1)) := by
  refine PureC.intro' tt_ok Try.func77 (by kernel_rfl) rfl rfl rfl (Nat.le_of_ble_eq_true rfl) (fun w0 base => ?_)
  unfold nAnswer at h
  obtain ⟨a0, a1, a2, a3⟩ := x
  obtain ⟨b0, b1, b2, b3⟩ := y
  simp only at h
  simp [Answer.row]
  try intros
  by_cases h0 : a0 = b0
  rotate_left
  · simp [h0]
  subst h0
  try simp
  by_cases h1 : a1 = b1
  rotate_left
  · simp [h1]
  subst h1
  try simp
  refine ACall.pure (eqIntS_c a2 b2 (by omega)) (by simp) ?_
  simp
  by_cases h2 : a2 = b2
  rotate_left
  · simp [h2]
  subst h2
  try simp
  refine ACall.pure (eqEntryS_c a3 b3 (by omega)) (by simp) ?_
  simp
  by_cases h3 : a3 = b3
  rotate_left
  · simp [h3]
  subst h3
  try simp

theorem szAnswer_c (x : Answer) (h : x.fits) (left : Nat) (hf : left ≤ 2 ^ 20) : PureC Try.prog 74 [.agg x.row, .c (vi left)] (.one (.c (vi (szR (nAnswer x) left)) 1)) := by
  refine PureC.intro' tt_ok Try.func74 (by kernel_rfl) rfl rfl rfl (Nat.le_of_ble_eq_true rfl) (fun w0 base => ?_)
  obtain ⟨f0, f1, f2, f3⟩ := h
  obtain ⟨r, hr⟩ : ∃ r, szR (nAnswer x) left = r := ⟨_, rfl⟩
  rw [hr]
  have hn : nAnswer x = x.text.length + (nL nEntry x.list) := rfl
  simp [Answer.row]
  try intros
  refine ACall.pure (szIntS_c x.text f2.1 left (by omega)) (by simp) ?_
  by_cases k0 : x.text.length ≤ left
  rotate_left
  · have : r = -1 := by rw [← hr]; exact szR_no (by omega)
    rw [szR_no k0]
    simp [this]
  rw [szR_ok k0]
  obtain ⟨m0, hm0⟩ : ∃ m, left - x.text.length = m := ⟨_, rfl⟩
  rw [hm0]
  simp
  refine ACall.pure (szEntryS_c x.list f3.1 f3.2 m0 (by omega)) (by simp) ?_
  by_cases k1 : nL nEntry x.list ≤ m0
  rotate_left
  · have : r = -1 := by rw [← hr]; exact szR_no (by omega)
    rw [szR_no k1]
    simp [this]
  rw [szR_ok k1]
  obtain ⟨m1, hm1⟩ : ∃ m, m0 - nL nEntry x.list = m := ⟨_, rfl⟩
  rw [hm1]
  have : r = (m1 : Int) := by rw [← hr, szR_ok (by omega)]; omega
  simp [this]
end Go.Proofs.Ythcdlllclbdbmaa
