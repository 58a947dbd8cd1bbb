import Derived.Test.YtljhopjmmcmioaaDDoc
import Derived.Test.YtljhopjmmcmioaaDInt
import Derived.Test.YtljhopjmmcmioaaDRep
namespace Go.Proofs.Ytljhopjmmcmioaa
open Go.AM
set_option maxRecDepth 20000
theorem toNet_c (x : Net) (h : nNet x ≤ 2 ^ 40) : PureC Try.prog 23 [.agg x.row] (.one (.agg x.res)) := by
  refine PureC.intro' tt_ok Try.func23 (by kernel_rfl) rfl rfl rfl (Nat.le_of_ble_eq_true rfl) (fun w0 base => ?_)
  unfold nNet at h
  simp [Net.row, Net.res]
  try intros
  refine ACall.pure (toDoc_c x.d (by omega)) (by simp [Doc.row]) ?_
  simp [Doc.res]
  try intros
  refine ACall.pure (toRepS_c x.reps (by omega)) (by simp) ?_
  simp
  try intros

theorem eqNet_c (x y : Net) (h : nNet x ≤ 2 ^ 40) : PureC Try.prog 25 [.agg x.row, .agg y.row] (.one (.c (vb (x = y)) 1)) := by
  refine PureC.intro' tt_ok Try.func25 (by kernel_rfl) rfl rfl rfl (Nat.le_of_ble_eq_true rfl) (fun w0 base => ?_)
  unfold nNet at h
  obtain ⟨a0, a1⟩ := x
  obtain ⟨b0, b1⟩ := y
  simp only at h
  simp [Net.row]
  try intros
  refine ACall.pure (eqDoc_c a0 b0 (by omega)) (by simp [Doc.row]) ?_
  simp
  by_cases h0 : a0 = b0
  rotate_left
  · simp [h0]
  subst h0
  try simp
  refine ACall.pure (eqRepS_c a1 b1 (by omega)) (by simp) ?_
  simp
  by_cases h1 : a1 = b1
  rotate_left
  · simp [h1]
  subst h1
  try simp

theorem szNet_c (x : Net) (h : x.fits) (left : Nat) (hf : left ≤ 2 ^ 20) : PureC Try.prog 21 [.agg x.row, .c (vi left)] (.one (.c (vi (szR (nNet x) left)) 1)) := by
  refine PureC.intro' tt_ok Try.func21 (by kernel_rfl) rfl rfl rfl (Nat.le_of_ble_eq_true rfl) (fun w0 base => ?_)
  obtain ⟨f0, f1⟩ := h
  obtain ⟨r, hr⟩ : ∃ r, szR (nNet x) left = r := ⟨_, rfl⟩
  rw [hr]
  have hn : nNet x = nDoc x.d + (nL nRep x.reps) := rfl
  simp [Net.row]
  try intros
  refine ACall.pure (szDoc_c x.d f0 left (by omega)) (by simp [Doc.row]) ?_
  by_cases k0 : nDoc x.d ≤ left
  rotate_left
  · have : r = -1 := by rw [← hr]; exact szR_no (by omega)
    rw [szR_no k0]
    simp [this]
  rw [szR_ok k0]
  obtain ⟨m0, hm0⟩ : ∃ m, left - nDoc x.d = m := ⟨_, rfl⟩
  rw [hm0]
  simp
  refine ACall.pure (szRepS_c x.reps f1.1 f1.2 m0 (by omega)) (by simp) ?_
  by_cases k1 : nL nRep x.reps ≤ m0
  rotate_left
  · have : r = -1 := by rw [← hr]; exact szR_no (by omega)
    rw [szR_no k1]
    simp [this]
  rw [szR_ok k1]
  obtain ⟨m1, hm1⟩ : ∃ m, m0 - nL nRep x.reps = m := ⟨_, rfl⟩
  rw [hm1]
  have : r = (m1 : Int) := by rw [← hr, szR_ok (by omega)]; omega
  simp [this]
end Go.Proofs.Ytljhopjmmcmioaa
