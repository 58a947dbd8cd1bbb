import Derived.Test.YthcdlllclbdbmaaDEntry
import Derived.Test.YthcdlllclbdbmaaDInt
import Derived.Test.YthcdlllclbdbmaaDSeen
namespace Go.Proofs.Ythcdlllclbdbmaa
open Go.AM
set_option maxRecDepth 20000
theorem toDoc_c (x : Doc) (h : nDoc x ≤ 2 ^ 40) : PureC Try.prog 101 [.agg x.row] (.one (.agg x.res)) := by
  refine PureC.intro' tt_ok Try.func101 (by kernel_rfl) rfl rfl rfl (Nat.le_of_ble_eq_true rfl) (fun w0 base => ?_)
  unfold nDoc at h
  simp [Doc.row, Doc.res]
  try intros
  refine ACall.pure (toIntS_c x.text (by omega)) (by simp) ?_
  simp
  try intros
  refine ACall.pure (toEntryS_c x.list (by omega)) (by simp) ?_
  simp
  try intros
  refine ACall.pure (toSeenS_c x.seen (by omega)) (by simp) ?_
  simp
  try intros

theorem eqDoc_c (x y : Doc) (h : nDoc x ≤ 2 ^ 40) : PureC Try.prog 105 [.agg x.row, .agg y.row] (.one (.c (vb (x = y)) 1)) := by
  refine PureC.intro' tt_ok Try.func105 (by kernel_rfl) rfl rfl rfl (Nat.le_of_ble_eq_true rfl) (fun w0 base => ?_)
  unfold nDoc at h
  obtain ⟨a0, a1, a2, a3, a4⟩ := x
  obtain ⟨b0, b1, b2, b3, b4⟩ := y
  simp only at h
  simp [Doc.row]
  try intros
  by_cases h0 : a0 = b0
  rotate_left
  · simp [h0]
  subst h0
  try simp
  by_cases h1 : a1 = b1
  rotate_left
  · simp [h1]
  subst h1
  try simp
  refine ACall.pure (eqIntS_c a2 b2 (by omega)) (by simp) ?_
  simp
  by_cases h2 : a2 = b2
  rotate_left
  · simp [h2]
  subst h2
  try simp
  refine ACall.pure (eqEntryS_c a3 b3 (by omega)) (by simp) ?_
  simp
  by_cases h3 : a3 = b3
  rotate_left
  · simp [h3]
  subst h3
  try simp
  refine ACall.pure (eqSeenS_c a4 b4 (by omega)) (by simp) ?_
  simp
  by_cases h4 : a4 = b4
  rotate_left
  · simp [h4]
  subst h4
  try simp

theorem szDoc_c (x : Doc) (h : x.fits) (left : Nat) (hf : left ≤ 2 ^ 20) : PureC Try.prog 98 [.agg x.row, .c (vi left)] (.one (.c (vi (szR (nDoc x) left)) 1)) := by
  refine PureC.intro' tt_ok Try.func98 (by kernel_rfl) rfl rfl rfl (Nat.le_of_ble_eq_true rfl) (fun w0 base => ?_)
  obtain ⟨f0, f1, f2, f3, f4⟩ := h
  obtain ⟨r, hr⟩ : ∃ r, szR (nDoc x) left = r := ⟨_, rfl⟩
  rw [hr]
  have hn : nDoc x = x.name.size + (x.text.length + (nL nEntry x.list + (x.seen.length))) := rfl
  simp [Doc.row]
  try intros
  by_cases k0 : x.name.size ≤ left
  rotate_left
  · have hw : IntKind.i64.wrap ((left : Int) - (x.name.size : Int)) = (left : Int) - x.name.size := IntWalk.i64_in _ (by omega)
    have hz : (left : Int) - x.name.size < 0 := by omega
    have : r = -1 := by rw [← hr]; exact szR_no (by omega)
    simp [hw, hz, this]
  obtain ⟨m0, hm0⟩ : ∃ m, left - x.name.size = m := ⟨_, rfl⟩
  have w0 : IntKind.i64.wrap ((left : Int) - (x.name.size : Int)) = (m0 : Int) := by rw [IntWalk.i64_in _ (by omega)]; omega
  simp [w0]
  refine ACall.pure (szIntS_c x.text f2.1 m0 (by omega)) (by simp) ?_
  by_cases k1 : x.text.length ≤ m0
  rotate_left
  · have : r = -1 := by rw [← hr]; exact szR_no (by omega)
    rw [szR_no k1]
    simp [this]
  rw [szR_ok k1]
  obtain ⟨m1, hm1⟩ : ∃ m, m0 - x.text.length = m := ⟨_, rfl⟩
  rw [hm1]
  simp
  refine ACall.pure (szEntryS_c x.list f3.1 f3.2 m1 (by omega)) (by simp) ?_
  by_cases k2 : nL nEntry x.list ≤ m1
  rotate_left
  · have : r = -1 := by rw [← hr]; exact szR_no (by omega)
    rw [szR_no k2]
    simp [this]
  rw [szR_ok k2]
  obtain ⟨m2, hm2⟩ : ∃ m, m1 - nL nEntry x.list = m := ⟨_, rfl⟩
  rw [hm2]
  simp
  refine ACall.pure (szSeenS_c x.seen f4.1 m2 (by omega)) (by simp) ?_
  by_cases k3 : x.seen.length ≤ m2
  rotate_left
  · have : r = -1 := by rw [← hr]; exact szR_no (by omega)
    rw [szR_no k3]
    simp [this]
  rw [szR_ok k3]
  obtain ⟨m3, hm3⟩ : ∃ m, m2 - x.seen.length = m := ⟨_, rfl⟩
  rw [hm3]
  have : r = (m3 : Int) := by rw [← hr, szR_ok (by omega)]; omega
  simp [this]
end Go.Proofs.Ythcdlllclbdbmaa
