import Derived.Test.YtljhopjmmcmioaaDInt
import Derived.Test.YtljhopjmmcmioaaDPart
namespace Go.Proofs.Ytljhopjmmcmioaa
open Go.AM
set_option maxRecDepth 20000
theorem toCall_c (x : Call) (h : nCall x ≤ 2 ^ 40) : PureC Try.prog 196 [.agg x.row] (.one (.agg x.res)) := by
  refine PureC.intro' tt_ok Try.func196 (by kernel_rfl) rfl rfl rfl (Nat.le_of_ble_eq_true rfl) (fun w0 base => ?_)
  unfold nCall at h
  simp [Call.row, Call.res]
  try intros
  refine ACall.pure (toPartS_c x.o (by omega)) (by simp) ?_
  simp
  try intros
  refine ACall.pure (toIntS_c x.text (by omega)) (by simp) ?_
  simp
  try intros

theorem eqCall_c (x y : Call) (h : nCall x ≤ 2 ^ 40) : PureC Try.prog 16 [.agg x.row, .agg y.row] (.one (.c (vb (x = y)) 1)) := by
  refine PureC.intro' tt_ok Try.func16 (by kernel_rfl) rfl rfl rfl (Nat.le_of_ble_eq_true rfl) (fun w0 base => ?_)
  unfold nCall at h
  obtain ⟨a0, a1, a2, a3, a4, a5, a6⟩ := x
  obtain ⟨b0, b1, b2, b3, b4, b5, b6⟩ := y
  simp only at h
  simp [Call.row]
  try intros
  by_cases h0 : a0 = b0
  rotate_left
  · simp [h0]
  subst h0
  try simp
  by_cases h1 : a1 = b1
  rotate_left
  · simp [h1]
  subst h1
  try simp
  by_cases h2 : a2 = b2
  rotate_left
  · simp [h2]
  subst h2
  try simp
  by_cases h3 : a3 = b3
  rotate_left
  · simp [h3]
  subst h3
  try simp
  by_cases h4 : a4 = b4
  rotate_left
  · simp [h4]
  subst h4
  try simp
  refine ACall.pure (eqPartS_c a5 b5 (by omega)) (by simp) ?_
  simp
  by_cases h5 : a5 = b5
  rotate_left
  · simp [h5]
  subst h5
  try simp
  refine ACall.pure (eqIntS_c a6 b6 (by omega)) (by simp) ?_
  simp
  by_cases h6 : a6 = b6
  rotate_left
  · simp [h6]
  subst h6
  try simp

theorem szCall_c (x : Call) (h : x.fits) (left : Nat) (hf : left ≤ 2 ^ 20) : PureC Try.prog 193 [.agg x.row, .c (vi left)] (.one (.c (vi (szR (nCall x) left)) 1)) := by
  refine PureC.intro' tt_ok Try.func193 (by kernel_rfl) rfl rfl rfl (Nat.le_of_ble_eq_true rfl) (fun w0 base => ?_)
  obtain ⟨f0, f1, f2, f3, f4, f5, f6⟩ := h
  obtain ⟨r, hr⟩ : ∃ r, szR (nCall x) left = r := ⟨_, rfl⟩
  rw [hr]
  have hn : nCall x = x.doc.size + (nL nPart x.o + (x.text.length)) := rfl
  simp [Call.row]
  try intros
  by_cases k0 : x.doc.size ≤ left
  rotate_left
  · have hw : IntKind.i64.wrap ((left : Int) - (x.doc.size : Int)) = (left : Int) - x.doc.size := IntWalk.i64_in _ (by omega)
    have hz : (left : Int) - x.doc.size < 0 := by omega
    have : r = -1 := by rw [← hr]; exact szR_no (by omega)
    simp [hw, hz, this]
  obtain ⟨m0, hm0⟩ : ∃ m, left - x.doc.size = m := ⟨_, rfl⟩
  have w0 : IntKind.i64.wrap ((left : Int) - (x.doc.size : Int)) = (m0 : Int) := by rw [IntWalk.i64_in _ (by omega)]; omega
  simp [w0]
  refine ACall.pure (szPartS_c x.o f5.1 f5.2 m0 (by omega)) (by simp) ?_
  by_cases k1 : nL nPart x.o ≤ m0
  rotate_left
  · have : r = -1 := by rw [← hr]; exact szR_no (by omega)
    rw [szR_no k1]
    simp [this]
  rw [szR_ok k1]
  obtain ⟨m1, hm1⟩ : ∃ m, m0 - nL nPart x.o = m := ⟨_, rfl⟩
  rw [hm1]
  simp
  refine ACall.pure (szIntS_c x.text f6.1 m1 (by omega)) (by simp) ?_
  by_cases k2 : x.text.length ≤ m1
  rotate_left
  · have : r = -1 := by rw [← hr]; exact szR_no (by omega)
    rw [szR_no k2]
    simp [this]
  rw [szR_ok k2]
  obtain ⟨m2, hm2⟩ : ∃ m, m1 - x.text.length = m := ⟨_, rfl⟩
  rw [hm2]
  have : r = (m2 : Int) := by rw [← hr, szR_ok (by omega)]; omega
  simp [this]

theorem markCall_c (x : Call) (k : Int) (h0 : 0 ≤ k) (hk : k + x.cntT ≤ 4611686018427387904) (hl : nCall x ≤ 2 ^ 40) : MarkC Try.prog 18 (.agg x.res) k (k + x.cntT) (.agg (x.markT k).res) := by
  refine MarkC.intro tt_ok Try.func18 (by kernel_rfl) rfl rfl rfl (by decide) (fun w0 base => ?_)
  simp only [Call.cntT] at hk
  unfold nCall at hl
  simp [Call.res]
  try intros
  refine ACall.mark (markPartS_c x.o (k) (by omega) (by omega) (by omega)) rfl (fun _ h => h) (by simp) ?_
  simp
  refine ACall.mark (markIntS_c x.text (k + ((cntL Part.cnt x.o : Nat) : Int)) (by omega) (by omega)) rfl (fun _ h => h) (by simp) ?_
  simp
  simp [Call.markT, Call.cntT, markL_length]
  try omega

theorem heldCall_c (x : Call) (k : Int) (h0 : 0 ≤ k) (hk : k + x.cntT ≤ 4611686018427387904) (hl : nCall x ≤ 2 ^ 40) : PureC Try.prog 20 [.agg (x.markT k).row, .c (vi k)] (.one (.c (vi (k + x.cntT)) 1)) := by
  refine PureC.intro' tt_ok Try.func20 (by kernel_rfl) rfl rfl rfl (Nat.le_of_ble_eq_true rfl) (fun w0 base => ?_)
  simp only [Call.cntT] at hk
  unfold nCall at hl
  simp [Call.row, Call.markT]
  try intros
  refine ACall.pure (heldPartS_c x.o k (by omega) (by omega) (by omega)) (by simp) ?_
  obtain ⟨q5, hq5⟩ : ∃ q, k + ((cntL Part.cnt x.o : Nat) : Int) = q := ⟨_, rfl⟩
  rw [hq5]
  have z5 : ¬ q5 < 0 := by omega
  simp [z5]
  refine ACall.pure (heldIntS_c x.text q5 (by omega) (by omega)) (by simp) ?_
  obtain ⟨q6, hq6⟩ : ∃ q, q5 + ((x.text.length : Nat) : Int) = q := ⟨_, rfl⟩
  rw [hq6]
  have z6 : ¬ q6 < 0 := by omega
  simp [z6]
  try (simp only [Call.cntT]; omega)
end Go.Proofs.Ytljhopjmmcmioaa
