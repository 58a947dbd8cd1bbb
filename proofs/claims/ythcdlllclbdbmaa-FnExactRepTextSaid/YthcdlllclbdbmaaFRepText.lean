import Derived.Test.YthcdlllclbdbmaaFApply2
namespace Go.Proofs.Ythcdlllclbdbmaa
open Go.AM
set_option maxRecDepth 20000

theorem applyFrom_len : ∀ (l : List (List Part)) (t u : List Int), applyFrom l t = some u → u.length ≤ t.length ∨ u.length ≤ 2 ^ 17
  | [], t, u, h => by simp [applyFrom] at h; subst h; exact .inl (Nat.le_refl _)
  | o :: l, t, u, h => by
    simp only [applyFrom] at h
    split at h
    · rcases applyFrom_len l _ u h with h1 | h1
      · exact .inr (Nat.le_trans h1 (apply_len o t))
      · exact .inr h1
    · simp at h
theorem applyAll_len (l : List (List Part)) (t : List Int) : (applyAll l t).1.length ≤ t.length + 2 ^ 17 := by
  unfold applyAll
  split
  · cases h : applyFrom l t with
    | none => simp
    | some u => have := applyFrom_len l t u h; simp only; omega
  · simp

open Classical in
noncomputable def fRepText (r : Rep) : List Int := if repOk r then (applyAll [r.sent, r.buf] r.text).1 else []
theorem fRepText_b (r : Rep) (_ : r.fits) (h : nRep r ≤ 2 ^ 20) : (fRepText r).length ≤ 2 ^ 40 := by
  unfold fRepText
  split
  · have := applyAll_len [r.sent, r.buf] r.text
    unfold nRep at h
    omega
  · simp
theorem implRepText_c (r : Rep) (_ : r.fits) (hl : nRep r ≤ 2 ^ 20) : PureC Try.prog 59 [.agg r.row] (.one (.c (.s ((fRepText r).map intR)) 1)) := by
  refine PureC.intro' tt_ok Try.func59 (by kernel_rfl) rfl rfl rfl (Nat.le_of_ble_eq_true rfl) (fun w0 base => ?_)
  simp [Rep.row]
  intros
  refine ACall.pure (implRepOk_i r (by omega)) (by simp [Rep.row]) ?_
  by_cases c1 : repOk r
  rotate_left
  · have e : fRepText r = [] := by unfold fRepText; rw [if_neg c1]
    have e2 : dc (repOk r) = false := by rw [dc_no]; exact c1
    simp [e2, e]
  have e : fRepText r = (applyAll [r.sent, r.buf] r.text).1 := by unfold fRepText; rw [if_pos c1]
  unfold nRep at hl
  simp [c1]
  intro b
  refine ACall.pure (implApplyAll_c [r.sent, r.buf] r.text (by simp) (by simp; omega) (by omega)) (by simp) ?_
  simp [e]
theorem specRepText_c (r : Rep) (_ : r.fits) (hl : nRep r ≤ 2 ^ 20) : PureC Try.prog 58 [.agg r.row] (.one (.c (.s ((fRepText r).map intR)) 1)) := by
  refine PureC.intro' tt_ok Try.func58 (by kernel_rfl) rfl rfl rfl (Nat.le_of_ble_eq_true rfl) (fun w0 base => ?_)
  simp [Rep.row]
  intros
  refine ACall.pure (specRepOk_i r (by omega)) (by simp [Rep.row]) ?_
  by_cases c1 : repOk r
  rotate_left
  · have e : fRepText r = [] := by unfold fRepText; rw [if_neg c1]
    have e2 : dc (repOk r) = false := by rw [dc_no]; exact c1
    simp [e2, e]
  have e : fRepText r = (applyAll [r.sent, r.buf] r.text).1 := by unfold fRepText; rw [if_pos c1]
  unfold nRep at hl
  simp [c1]
  intro b
  refine ACall.pure (specApplyAll_c [r.sent, r.buf] r.text (by simp) (by simp; omega) (by omega)) (by simp) ?_
  simp [e]
end Go.Proofs.Ythcdlllclbdbmaa
