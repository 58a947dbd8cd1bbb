import Derived.Test.YtdfdabjdfmamgaaGreatPJ
import Derived.Test.YtdfdabjdfmamgaaGreatNA
import Derived.Test.YtdfdabjdfmamgaaGreatNB
namespace Go.Proofs.YtdfdabjdfmamgaaGreat
open Go.AM
set_option maxRecDepth 20000
set_option maxHeartbeats 6400000
theorem vb_iff {p q : Prop} (h : p ↔ q) : vb p = vb q := by unfold vb; rw [propext h]
theorem nTask_call {t : Task} {B : Nat} (h : nTask t ≤ B) : nCall t.c ≤ B ∧ nAnswer t.a ≤ B := by unfold nTask at h; omega
theorem implTaskOk_c (t : Task) (hl : nTask t ≤ 2 ^ 36) : PureC Tryz.prog 107 [.agg t.row] (.one (.c (vb (taskOk t)) 1)) := by
  refine PureC.intro' tt_ok Tryz.func107 (by kernel_rfl) rfl rfl rfl (Nat.le_of_ble_eq_true rfl) (fun w0 base => ?_); obtain ⟨n1, n2⟩ := nTask_call hl; obtain ⟨c, pc, inv, lin, rs, a⟩ := t; simp only at n1 n2; have n2' : nAnswer a ≤ 2 ^ 40 := by omega
  have hx : ∀ p : Prop, (taskOk ⟨c, pc, inv, lin, rs, a⟩ → p) → ¬ p → dc (taskOk ⟨c, pc, inv, lin, rs, a⟩) = false := fun p h1 h2 => dc_neg (fun h => h2 (h1 h))
  simp [Task.row]; intro b1; refine ACall.pure (implCallOk_c c (by omega)) (by simp [Call.row]) ?_; by_cases c1 : callOk c
  rotate_left
  · simp [dc_neg c1, hx _ (fun h => h.1) c1]
  simp [c1]; refine ACall.pure (within_c inv 0 1000000) (by simp) ?_; by_cases c2 : 0 ≤ inv ∧ inv ≤ 1000000
  rotate_left
  · simp [dc_neg c2, hx _ (fun h => h.2.1) c2]
  simp [c2]; by_cases p0 : pc = 0
  · subst p0
    by_cases l1 : lin = -1
    rotate_left
    · simp [l1, hx _ (fun h => (h.2.2.2.2.2.1 (by simp)).1) l1]
    subst l1; by_cases l2 : rs = -1
    rotate_left
    · simp [l2, hx _ (fun h => (h.2.2.2.2.2.1 (by simp)).2.1) l2]
    subst l2; simp; refine ACall.pure (implAnswerSame_c a Answer.zero n2') (by simp [Answer.row, Answer.zero]) ?_; have e : vb (a = Answer.zero) = vb (taskOk ⟨c, 0, inv, -1, -1, a⟩) := vb_iff ⟨fun h => ⟨c1, c2, by simp, by simp, by simp, fun _ => ⟨rfl, rfl, h⟩, by simp, by simp, by simp⟩, fun h => (h.2.2.2.2.2.1 (by simp)).2.2⟩; rw [e]; simp
  by_cases p1 : pc = 1
  · subst p1
    simp; refine ACall.pure (implOnDoc_c c.kind) (by simp) ?_; by_cases d1 : onDoc c.kind
    rotate_left
    · simp [dc_neg d1, hx _ (fun h => h.2.2.2.1 rfl) d1]
    simp [d1]; by_cases l1 : lin = -1
    rotate_left
    · simp [l1, hx _ (fun h => (h.2.2.2.2.2.1 (by simp)).1) l1]
    subst l1; by_cases l2 : rs = -1
    rotate_left
    · simp [l2, hx _ (fun h => (h.2.2.2.2.2.1 (by simp)).2.1) l2]
    subst l2; simp; refine ACall.pure (implAnswerSame_c a Answer.zero n2') (by simp [Answer.row, Answer.zero]) ?_; have e : vb (a = Answer.zero) = vb (taskOk ⟨c, 1, inv, -1, -1, a⟩) := vb_iff ⟨fun h => ⟨c1, c2, by simp, fun _ => d1, by simp, fun _ => ⟨rfl, rfl, h⟩, by simp, by simp, by simp⟩, fun h => (h.2.2.2.2.2.1 (by simp)).2.2⟩; rw [e]; simp
  by_cases p2 : pc = 2
  · subst p2
    by_cases d1 : c.kind = 2
    rotate_left
    · simp [d1, hx _ (fun h => h.2.2.2.2.1 rfl) d1]
    simp [d1]; by_cases l1 : lin = -1
    rotate_left
    · simp [l1, hx _ (fun h => (h.2.2.2.2.2.1 (by simp)).1) l1]
    subst l1; by_cases l2 : rs = -1
    rotate_left
    · simp [l2, hx _ (fun h => (h.2.2.2.2.2.1 (by simp)).2.1) l2]
    subst l2; simp; refine ACall.pure (implAnswerSame_c a Answer.zero n2') (by simp [Answer.row, Answer.zero]) ?_; have e : vb (a = Answer.zero) = vb (taskOk ⟨c, 2, inv, -1, -1, a⟩) := vb_iff ⟨fun h => ⟨c1, c2, by simp, by simp, fun _ => d1, fun _ => ⟨rfl, rfl, h⟩, by simp, by simp, by simp⟩, fun h => (h.2.2.2.2.2.1 (by simp)).2.2⟩; rw [e]; simp
  by_cases p34 : pc = 3 ∨ pc = 4
  rotate_left
  · have h3 : ¬ pc = 3 := fun h => p34 (.inl h)
    have h4 : ¬ pc = 4 := fun h => p34 (.inr h)
    have h : dc (taskOk ⟨c, pc, inv, lin, rs, a⟩) = false := dc_neg (fun h => by have := h.2.2.1; simp only at this; omega); simp [p0, p1, p2, h3, h4, h]
  have hb0 : busyA ⟨c, pc, inv, lin, rs, a⟩ ↔ (a = ⟨11, 0, [], []⟩ ∧ c.kind = 2) ∧ lin = -1 := by unfold busyA; simp [and_assoc]
  have fin3 : pc = 3 → (busyA ⟨c, pc, inv, lin, rs, a⟩ ∨ (inv ≤ lin ∧ lin ≤ 1000000)) → (taskOk ⟨c, pc, inv, lin, rs, a⟩ ↔ rs = -1) := fun hp hb =>
    ⟨fun h => h.2.2.2.2.2.2.2.1 hp, fun h => ⟨c1, c2, by simp only; omega, fun h => absurd h p1, fun h => absurd h p2, fun h => by simp only at h; omega, fun _ => hb, fun _ => h, fun h4 => by simp only at h4; omega⟩⟩
  have fin4 : pc = 4 → (busyA ⟨c, pc, inv, lin, rs, a⟩ ∨ (inv ≤ lin ∧ lin ≤ 1000000)) → (taskOk ⟨c, pc, inv, lin, rs, a⟩ ↔ (inv ≤ rs ∧ rs ≤ 1000000) ∧ lin ≤ rs) := fun hp hb =>
    ⟨fun h => h.2.2.2.2.2.2.2.2 hp, fun h => ⟨c1, c2, by simp only; omega, fun h => absurd h p1, fun h => absurd h p2, fun h => by simp only at h; omega, fun _ => hb, fun h4 => by simp only at h4; omega, fun _ => h⟩⟩
  have finn : ¬ (busyA ⟨c, pc, inv, lin, rs, a⟩ ∨ (inv ≤ lin ∧ lin ≤ 1000000)) → dc (taskOk ⟨c, pc, inv, lin, rs, a⟩) = false := fun hb => dc_neg (fun h => hb (h.2.2.2.2.2.2.1 (by simp only; omega)))
  clear hx
  generalize busyA ⟨c, pc, inv, lin, rs, a⟩ = BZ at fin3 fin4 finn hb0; generalize taskOk ⟨c, pc, inv, lin, rs, a⟩ = TK at fin3 fin4 finn ⊢; obtain ⟨M, hM⟩ : ∃ M, (if inv < lin then lin else inv) = M := ⟨_, rfl⟩; have hmx : (M ≤ rs ∧ rs ≤ 1000000) ↔ (inv ≤ rs ∧ rs ≤ 1000000) ∧ lin ≤ rs := by rw [← hM]; split <;> omega
  rcases p34 with rfl | rfl
  · simp
    refine ACall.pure (implAnswerSame_c a ⟨11, 0, [], []⟩ n2') (by simp [Answer.row]) ?_; by_cases e1 : a = ⟨11, 0, [], []⟩
    rotate_left
    · have hZ : ¬ BZ := fun h => e1 (hb0.1 h).1.1
      simp [e1]; refine ACall.pure (within_c lin inv 1000000) (by simp) ?_; by_cases w1 : inv ≤ lin ∧ lin ≤ 1000000
      rotate_left
      · simp [dc_neg w1, finn (fun h => h.elim hZ w1)]
      have hB : BZ ∨ (inv ≤ lin ∧ lin ≤ 1000000) := .inr w1; simp [w1]; by_cases r1 : rs = -1
      · have h : TK := (fin3 rfl hB).2 r1
        simp [r1, h]
      · have h : ¬ TK := fun h => r1 ((fin3 rfl hB).1 h)
        simp [r1, dc_neg h]
    simp [e1]; by_cases e2 : c.kind = 2
    rotate_left
    · have hZ : ¬ BZ := fun h => e2 (hb0.1 h).1.2
      simp [e2]; refine ACall.pure (within_c lin inv 1000000) (by simp) ?_; by_cases w1 : inv ≤ lin ∧ lin ≤ 1000000
      rotate_left
      · simp [dc_neg w1, finn (fun h => h.elim hZ w1)]
      have hB : BZ ∨ (inv ≤ lin ∧ lin ≤ 1000000) := .inr w1; simp [w1]; by_cases r1 : rs = -1
      · have h : TK := (fin3 rfl hB).2 r1
        simp [r1, h]
      · have h : ¬ TK := fun h => r1 ((fin3 rfl hB).1 h)
        simp [r1, dc_neg h]
    by_cases e3 : lin = -1
    rotate_left
    · have hZ : ¬ BZ := fun h => e3 (hb0.1 h).2
      simp [e2, e3]; refine ACall.pure (within_c lin inv 1000000) (by simp) ?_; by_cases w1 : inv ≤ lin ∧ lin ≤ 1000000
      rotate_left
      · simp [dc_neg w1, finn (fun h => h.elim hZ w1)]
      have hB : BZ ∨ (inv ≤ lin ∧ lin ≤ 1000000) := .inr w1; simp [w1]; by_cases r1 : rs = -1
      · have h : TK := (fin3 rfl hB).2 r1
        simp [r1, h]
      · have h : ¬ TK := fun h => r1 ((fin3 rfl hB).1 h)
        simp [r1, dc_neg h]
    have hZ : BZ := hb0.2 ⟨⟨e1, e2⟩, e3⟩; simp [e2, eq_true e3]; have hB : BZ ∨ (inv ≤ lin ∧ lin ≤ 1000000) := .inl hZ; by_cases r1 : rs = -1
    · have h : TK := (fin3 rfl hB).2 r1
      simp [r1, h]
    · have h : ¬ TK := fun h => r1 ((fin3 rfl hB).1 h)
      simp [r1, dc_neg h]
  · simp
    refine ACall.pure (implAnswerSame_c a ⟨11, 0, [], []⟩ n2') (by simp [Answer.row]) ?_; by_cases e1 : a = ⟨11, 0, [], []⟩
    rotate_left
    · have hZ : ¬ BZ := fun h => e1 (hb0.1 h).1.1
      simp [e1]; refine ACall.pure (within_c lin inv 1000000) (by simp) ?_; by_cases w1 : inv ≤ lin ∧ lin ≤ 1000000
      rotate_left
      · simp [dc_neg w1, finn (fun h => h.elim hZ w1)]
      have hB : BZ ∨ (inv ≤ lin ∧ lin ≤ 1000000) := .inr w1; simp [w1]; rw [aMax_v, hM]; simp; refine ACall.pure (within_c rs M 1000000) (by simp) ?_; have e : vb (M ≤ rs ∧ rs ≤ 1000000) = vb TK := vb_iff (hmx.trans (fin4 rfl hB).symm); rw [e]; simp
    simp [e1]; by_cases e2 : c.kind = 2
    rotate_left
    · have hZ : ¬ BZ := fun h => e2 (hb0.1 h).1.2
      simp [e2]; refine ACall.pure (within_c lin inv 1000000) (by simp) ?_; by_cases w1 : inv ≤ lin ∧ lin ≤ 1000000
      rotate_left
      · simp [dc_neg w1, finn (fun h => h.elim hZ w1)]
      have hB : BZ ∨ (inv ≤ lin ∧ lin ≤ 1000000) := .inr w1; simp [w1]; rw [aMax_v, hM]; simp; refine ACall.pure (within_c rs M 1000000) (by simp) ?_; have e : vb (M ≤ rs ∧ rs ≤ 1000000) = vb TK := vb_iff (hmx.trans (fin4 rfl hB).symm); rw [e]; simp
    by_cases e3 : lin = -1
    rotate_left
    · have hZ : ¬ BZ := fun h => e3 (hb0.1 h).2
      simp [e2, e3]; refine ACall.pure (within_c lin inv 1000000) (by simp) ?_; by_cases w1 : inv ≤ lin ∧ lin ≤ 1000000
      rotate_left
      · simp [dc_neg w1, finn (fun h => h.elim hZ w1)]
      have hB : BZ ∨ (inv ≤ lin ∧ lin ≤ 1000000) := .inr w1; simp [w1]; rw [aMax_v, hM]; simp; refine ACall.pure (within_c rs M 1000000) (by simp) ?_; have e : vb (M ≤ rs ∧ rs ≤ 1000000) = vb TK := vb_iff (hmx.trans (fin4 rfl hB).symm); rw [e]; simp
    have hZ : BZ := hb0.2 ⟨⟨e1, e2⟩, e3⟩; simp [e2, eq_true e3]; have hB : BZ ∨ (inv ≤ lin ∧ lin ≤ 1000000) := .inl hZ; rw [aMax_v, hM]; simp; refine ACall.pure (within_c rs M 1000000) (by simp) ?_; have e : vb (M ≤ rs ∧ rs ≤ 1000000) = vb TK := vb_iff (hmx.trans (fin4 rfl hB).symm); rw [e]; simp
theorem specTaskOk_c (t : Task) (hl : nTask t ≤ 2 ^ 36) : PureC Tryz.prog 98 [.agg t.row] (.one (.c (vb (taskOk t)) 1)) := by
  refine PureC.intro' tt_ok Tryz.func98 (by kernel_rfl) rfl rfl rfl (Nat.le_of_ble_eq_true rfl) (fun w0 base => ?_); obtain ⟨n1, n2⟩ := nTask_call hl; obtain ⟨c, pc, inv, lin, rs, a⟩ := t; simp only at n1 n2; have n2' : nAnswer a ≤ 2 ^ 40 := by omega
  have hx : ∀ p : Prop, (taskOk ⟨c, pc, inv, lin, rs, a⟩ → p) → ¬ p → dc (taskOk ⟨c, pc, inv, lin, rs, a⟩) = false := fun p h1 h2 => dc_neg (fun h => h2 (h1 h))
  simp [Task.row]; intro b1; refine ACall.pure (specCallOk_c c (by omega)) (by simp [Call.row]) ?_; by_cases c1 : callOk c
  rotate_left
  · simp [dc_neg c1, hx _ (fun h => h.1) c1]
  simp [c1]; refine ACall.pure (l01In_c inv 0 1000000) (by simp) ?_; by_cases c2 : 0 ≤ inv ∧ inv ≤ 1000000
  rotate_left
  · simp [dc_neg c2, hx _ (fun h => h.2.1) c2]
  simp [c2]; refine ACall.pure (l01In_c pc 0 4) (by simp) ?_; by_cases c3 : 0 ≤ pc ∧ pc ≤ 4
  rotate_left
  · simp [dc_neg c3, hx _ (fun h => h.2.2.1) c3]
  simp [c3]; by_cases p0 : pc = 0
  · subst p0
    by_cases l1 : lin = -1
    rotate_left
    · simp [l1, hx _ (fun h => (h.2.2.2.2.2.1 (by simp)).1) l1]
    subst l1; by_cases l2 : rs = -1
    rotate_left
    · simp [l2, hx _ (fun h => (h.2.2.2.2.2.1 (by simp)).2.1) l2]
    subst l2; simp; refine ACall.pure (specAnswerSame_c a Answer.zero n2') (by simp [Answer.row, Answer.zero]) ?_; have e : vb (a = Answer.zero) = vb (taskOk ⟨c, 0, inv, -1, -1, a⟩) := vb_iff ⟨fun h => ⟨c1, c2, by simp, by simp, by simp, fun _ => ⟨rfl, rfl, h⟩, by simp, by simp, by simp⟩, fun h => (h.2.2.2.2.2.1 (by simp)).2.2⟩; rw [e]; simp
  by_cases p1 : pc = 1
  · subst p1
    simp; refine ACall.pure (specOnDoc_c c.kind) (by simp) ?_; by_cases d1 : onDoc c.kind
    rotate_left
    · simp [dc_neg d1, hx _ (fun h => h.2.2.2.1 rfl) d1]
    simp [d1]; by_cases l1 : lin = -1
    rotate_left
    · simp [l1, hx _ (fun h => (h.2.2.2.2.2.1 (by simp)).1) l1]
    subst l1; by_cases l2 : rs = -1
    rotate_left
    · simp [l2, hx _ (fun h => (h.2.2.2.2.2.1 (by simp)).2.1) l2]
    subst l2; simp; refine ACall.pure (specAnswerSame_c a Answer.zero n2') (by simp [Answer.row, Answer.zero]) ?_; have e : vb (a = Answer.zero) = vb (taskOk ⟨c, 1, inv, -1, -1, a⟩) := vb_iff ⟨fun h => ⟨c1, c2, by simp, fun _ => d1, by simp, fun _ => ⟨rfl, rfl, h⟩, by simp, by simp, by simp⟩, fun h => (h.2.2.2.2.2.1 (by simp)).2.2⟩; rw [e]; simp
  by_cases p2 : pc = 2
  · subst p2
    by_cases d1 : c.kind = 2
    rotate_left
    · simp [d1, hx _ (fun h => h.2.2.2.2.1 rfl) d1]
    simp [d1]; by_cases l1 : lin = -1
    rotate_left
    · simp [l1, hx _ (fun h => (h.2.2.2.2.2.1 (by simp)).1) l1]
    subst l1; by_cases l2 : rs = -1
    rotate_left
    · simp [l2, hx _ (fun h => (h.2.2.2.2.2.1 (by simp)).2.1) l2]
    subst l2; simp; refine ACall.pure (specAnswerSame_c a Answer.zero n2') (by simp [Answer.row, Answer.zero]) ?_; have e : vb (a = Answer.zero) = vb (taskOk ⟨c, 2, inv, -1, -1, a⟩) := vb_iff ⟨fun h => ⟨c1, c2, by simp, by simp, fun _ => d1, fun _ => ⟨rfl, rfl, h⟩, by simp, by simp, by simp⟩, fun h => (h.2.2.2.2.2.1 (by simp)).2.2⟩; rw [e]; simp
  by_cases p34 : pc = 3 ∨ pc = 4
  rotate_left
  · exfalso; omega
  have hb0 : busyA ⟨c, pc, inv, lin, rs, a⟩ ↔ (a = ⟨11, 0, [], []⟩ ∧ c.kind = 2) ∧ lin = -1 := by unfold busyA; simp [and_assoc]
  have fin3 : pc = 3 → (busyA ⟨c, pc, inv, lin, rs, a⟩ ∨ (inv ≤ lin ∧ lin ≤ 1000000)) → (taskOk ⟨c, pc, inv, lin, rs, a⟩ ↔ rs = -1) := fun hp hb =>
    ⟨fun h => h.2.2.2.2.2.2.2.1 hp, fun h => ⟨c1, c2, by simp only; omega, fun h => absurd h p1, fun h => absurd h p2, fun h => by simp only at h; omega, fun _ => hb, fun _ => h, fun h4 => by simp only at h4; omega⟩⟩
  have fin4 : pc = 4 → (busyA ⟨c, pc, inv, lin, rs, a⟩ ∨ (inv ≤ lin ∧ lin ≤ 1000000)) → (taskOk ⟨c, pc, inv, lin, rs, a⟩ ↔ (inv ≤ rs ∧ rs ≤ 1000000) ∧ lin ≤ rs) := fun hp hb =>
    ⟨fun h => h.2.2.2.2.2.2.2.2 hp, fun h => ⟨c1, c2, by simp only; omega, fun h => absurd h p1, fun h => absurd h p2, fun h => by simp only at h; omega, fun _ => hb, fun h4 => by simp only at h4; omega, fun _ => h⟩⟩
  have finn : ¬ (busyA ⟨c, pc, inv, lin, rs, a⟩ ∨ (inv ≤ lin ∧ lin ≤ 1000000)) → dc (taskOk ⟨c, pc, inv, lin, rs, a⟩) = false := fun hb => dc_neg (fun h => hb (h.2.2.2.2.2.2.1 (by simp only; omega)))
  clear hx
  generalize busyA ⟨c, pc, inv, lin, rs, a⟩ = BZ at fin3 fin4 finn hb0; generalize taskOk ⟨c, pc, inv, lin, rs, a⟩ = TK at fin3 fin4 finn ⊢; rcases p34 with rfl | rfl
  · simp
    refine ACall.pure (specAnswerSame_c a ⟨11, 0, [], []⟩ n2') (by simp [Answer.row]) ?_; by_cases e1 : a = ⟨11, 0, [], []⟩
    rotate_left
    · have hZ : ¬ BZ := fun h => e1 (hb0.1 h).1.1
      simp [e1]; refine ACall.pure (l01In_c lin inv 1000000) (by simp) ?_; by_cases w1 : inv ≤ lin ∧ lin ≤ 1000000
      rotate_left
      · simp [dc_neg w1, finn (fun h => h.elim hZ w1)]
      have hB : BZ ∨ (inv ≤ lin ∧ lin ≤ 1000000) := .inr w1; simp [w1]; by_cases r1 : rs = -1
      · have h : TK := (fin3 rfl hB).2 r1
        simp [r1, h]
      · have h : ¬ TK := fun h => r1 ((fin3 rfl hB).1 h)
        simp [r1, dc_neg h]
    simp [e1]; by_cases e2 : c.kind = 2
    rotate_left
    · have hZ : ¬ BZ := fun h => e2 (hb0.1 h).1.2
      simp [e2]; refine ACall.pure (l01In_c lin inv 1000000) (by simp) ?_; by_cases w1 : inv ≤ lin ∧ lin ≤ 1000000
      rotate_left
      · simp [dc_neg w1, finn (fun h => h.elim hZ w1)]
      have hB : BZ ∨ (inv ≤ lin ∧ lin ≤ 1000000) := .inr w1; simp [w1]; by_cases r1 : rs = -1
      · have h : TK := (fin3 rfl hB).2 r1
        simp [r1, h]
      · have h : ¬ TK := fun h => r1 ((fin3 rfl hB).1 h)
        simp [r1, dc_neg h]
    by_cases e3 : lin = -1
    rotate_left
    · have hZ : ¬ BZ := fun h => e3 (hb0.1 h).2
      simp [e2, e3]; refine ACall.pure (l01In_c lin inv 1000000) (by simp) ?_; by_cases w1 : inv ≤ lin ∧ lin ≤ 1000000
      rotate_left
      · simp [dc_neg w1, finn (fun h => h.elim hZ w1)]
      have hB : BZ ∨ (inv ≤ lin ∧ lin ≤ 1000000) := .inr w1; simp [w1]; by_cases r1 : rs = -1
      · have h : TK := (fin3 rfl hB).2 r1
        simp [r1, h]
      · have h : ¬ TK := fun h => r1 ((fin3 rfl hB).1 h)
        simp [r1, dc_neg h]
    have hZ : BZ := hb0.2 ⟨⟨e1, e2⟩, e3⟩; simp [e2, eq_true e3]; have hB : BZ ∨ (inv ≤ lin ∧ lin ≤ 1000000) := .inl hZ; by_cases r1 : rs = -1
    · have h : TK := (fin3 rfl hB).2 r1
      simp [r1, h]
    · have h : ¬ TK := fun h => r1 ((fin3 rfl hB).1 h)
      simp [r1, dc_neg h]
  · simp
    refine ACall.pure (specAnswerSame_c a ⟨11, 0, [], []⟩ n2') (by simp [Answer.row]) ?_; by_cases e1 : a = ⟨11, 0, [], []⟩
    rotate_left
    · have hZ : ¬ BZ := fun h => e1 (hb0.1 h).1.1
      simp [e1]; refine ACall.pure (l01In_c lin inv 1000000) (by simp) ?_; by_cases w1 : inv ≤ lin ∧ lin ≤ 1000000
      rotate_left
      · simp [dc_neg w1, finn (fun h => h.elim hZ w1)]
      have hB : BZ ∨ (inv ≤ lin ∧ lin ≤ 1000000) := .inr w1; simp [w1]; refine ACall.pure (l01In_c rs inv 1000000) (by simp) ?_; by_cases r1 : inv ≤ rs ∧ rs ≤ 1000000
      rotate_left
      · have h : ¬ TK := fun h => r1 ((fin4 rfl hB).1 h).1
        simp [dc_neg r1, dc_neg h]
      simp [r1]; by_cases r2 : lin ≤ rs
      · have h : TK := (fin4 rfl hB).2 ⟨r1, r2⟩
        simp [r2, h]
      · have h : ¬ TK := fun h => r2 ((fin4 rfl hB).1 h).2
        simp [r2, dc_neg h]
    simp [e1]; by_cases e2 : c.kind = 2
    rotate_left
    · have hZ : ¬ BZ := fun h => e2 (hb0.1 h).1.2
      simp [e2]; refine ACall.pure (l01In_c lin inv 1000000) (by simp) ?_; by_cases w1 : inv ≤ lin ∧ lin ≤ 1000000
      rotate_left
      · simp [dc_neg w1, finn (fun h => h.elim hZ w1)]
      have hB : BZ ∨ (inv ≤ lin ∧ lin ≤ 1000000) := .inr w1; simp [w1]; refine ACall.pure (l01In_c rs inv 1000000) (by simp) ?_; by_cases r1 : inv ≤ rs ∧ rs ≤ 1000000
      rotate_left
      · have h : ¬ TK := fun h => r1 ((fin4 rfl hB).1 h).1
        simp [dc_neg r1, dc_neg h]
      simp [r1]; by_cases r2 : lin ≤ rs
      · have h : TK := (fin4 rfl hB).2 ⟨r1, r2⟩
        simp [r2, h]
      · have h : ¬ TK := fun h => r2 ((fin4 rfl hB).1 h).2
        simp [r2, dc_neg h]
    by_cases e3 : lin = -1
    rotate_left
    · have hZ : ¬ BZ := fun h => e3 (hb0.1 h).2
      simp [e2, e3]; refine ACall.pure (l01In_c lin inv 1000000) (by simp) ?_; by_cases w1 : inv ≤ lin ∧ lin ≤ 1000000
      rotate_left
      · simp [dc_neg w1, finn (fun h => h.elim hZ w1)]
      have hB : BZ ∨ (inv ≤ lin ∧ lin ≤ 1000000) := .inr w1; simp [w1]; refine ACall.pure (l01In_c rs inv 1000000) (by simp) ?_; by_cases r1 : inv ≤ rs ∧ rs ≤ 1000000
      rotate_left
      · have h : ¬ TK := fun h => r1 ((fin4 rfl hB).1 h).1
        simp [dc_neg r1, dc_neg h]
      simp [r1]; by_cases r2 : lin ≤ rs
      · have h : TK := (fin4 rfl hB).2 ⟨r1, r2⟩
        simp [r2, h]
      · have h : ¬ TK := fun h => r2 ((fin4 rfl hB).1 h).2
        simp [r2, dc_neg h]
    have hZ : BZ := hb0.2 ⟨⟨e1, e2⟩, e3⟩; simp [e2, eq_true e3]; have hB : BZ ∨ (inv ≤ lin ∧ lin ≤ 1000000) := .inl hZ; refine ACall.pure (l01In_c rs inv 1000000) (by simp) ?_; by_cases r1 : inv ≤ rs ∧ rs ≤ 1000000
    rotate_left
    · have h : ¬ TK := fun h => r1 ((fin4 rfl hB).1 h).1
      simp [dc_neg r1, dc_neg h]
    simp [r1]; by_cases r2 : lin ≤ rs
    · have h : TK := (fin4 rfl hB).2 ⟨r1, r2⟩
      simp [r2, h]
    · have h : ¬ TK := fun h => r2 ((fin4 rfl hB).1 h).2
      simp [r2, dc_neg h]
end Go.Proofs.YtdfdabjdfmamgaaGreat

namespace Go.Proofs.YtdfdabjdfmamgaaGreat
open Go.AM
set_option maxRecDepth 20000
set_option maxHeartbeats 6400000
theorem not_mem_take {l : List Int} {n : Int} {i : Nat} (h : i < l.length) (ha : n ∉ l.take i) (hi : ¬ n = l[i]) : n ∉ l.take (i + 1) := by
  rw [← List.take_append_getElem h]; simp only [List.mem_append, List.mem_singleton, not_or]; exact ⟨ha, hi⟩
theorem indexInt_c (l : List Int) (hl : l.length ≤ 2 ^ 40) (n : Int) : PureC Tryz.prog 201 [.c (.s (l.map intR)), .c (vi n)] (.one (.c (vb (n ∈ l)) 1)) := by
  refine PureC.intro' tt_ok Tryz.func201 (by kernel_rfl) rfl rfl rfl (Nat.le_of_ble_eq_true rfl) (fun w0 base => ?_); simp; refine ACall.inline tt_ok Tryz.func279 (by kernel_rfl) rfl rfl rfl (Nat.le_of_ble_eq_true rfl) 20000 (fun w1 F => ?_); simp; refine LoopT.intro eok (fun i : Nat => i ≤ l.length ∧ n ∉ l.take i) (fun i => ⟨19, 20000, [(8, .v (.int .i64 i)), (7, .v (.int .i64 l.length)), (0, .ro (l.map intR)), (1, .v (.int .i64 n))], []⟩) (fun i => l.length - i) 0 (by simp) (by simp) (fun i hi => ?_); by_cases hlt : i < l.length
  · simp [hlt]
    by_cases c : n = l[i]
    · have h : n ∈ l := by rw [c]; exact List.getElem_mem hlt
      have h0 : (0 : Int) ≤ i := by omega
      simp [c, h0]
    · simp [c]
      exact ⟨i + 1, ⟨by omega, not_mem_take hlt hi.2 c⟩, by omega, i64_suc (by omega)⟩
  · have h : n ∉ l := by have := hi.2; rwa [List.take_of_length_le (by omega)] at this
    simp [hlt, dc_neg h]
theorem specHas_c (l : List Int) (hl : l.length ≤ 2 ^ 40) (n : Int) : PureC Tryz.prog 195 [.c (.s (l.map intR)), .c (vi n)] (.one (.c (vb (n ∈ l)) 1)) := by
  refine PureC.intro' tt_ok Tryz.func195 (by kernel_rfl) rfl rfl rfl (Nat.le_of_ble_eq_true rfl) (fun w0 base => ?_); simp; refine LoopT.intro eok (fun i : Nat => i ≤ l.length ∧ n ∉ l.take i) (fun i => ⟨17, 0, [(9, .v (.int .i64 i)), (8, .v (.int .i64 l.length)), (7, .ro (l.map intR)), (1, .v (.int .i64 n))], []⟩) (fun i => l.length - i) 0 (by simp) (by simp) (fun i hi => ?_); by_cases hlt : i < l.length
  · simp [hlt]
    by_cases c : l[i] = n
    · have h : n ∈ l := by rw [← c]; exact List.getElem_mem hlt
      simp [c, h]
    · simp [c]
      exact ⟨i + 1, ⟨by omega, not_mem_take hlt hi.2 (fun h => c h.symm)⟩, by omega, i64_suc (by omega)⟩
  · have h : n ∉ l := by have := hi.2; rwa [List.take_of_length_le (by omega)] at this
    simp [hlt, dc_neg h]
theorem steps_end {tasks : List Task} {step : Int} {m : List Int} (h : stepsRun step [] (tasks.flatMap toldOf) = some m) : ∀ h' l q, stepsOk ⟨h', l, q, tasks, step⟩ := by
  intro h' l q; unfold stepsOk; simp only; rw [h]; rfl
theorem implStepsOk_c (w : Wld) (hl : w.tasks.length ≤ 2 ^ 30) : PureC Tryz.prog 109 [.c (.s (w.tasks.map Task.row)), .c (vi w.step)] (.one (.c (vb (stepsOk w)) 1)) := by
  refine PureC.intro' tt_ok Tryz.func109 (by kernel_rfl) rfl rfl rfl (Nat.le_of_ble_eq_true rfl) (fun w0 base => ?_); obtain ⟨hh, lk, qs, tasks, step⟩ := w; simp only at hl; simp
  refine LoopT.introG eok (fun x : Nat × List Int × Hd => x.1 ≤ tasks.length ∧ stepsRun step [] ((tasks.take x.1).flatMap toldOf) = some x.2.1) (fun x => ⟨44, 0, [(12, .v (.int .i64 x.1)), (11, .v (.int .i64 tasks.length)), (10, .ro (tasks.map Task.row)), (1, .v (.int .i64 step)), (5, .sl 5000 x.2.2 1 0 x.2.1.length)],
    [(5000, .rows x.2.2 1 (x.2.1.map intR) true)]⟩) (fun x => tasks.length - x.1) (0, [], none) (by simp [stepsRun]) (by simp) (fun x hi => Ent.refl ?_)
  obtain ⟨i, met, H⟩ := x; obtain ⟨hi, hr⟩ := hi; simp only at hi hr ⊢
  have hml : met.length ≤ 3 * tasks.length := by
    have := stepsRun_len _ _ _ hr; have h2 := told_len (tasks.take i); simp at this h2; omega
  by_cases hlt : i < tasks.length
  rotate_left
  · have : i = tasks.length := by omega
    subst this; rw [List.take_length] at hr; have h := steps_end hr hh lk qs; simp [h]
  have hsuc : stepsRun step [] ((tasks.take (i + 1)).flatMap toldOf) = stepsRun step met (toldOf tasks[i]) := by
    rw [told_suc hlt, stepsRun_append, hr]; rfl
  have hno := fun hn => stepsOk_no (w := ⟨hh, lk, qs, tasks, step⟩) hlt hr hn
  simp only at hno; obtain ⟨t, ht⟩ : ∃ t, tasks[i] = t := ⟨_, rfl⟩; rw [ht] at hsuc hno; obtain ⟨told, htold⟩ : ∃ l, toldOf t = l := ⟨_, rfl⟩; have hrow : [[CD.v (.int .i64 t.inv)], [CD.v (.int .i64 t.lin)], [CD.v (.int .i64 t.rs)]] = told.map intR := by rw [← htold]; rfl
  have htl : told.length = 3 := by rw [← htold]; rfl
  rw [htold] at hsuc hno; simp [hlt, ht, Task.row]; intro b7 b22; rw [hrow]
  refine LoopT.introG eok (fun x : Nat × List Int × Hd => x.1 ≤ 3 ∧ stepsRun step met (told.take x.1) = some x.2.1) (fun x => ⟨44, 0, [(24, .v (.int .i64 x.1)), (23, .v (.int .i64 3)), (22, .sl 352 (some (b22, 0, 3)) 1 0 3), (12, .v (.int .i64 i)), (11, .v (.int .i64 tasks.length)), (10, .ro (tasks.map Task.row)), (1, .v (.int .i64 step)), (5, .sl 5000 x.2.2 1 0 x.2.1.length)],
    [(352, .rows (some (b22, 0, 3)) 1 (told.map intR) true), (5000, .rows x.2.2 1 (x.2.1.map intR) true)]⟩) (fun x => 3 - x.1) (0, met, H) (by simp [stepsRun]) (by simp) (fun x hi => Ent.refl ?_)
  obtain ⟨j, m, G⟩ := x; obtain ⟨hj, hm⟩ := hi; simp only at hj hm ⊢
  have hmm : m.length ≤ met.length + 3 := by
    have := stepsRun_len _ _ _ hm; simp at this; omega
  by_cases hjt : j < 3
  rotate_left
  · have : j = 3 := by omega
    subst this; rw [List.take_of_length_le (by omega)] at hm; simp; refine Ent.refl ⟨i + 1, m, ⟨by omega, by rw [hsuc, hm]⟩, by omega, G, ?_⟩; simp; exact i64_suc (by omega)
  have hj' : (j : Int) < 3 := by omega
  have hjl : j < told.length := by omega
  obtain ⟨o1, o2, o3⟩ := stepsRun_one hjl hm; simp [hj', hjl]; generalize told[j] = n at o1 o2 o3 ⊢; by_cases c1 : n = -1
  · simp [c1]
    refine Ent.refl ⟨j + 1, m, ⟨by omega, o1 c1⟩, by omega, G, ?_⟩; simp; exact i64_suc (by omega)
  simp [c1]; by_cases c2 : step ≤ n
  · have h := hno (o3 c1 (.inl c2))
    simp [c2, dc_neg h]
  simp [c2]; refine ACall.pure (indexInt_c m (by omega) n) (by simp) ?_; by_cases c3 : n ∈ m
  · have h := hno (o3 c1 (.inr c3))
    simp [c3, dc_neg h]
  simp [dc_neg c3]; intro b40; refine ⟨by omega, fun G' => Ent.refl ⟨j + 1, m ++ [n], ⟨by omega, o2 c1 (fun h => h.elim (fun h => c2 h) c3)⟩, by omega, G', ?_⟩⟩; simp; exact i64_suc (by omega)
end Go.Proofs.YtdfdabjdfmamgaaGreat

namespace Go.Proofs.YtdfdabjdfmamgaaGreat
open Go.AM
set_option maxRecDepth 20000
set_option maxHeartbeats 6400000
theorem nWorld_parts {w : Wld} {B : Nat} (h : nWorld w ≤ B) : nHub w.h ≤ B ∧ w.locks.length ≤ B ∧ nL nQueue w.queues ≤ B ∧ nL nTask w.tasks ≤ B := by unfold nWorld at h; omega
theorem nTask_doc {t : Task} {B : Nat} (h : nTask t ≤ B) : t.c.doc.size ≤ B := by unfold nTask nCall at h; omega
theorem specSteps_c (w : Wld) (hl : nWorld w ≤ 2 ^ 30) : PureC Tryz.prog 100 [.agg w.row] (.one (.c (vb (stepsOk w)) 1)) := by
  refine PureC.intro' tt_ok Tryz.func100 (by kernel_rfl) rfl rfl rfl (Nat.le_of_ble_eq_true rfl) (fun w0 base => ?_); obtain ⟨-, -, -, n4⟩ := nWorld_parts hl; obtain ⟨hh, lk, qs, tasks, step⟩ := w; have hl := nL_len n4; simp only at hl; simp [Wld.row]; intro b1 b8
  refine LoopT.introG eok (fun x : Nat × List Int × Hd => x.1 ≤ tasks.length ∧ stepsRun step [] ((tasks.take x.1).flatMap toldOf) = some x.2.1) (fun x => ⟨45, 0, [(12, .v (.int .i64 x.1)), (11, .v (.int .i64 tasks.length)), (10, .ro (tasks.map Task.row)), (1, .p 16 b1 0), (3, .sl 128 x.2.2 1 0 x.2.1.length)],
    [(16, .vars b1 71 [.v (.bool hh.shut), .ro (hh.docs.map Doc.row), .ro (hh.subs.map Sub.row), .v (.int .i64 hh.last), .ro (lk.map intR), .ro (qs.map Queue.row), .ro (tasks.map Task.row), .v (.int .i64 step)]),
     (128, .rows x.2.2 1 (x.2.1.map intR) true)]⟩) (fun x => tasks.length - x.1) (0, [], some (b8, 0, 0)) (by simp [stepsRun]) (by simp) (fun x hi => Ent.refl ?_)
  obtain ⟨i, met, H⟩ := x; obtain ⟨hi, hr⟩ := hi; simp only at hi hr ⊢
  have hml : met.length ≤ 3 * tasks.length := by
    have := stepsRun_len _ _ _ hr; have h2 := told_len (tasks.take i); simp at this h2; omega
  by_cases hlt : i < tasks.length
  rotate_left
  · have : i = tasks.length := by omega
    subst this; rw [List.take_length] at hr; have h := steps_end hr hh lk qs; simp [h]
  have hsuc : stepsRun step [] ((tasks.take (i + 1)).flatMap toldOf) = stepsRun step met (toldOf tasks[i]) := by
    rw [told_suc hlt, stepsRun_append, hr]; rfl
  have hno := fun hn => stepsOk_no (w := ⟨hh, lk, qs, tasks, step⟩) hlt hr hn
  simp only at hno; obtain ⟨t, ht⟩ : ∃ t, tasks[i] = t := ⟨_, rfl⟩; rw [ht] at hsuc hno; obtain ⟨told, htold⟩ : ∃ l, toldOf t = l := ⟨_, rfl⟩; have hrow : [[CD.v (.int .i64 t.inv)], [CD.v (.int .i64 t.lin)], [CD.v (.int .i64 t.rs)]] = told.map intR := by rw [← htold]; rfl
  have htl : told.length = 3 := by rw [← htold]; rfl
  rw [htold] at hsuc hno; simp [hlt, ht, Task.row]; intro b5 b22; rw [hrow]
  refine LoopT.introG eok (fun x : Nat × List Int × Hd => x.1 ≤ 3 ∧ stepsRun step met (told.take x.1) = some x.2.1) (fun x => ⟨45, 0, [(24, .v (.int .i64 x.1)), (23, .v (.int .i64 3)), (22, .sl 352 (some (b22, 0, 3)) 1 0 3), (12, .v (.int .i64 i)), (11, .v (.int .i64 tasks.length)), (10, .ro (tasks.map Task.row)), (1, .p 16 b1 0), (3, .sl 128 x.2.2 1 0 x.2.1.length)],
    [(16, .vars b1 71 [.v (.bool hh.shut), .ro (hh.docs.map Doc.row), .ro (hh.subs.map Sub.row), .v (.int .i64 hh.last), .ro (lk.map intR), .ro (qs.map Queue.row), .ro (tasks.map Task.row), .v (.int .i64 step)]),
     (352, .rows (some (b22, 0, 3)) 1 (told.map intR) true), (128, .rows x.2.2 1 (x.2.1.map intR) true)]⟩) (fun x => 3 - x.1) (0, met, H) (by simp [stepsRun]) (by simp) (fun x hi => Ent.refl ?_)
  obtain ⟨j, m, G⟩ := x; obtain ⟨hj, hm⟩ := hi; simp only at hj hm ⊢
  have hmm : m.length ≤ met.length + 3 := by
    have := stepsRun_len _ _ _ hm; simp at this; omega
  by_cases hjt : j < 3
  rotate_left
  · have : j = 3 := by omega
    subst this; rw [List.take_of_length_le (by omega)] at hm; simp; refine Ent.refl ⟨i + 1, m, ⟨by omega, by rw [hsuc, hm]⟩, by omega, G, ?_⟩; simp; exact i64_suc (by omega)
  have hj' : (j : Int) < 3 := by omega
  have hjl : j < told.length := by omega
  obtain ⟨o1, o2, o3⟩ := stepsRun_one hjl hm; simp [hj', hjl]; generalize told[j] = n at o1 o2 o3 ⊢; by_cases c1 : n = -1
  · simp [c1]
    refine Ent.refl ⟨j + 1, m, ⟨by omega, o1 c1⟩, by omega, G, ?_⟩; simp; exact i64_suc (by omega)
  simp [c1]; by_cases c2 : step ≤ n
  · have h := hno (o3 c1 (.inl c2))
    simp [c2, dc_neg h]
  simp [c2]; refine ACall.pure (specHas_c m (by omega) n) (by simp) ?_; by_cases c3 : n ∈ m
  · have h := hno (o3 c1 (.inr c3))
    simp [c3, dc_neg h]
  simp [dc_neg c3]; intro b40; refine ⟨by omega, fun G' => Ent.refl ⟨j + 1, m ++ [n], ⟨by omega, o2 c1 (fun h => h.elim (fun h => c2 h) c3)⟩, by omega, G', ?_⟩⟩; simp; exact i64_suc (by omega)
theorem specLocks_c (w : Wld) (hl : nWorld w ≤ 2 ^ 30) (hn : 1 ≤ w.locks.length) : PureC Tryz.prog 101 [.agg w.row] (.one (.c (vb (locksOk w)) 1)) := by
  refine PureC.intro' tt_ok Tryz.func101 (by kernel_rfl) rfl rfl rfl (Nat.le_of_ble_eq_true rfl) (fun w0 base => ?_); obtain ⟨-, n2, -, n4⟩ := nWorld_parts hl; obtain ⟨hh, lk, qs, tasks, step⟩ := w; have hle := nL_len n4; simp only at hle n2 hn n4; simp [Wld.row]; intro b1
  refine LoopT.introG eok (fun i : Nat => i ≤ lk.length ∧ ∀ s, s < i → lockAt tasks lk s) (fun i => ⟨76, 0, [(10, .v (.int .i64 i)), (9, .v (.int .i64 lk.length)), (8, .ro (lk.map intR)), (1, .p 16 b1 0)],
    [(16, .vars b1 71 [.v (.bool hh.shut), .ro (hh.docs.map Doc.row), .ro (hh.subs.map Sub.row), .v (.int .i64 hh.last), .ro (lk.map intR), .ro (qs.map Queue.row), .ro (tasks.map Task.row), .v (.int .i64 step)])]⟩) (fun i => lk.length - i) 0 (by simp) (by simp) (fun i hi => Ent.refl ?_)
  by_cases hlt : i < lk.length
  · obtain ⟨x, hx⟩ : ∃ x, lk[i] = x := ⟨_, rfl⟩
    have hno : (¬ (lk[i] = -1 ∨ ∃ k : Nat, ∃ hk : k < tasks.length, lk[i] = k ∧ tasks[k].pc = 1 ∧ stripe tasks[k].c.doc lk.length = i)) → dc (locksOk ⟨hh, lk, qs, tasks, step⟩) = false := fun h => dc_neg (fun h' => h (h'.1 i hlt))
    rw [hx] at hno; have ew : Go.IntKind.i64.wrap ((tasks.length : Int) - 1) = (tasks.length : Int) - 1 := Go.IntWalk.i64_in _ (by omega); simp [hlt, hx]; by_cases c0 : x = -1
    · simp [c0]
      exact Ent.refl ⟨i + 1, ⟨by omega, upto_suc hi.2 (fun _ => .inl (by rw [hx, c0]))⟩, by omega, by simp; exact i64_suc (by omega)⟩
    simp [c0]; refine DrawT.quiet eok mix (by kernel_rfl) ?_; simp [ew]; refine ⟨_, _, l01In_c x 0 ((tasks.length : Int) - 1), by simp, ?_⟩; by_cases c1 : 0 ≤ x ∧ x ≤ (tasks.length : Int) - 1
    rotate_left
    · have h := hno (fun h => h.elim c0 (fun ⟨k, hk, e, _⟩ => c1 (by omega)))
      simp [dc_neg c1, h]
    obtain ⟨k, rfl⟩ : ∃ k : Nat, x = k := ⟨x.toNat, by omega⟩; have hk : k < tasks.length := by omega
    obtain ⟨t, ht⟩ : ∃ t, tasks[k] = t := ⟨_, rfl⟩; have hm := nTask_doc (nL_at n4 hk); rw [ht] at hm; simp [c1, hk, ht, Task.row]; by_cases c2 : t.pc = 1
    rotate_left
    · have h := hno (fun h => h.elim c0 (fun ⟨k', hk', e, h2, _⟩ => c2 (by obtain rfl : k = k' := (by omega); rwa [ht] at h2)))
      simp [c2, h]
    simp [c2, hk, ht, Task.row]; refine ⟨_, _, specStripe_c t.c.doc (by omega) lk.length hn (by omega), by simp, ?_⟩; by_cases c3 : stripe t.c.doc lk.length = i
    rotate_left
    · have h := hno (fun h => h.elim c0 (fun ⟨k', hk', e, h2, h3⟩ => c3 (by obtain rfl : k = k' := (by omega); rwa [ht] at h3)))
      have c3' : ¬ (stripe t.c.doc lk.length : Int) = i := by omega
      simp [c3', h]
    have c3' : (stripe t.c.doc lk.length : Int) = i := by omega
    simp [c3']; exact Ent.refl ⟨i + 1, ⟨by omega, upto_suc hi.2 (fun _ => .inr ⟨k, hk, hx, by rw [ht]; exact c2, by rw [ht]; exact c3⟩)⟩, by omega, by simp; exact i64_suc (by omega)⟩
  have hall : ∀ s, lockAt tasks lk s := fun s => by
    by_cases h : s < lk.length
    · exact hi.2 s (by omega)
    · exact fun h' => absurd h' h
  simp [hlt]
  refine LoopT.introG eok (fun i : Nat => i ≤ tasks.length ∧ ∀ s, s < i → lockedAt tasks lk s) (fun i => ⟨76, 0, [(52, .v (.int .i64 i)), (51, .v (.int .i64 tasks.length)), (50, .ro (tasks.map Task.row)), (1, .p 16 b1 0)],
    [(16, .vars b1 71 [.v (.bool hh.shut), .ro (hh.docs.map Doc.row), .ro (hh.subs.map Sub.row), .v (.int .i64 hh.last), .ro (lk.map intR), .ro (qs.map Queue.row), .ro (tasks.map Task.row), .v (.int .i64 step)])]⟩) (fun i => tasks.length - i) 0 (by simp) (by simp) (fun i hi => Ent.refl ?_)
  by_cases hlt : i < tasks.length
  · obtain ⟨t, ht⟩ : ∃ t, tasks[i] = t := ⟨_, rfl⟩
    have hm := nTask_doc (nL_at n4 hlt); rw [ht] at hm; simp [hlt, ht, Task.row]; intro b6; refine DrawT.quiet eok mix (by kernel_rfl) ?_; simp; by_cases c1 : t.pc = 1
    rotate_left
    · simp [c1]
      exact Ent.refl ⟨i + 1, ⟨by omega, upto_suc hi.2 (fun _ h => absurd h (by rw [ht]; exact c1))⟩, by omega, by simp; exact i64_suc (by omega)⟩
    simp [c1]; refine ⟨_, _, specStripe_c t.c.doc (by omega) lk.length hn (by omega), by simp, ?_⟩; have hs : stripe t.c.doc lk.length < lk.length := (stripe_eq t.c.doc hn).2; simp [hs]; by_cases c2 : lk[stripe t.c.doc lk.length] = (i : Int)
    rotate_left
    · have h : ¬ locksOk ⟨hh, lk, qs, tasks, step⟩ := fun h => c2 (by
        have := h.2 i hlt (by simp only [ht]; exact c1); simp only [ht] at this; rw [List.getElem?_eq_getElem hs] at this; exact Option.some.inj this)
      simp [c2, dc_neg h]
    simp [c2]; exact Ent.refl ⟨i + 1, ⟨by omega, upto_suc hi.2 (fun _ h => by rw [ht, List.getElem?_eq_getElem hs, c2])⟩, by omega, by simp; exact i64_suc (by omega)⟩
  have h : locksOk ⟨hh, lk, qs, tasks, step⟩ := ⟨hall, fun s => by
    by_cases h : s < tasks.length
    · exact hi.2 s (by omega)
    · exact fun h' => absurd h' h⟩
  simp [hlt, h]
end Go.Proofs.YtdfdabjdfmamgaaGreat

