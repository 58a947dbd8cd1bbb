import Derived.Test.YtdfdabjdfmamgaaGreatPG
import Derived.Test.YtdfdabjdfmamgaaGreatPD
import Derived.Test.YtdfdabjdfmamgaaGreatPI
import Derived.Test.YtdfdabjdfmamgaaGreatPH
import Derived.Test.YtdfdabjdfmamgaaGreatPA
import Derived.Test.YtdfdabjdfmamgaaGreatNA
import Derived.Test.YtdfdabjdfmamgaaGreatPF
namespace Go.Proofs.YtdfdabjdfmamgaaGreat
open Go.AM
set_option maxRecDepth 20000
set_option maxHeartbeats 6400000
theorem implOnDoc_c (k : Int) : PureC Tryz.prog 128 [.c (vi k)] (.one (.c (vb (onDoc k)) 1)) := by
  refine PureC.intro' tt_ok Tryz.func128 (by kernel_rfl) rfl rfl rfl (Nat.le_of_ble_eq_true rfl) (fun w0 base => ?_); simp; refine ACall.pure (within_c k 1 5) (by simp) ?_; simp [onDoc]
theorem specOnDoc_c (k : Int) : PureC Tryz.prog 193 [.c (vi k)] (.one (.c (vb (onDoc k)) 1)) := by
  refine PureC.intro' tt_ok Tryz.func193 (by kernel_rfl) rfl rfl rfl (Nat.le_of_ble_eq_true rfl) (fun w0 base => ?_); simp; refine ACall.pure (l01In_c k 1 5) (by simp) ?_; simp [onDoc]
theorem specKind_c (k : Int) : PureC Tryz.prog 216 [.c (vi k)] (.one (.c (vb (1 ≤ k ∧ k ≤ 8)) 1)) := by
  refine PureC.intro' tt_ok Tryz.func216 (by kernel_rfl) rfl rfl rfl (Nat.le_of_ble_eq_true rfl) (fun w0 base => ?_); simp; refine ACall.pure (l01In_c k 1 8) (by simp) ?_; simp
theorem implCallSame_c (a b : Call) (ha : nCall a ≤ 2 ^ 40) : PureC Tryz.prog 224 [.agg a.row, .agg b.row] (.one (.c (vb (a = b)) 1)) := by
  refine PureC.intro' tt_ok Tryz.func224 (by kernel_rfl) rfl rfl rfl (Nat.le_of_ble_eq_true rfl) (fun w0 base => ?_); obtain ⟨a0, a1, a2, a3, a4, a5, a6⟩ := a; obtain ⟨c0, c1, c2, c3, c4, c5, c6⟩ := b; unfold nCall at ha; simp only at ha; simp [Call.row]; intro b1 b2; by_cases h0 : a0 = c0
  rotate_left
  · simp [h0]
  subst h0; by_cases h1 : a1 = c1
  rotate_left
  · simp [h1]
  subst h1; by_cases h2 : a2 = c2
  rotate_left
  · simp [h2]
  subst h2; by_cases h3 : a3 = c3
  rotate_left
  · simp [h3]
  subst h3; by_cases h4 : a4 = c4
  rotate_left
  · simp [h4]
  subst h4; simp; refine ACall.pure (implOpSame_c a5 c5 (by omega)) (by simp) ?_; by_cases h5 : a5 = c5
  rotate_left
  · simp [h5]
  subst h5; simp; refine ACall.pure (slEqInt_c a6 c6 (by omega)) (by simp) ?_; by_cases h6 : a6 = c6
  · simp [h6]
  · simp [h6]
theorem implCallOk_c (c : Call) (hl : nCall c ≤ 2 ^ 36) : PureC Tryz.prog 135 [.agg c.row] (.one (.c (vb (callOk c)) 1)) := by
  refine PureC.intro' tt_ok Tryz.func135 (by kernel_rfl) rfl rfl rfl (Nat.le_of_ble_eq_true rfl) (fun w0 base => ?_); have hu := @callOk_used c; have hx : ∀ p : Prop, (callOk c → p) → ¬ p → dc (callOk c) = false := fun p h1 h2 => dc_neg (fun h => h2 (h1 h))
  have hl0 := hl; unfold nCall at hl; simp [Call.row]; intro b1
  refine DrawT.introSG eok mix [0, 1] [2, 3, 4, 5, 6, 7, 8, 9, 10, 11, 12, 13, 14, 15, 16, 17, 18, 19, 20, 21, 22, 23, 24, 25] (.child 2 [true, false] [false, true] (.child 3 [false, false] [false, true] (.child 4 [false, false] [false, true] (.child 5 [false, false] [false, true] (.child 6 [false, false] [false, true] (.child 7 [false, false] [false, true] (.child 8 [false, false] [false, true] (.child 9 [false, false] [false, true] (.child 10 [false, false] [false, true] (.child 11 [false, false] [false, true] (.child 12 [false, false] [false, true] (.child 13 [false, false] [false, true] (.child 14 [false, false] [false, true] (.child 15 [false, false] [false, true] (.child 16 [false, false] [false, true] (.child 17 [false, false] [false, true] (.child 18 [false, false] [false, true] (.child 19 [false, false] [false, true] (.child 20 [false, false] [false, true] (.child 21 [false, false] [false, true] (.child 22 [false, false] [false, true] (.child 23 [false, false] [false, true] (.child 24 [false, false] [false, true] (.child 25 [false, true] [false, false] (.leaf [false, false]) .stop) .stop) .stop) .stop) .stop) (.child 21 [false, false] [false, true] (.child 20 [false, false] [false, true] (.child 22 [false, false] [false, true] (.child 23 [false, false] [false, true] (.child 24 [false, false] [false, true] (.child 25 [false, true] [false, false] (.leaf [false, false]) .stop) .stop) .stop) .stop) (.child 22 [false, false] [false, true] (.child 20 [false, false] [false, true] (.child 23 [false, false] [false, true] (.child 24 [false, false] [false, true] (.child 25 [false, true] [false, false] (.leaf [false, false]) .stop) .stop) .stop) .stop) .stop)) .stop)) .stop) .stop) .stop) .stop) .stop) .stop) .stop) .stop) .stop) .stop) .stop) .stop) .stop) .stop) .stop) .stop) .stop) .stop) (by kernel_rfl) ?_
  simp; refine ACall.pure (within_c c.kind 1 8) (by simp) ?_; by_cases s1 : 1 ≤ c.kind ∧ c.kind ≤ 8
  rotate_left
  · simp [dc_neg s1]
    rw [Gd.Tr_child]; refine ⟨?_, ?_⟩
    · simp [hx _ (fun h => h.1) s1]
    · simp
      rw [Gd.Tr_child]; refine ⟨?_, ?_⟩
      · simp [hx _ (fun h => h.1) s1]
      · simp [hx _ (fun h => h.1) s1]
  simp [s1]; by_cases s2 : c.doc.size ≤ 8
  rotate_left
  · have s2' : ¬ (c.doc.size : Int) ≤ 8 := by omega
    simp [s2']; rw [Gd.Tr_child]; refine ⟨?_, ?_⟩
    · simp [hx _ (fun h => h.2.1) s2]
    · simp
      rw [Gd.Tr_child]; refine ⟨?_, ?_⟩
      · simp [hx _ (fun h => h.2.1) s2]
      · simp [hx _ (fun h => h.2.1) s2]
  have s2' : (c.doc.size : Int) ≤ 8 := by omega
  simp [s2']; refine ACall.pure (implPartsOk_c c.o (by omega)) (by simp) ?_; by_cases s3 : partsOk c.o
  rotate_left
  · simp [dc_neg s3]
    rw [Gd.Tr_child]; refine ⟨?_, ?_⟩
    · simp [hx _ (fun h => h.2.2.1) s3]
    · simp
      rw [Gd.Tr_child]; refine ⟨?_, ?_⟩
      · simp [hx _ (fun h => h.2.2.1) s3]
      · simp [hx _ (fun h => h.2.2.1) s3]
  simp [s3]; refine ACall.pure (implTextOk_c c.text (by omega)) (by simp) ?_; by_cases s4 : textOk c.text
  rotate_left
  · simp [dc_neg s4]
    rw [Gd.Tr_child]; refine ⟨?_, ?_⟩
    · simp [hx _ (fun h => h.2.2.2.1) s4]
    · simp
      rw [Gd.Tr_child]; refine ⟨?_, ?_⟩
      · simp [hx _ (fun h => h.2.2.2.1) s4]
      · simp [hx _ (fun h => h.2.2.2.1) s4]
  have fin : ∀ u, usedCall c = u → vb (c = u) = vb (callOk c) := fun u h => by
    subst h; unfold vb
    congr 3
    apply propext
    exact ⟨fun h => hu.2 ⟨s1, s2, s3, s4, h⟩, fun h => (hu.1 h).2.2.2.2⟩
  simp [s4]; rw [Gd.Tr_child]; refine ⟨?_, ?_⟩
  · simp
    refine ACall.inline tt_ok Tryz.func225 (by kernel_rfl) rfl rfl rfl (Nat.le_of_ble_eq_true rfl) 20000 (fun w1 F => ?_); simp; intro g1 g2 g3; by_cases k1 : c.kind = 1
    · have h : onDoc 1 := by unfold onDoc; omega
      have hu : usedCall c = ⟨1, c.doc, 0, 0, 0, [], c.text⟩ := by simp [usedCall, k1, h]
      simp [k1]; refine ACall.pure (implOnDoc_c 1) (by simp) ?_; simp [h]; refine ACall.pure (implCallSame_c c ⟨1, c.doc, 0, 0, 0, [], c.text⟩ (by omega)) (by simp [Call.row, k1]) ?_; rw [fin _ hu]; simp
    by_cases k2 : c.kind = 2
    · have h : onDoc 2 := by unfold onDoc; omega
      have hu : usedCall c = ⟨2, c.doc, c.client, c.seq, c.n, c.o, []⟩ := by simp [usedCall, k2, h]
      simp [k2]; refine ACall.pure (implOnDoc_c 2) (by simp) ?_; simp [h]
      refine DrawT.introS eok mix [0, 1, 2, 3, 4, 5, 6, 7, 8, 10, 12, 14] [9, 11, 13, 15] (.child 9 [false, false, false, true, false, false, false, false, false, false, true, true] [true, true, true, false, true, true, true, true, true, true, false, false] (.child 11 [false, false, true, false, false, false, false, false, true, true, false, false] [true, true, false, false, true, true, true, true, false, false, false, false] (.child 13 [false, true, false, false, false, false, true, true, false, false, false, false] [true, false, false, false, true, true, false, false, false, false, false, false] (.child 15 [true, false, false, false, true, true, false, false, false, false, false, false] [false, false, false, false, false, false, false, false, false, false, false, false] (.leaf [false, false, false, false, false, false, false, false, false, false, false, false]) .stop) .stop) .stop) .stop) (by kernel_rfl) ?_
      simp
      try intros
      refine ACall.pure (implCallSame_c c ⟨2, c.doc, c.client, c.seq, c.n, c.o, []⟩ (by omega)) (by simp [Call.row, k2]) ?_; rw [fin _ hu]; simp
    by_cases k3 : c.kind = 3
    · have h : onDoc 3 := by unfold onDoc; omega
      have hu : usedCall c = ⟨3, c.doc, 0, 0, c.n, [], []⟩ := by simp [usedCall, k3, h]
      simp [k3]; refine ACall.pure (implOnDoc_c 3) (by simp) ?_; simp [h]; refine ACall.pure (implCallSame_c c ⟨3, c.doc, 0, 0, c.n, [], []⟩ (by omega)) (by simp [Call.row, k3]) ?_; rw [fin _ hu]; simp
    by_cases k4 : c.kind = 4
    · have h : onDoc 4 := by unfold onDoc; omega
      have hu : usedCall c = ⟨4, c.doc, 0, 0, 0, [], []⟩ := by simp [usedCall, k4, h]
      simp [k4]; refine ACall.pure (implOnDoc_c 4) (by simp) ?_; simp [h]; refine ACall.pure (implCallSame_c c ⟨4, c.doc, 0, 0, 0, [], []⟩ (by omega)) (by simp [Call.row, k4]) ?_; rw [fin _ hu]; simp
    by_cases k5 : c.kind = 5
    · have h : onDoc 5 := by unfold onDoc; omega
      have hu : usedCall c = ⟨5, c.doc, 0, 0, c.n, [], []⟩ := by simp [usedCall, k5, h]
      simp [k5]; refine ACall.pure (implOnDoc_c 5) (by simp) ?_; simp [h]; refine ACall.pure (implCallSame_c c ⟨5, c.doc, 0, 0, c.n, [], []⟩ (by omega)) (by simp [Call.row, k5]) ?_; rw [fin _ hu]; simp
    by_cases k6 : c.kind = 6
    · have h : ¬ onDoc 6 := by unfold onDoc; omega
      have hu : usedCall c = ⟨6, ⟨#[]⟩, c.client, 0, c.n, [], []⟩ := by simp [usedCall, k6, h]
      simp [k6]; refine ACall.pure (implOnDoc_c 6) (by simp) ?_; simp [dc_neg h]; refine DrawT.introS eok mix [0, 1, 2, 3, 4, 6] [5, 7] (.child 5 [false, true, false, false, true, true] [true, false, true, true, false, false] (.child 7 [true, false, true, true, false, false] [false, false, false, false, false, false] (.leaf [false, false, false, false, false, false]) .stop) .stop) (by kernel_rfl) ?_; simp
      try intros
      refine ACall.pure (implCallSame_c c ⟨6, ⟨#[]⟩, c.client, 0, c.n, [], []⟩ (by omega)) (by simp [Call.row, k6]) ?_; rw [fin _ hu]; simp
    by_cases k7 : c.kind = 7
    · have h : ¬ onDoc 7 := by unfold onDoc; omega
      have hu : usedCall c = ⟨7, ⟨#[]⟩, c.client, 0, 0, [], []⟩ := by simp [usedCall, k7, h]
      simp [k7]; refine ACall.pure (implOnDoc_c 7) (by simp) ?_; simp [dc_neg h]; refine ACall.pure (implCallSame_c c ⟨7, ⟨#[]⟩, c.client, 0, 0, [], []⟩ (by omega)) (by simp [Call.row, k7]) ?_; rw [fin _ hu]; simp
    have k8 : c.kind = 8 := by omega
    have h : ¬ onDoc 8 := by unfold onDoc; omega
    have hu : usedCall c = ⟨8, ⟨#[]⟩, 0, 0, 0, [], []⟩ := by simp [usedCall, k8, h]
    simp [k8]; refine ACall.pure (implOnDoc_c 8) (by simp) ?_; simp [dc_neg h]; refine ACall.pure (implCallSame_c c ⟨8, ⟨#[]⟩, 0, 0, 0, [], []⟩ (by omega)) (by simp [Call.row, k8]) ?_; rw [fin _ hu]; simp
  · simp
    rw [Gd.Tr_child]; refine ⟨?_, ?_⟩
    · simp
      refine ACall.inline tt_ok Tryz.func225 (by kernel_rfl) rfl rfl rfl (Nat.le_of_ble_eq_true rfl) 20000 (fun w1 F => ?_); simp; intro g1 g2 g3; by_cases k1 : c.kind = 1
      · have h : onDoc 1 := by unfold onDoc; omega
        have hu : usedCall c = ⟨1, c.doc, 0, 0, 0, [], c.text⟩ := by simp [usedCall, k1, h]
        simp [k1]; refine ACall.pure (implOnDoc_c 1) (by simp) ?_; simp [h]; refine ACall.pure (implCallSame_c c ⟨1, c.doc, 0, 0, 0, [], c.text⟩ (by omega)) (by simp [Call.row, k1]) ?_; rw [fin _ hu]; simp
      by_cases k2 : c.kind = 2
      · have h : onDoc 2 := by unfold onDoc; omega
        have hu : usedCall c = ⟨2, c.doc, c.client, c.seq, c.n, c.o, []⟩ := by simp [usedCall, k2, h]
        simp [k2]; refine ACall.pure (implOnDoc_c 2) (by simp) ?_; simp [h]
        refine DrawT.introS eok mix [0, 1, 2, 3, 4, 5, 6, 7, 8, 10, 12, 14] [9, 11, 13, 15] (.child 9 [false, false, false, true, false, false, false, false, false, false, true, true] [true, true, true, false, true, true, true, true, true, true, false, false] (.child 11 [false, false, true, false, false, false, false, false, true, true, false, false] [true, true, false, false, true, true, true, true, false, false, false, false] (.child 13 [false, true, false, false, false, false, true, true, false, false, false, false] [true, false, false, false, true, true, false, false, false, false, false, false] (.child 15 [true, false, false, false, true, true, false, false, false, false, false, false] [false, false, false, false, false, false, false, false, false, false, false, false] (.leaf [false, false, false, false, false, false, false, false, false, false, false, false]) .stop) .stop) .stop) .stop) (by kernel_rfl) ?_
        simp
        try intros
        refine ACall.pure (implCallSame_c c ⟨2, c.doc, c.client, c.seq, c.n, c.o, []⟩ (by omega)) (by simp [Call.row, k2]) ?_; rw [fin _ hu]; simp
      by_cases k3 : c.kind = 3
      · have h : onDoc 3 := by unfold onDoc; omega
        have hu : usedCall c = ⟨3, c.doc, 0, 0, c.n, [], []⟩ := by simp [usedCall, k3, h]
        simp [k3]; refine ACall.pure (implOnDoc_c 3) (by simp) ?_; simp [h]; refine ACall.pure (implCallSame_c c ⟨3, c.doc, 0, 0, c.n, [], []⟩ (by omega)) (by simp [Call.row, k3]) ?_; rw [fin _ hu]; simp
      by_cases k4 : c.kind = 4
      · have h : onDoc 4 := by unfold onDoc; omega
        have hu : usedCall c = ⟨4, c.doc, 0, 0, 0, [], []⟩ := by simp [usedCall, k4, h]
        simp [k4]; refine ACall.pure (implOnDoc_c 4) (by simp) ?_; simp [h]; refine ACall.pure (implCallSame_c c ⟨4, c.doc, 0, 0, 0, [], []⟩ (by omega)) (by simp [Call.row, k4]) ?_; rw [fin _ hu]; simp
      by_cases k5 : c.kind = 5
      · have h : onDoc 5 := by unfold onDoc; omega
        have hu : usedCall c = ⟨5, c.doc, 0, 0, c.n, [], []⟩ := by simp [usedCall, k5, h]
        simp [k5]; refine ACall.pure (implOnDoc_c 5) (by simp) ?_; simp [h]; refine ACall.pure (implCallSame_c c ⟨5, c.doc, 0, 0, c.n, [], []⟩ (by omega)) (by simp [Call.row, k5]) ?_; rw [fin _ hu]; simp
      by_cases k6 : c.kind = 6
      · have h : ¬ onDoc 6 := by unfold onDoc; omega
        have hu : usedCall c = ⟨6, ⟨#[]⟩, c.client, 0, c.n, [], []⟩ := by simp [usedCall, k6, h]
        simp [k6]; refine ACall.pure (implOnDoc_c 6) (by simp) ?_; simp [dc_neg h]; refine DrawT.introS eok mix [0, 1, 2, 3, 4, 6] [5, 7] (.child 5 [false, true, false, false, true, true] [true, false, true, true, false, false] (.child 7 [true, false, true, true, false, false] [false, false, false, false, false, false] (.leaf [false, false, false, false, false, false]) .stop) .stop) (by kernel_rfl) ?_; simp
        try intros
        refine ACall.pure (implCallSame_c c ⟨6, ⟨#[]⟩, c.client, 0, c.n, [], []⟩ (by omega)) (by simp [Call.row, k6]) ?_; rw [fin _ hu]; simp
      by_cases k7 : c.kind = 7
      · have h : ¬ onDoc 7 := by unfold onDoc; omega
        have hu : usedCall c = ⟨7, ⟨#[]⟩, c.client, 0, 0, [], []⟩ := by simp [usedCall, k7, h]
        simp [k7]; refine ACall.pure (implOnDoc_c 7) (by simp) ?_; simp [dc_neg h]; refine ACall.pure (implCallSame_c c ⟨7, ⟨#[]⟩, c.client, 0, 0, [], []⟩ (by omega)) (by simp [Call.row, k7]) ?_; rw [fin _ hu]; simp
      have k8 : c.kind = 8 := by omega
      have h : ¬ onDoc 8 := by unfold onDoc; omega
      have hu : usedCall c = ⟨8, ⟨#[]⟩, 0, 0, 0, [], []⟩ := by simp [usedCall, k8, h]
      simp [k8]; refine ACall.pure (implOnDoc_c 8) (by simp) ?_; simp [dc_neg h]; refine ACall.pure (implCallSame_c c ⟨8, ⟨#[]⟩, 0, 0, 0, [], []⟩ (by omega)) (by simp [Call.row, k8]) ?_; rw [fin _ hu]; simp
    · simp
      refine ACall.inline tt_ok Tryz.func225 (by kernel_rfl) rfl rfl rfl (Nat.le_of_ble_eq_true rfl) 20000 (fun w1 F => ?_); simp; intro g1 g2 g3; by_cases k1 : c.kind = 1
      · have h : onDoc 1 := by unfold onDoc; omega
        have hu : usedCall c = ⟨1, c.doc, 0, 0, 0, [], c.text⟩ := by simp [usedCall, k1, h]
        simp [k1]; refine ACall.pure (implOnDoc_c 1) (by simp) ?_; simp [h]; refine ACall.pure (implCallSame_c c ⟨1, c.doc, 0, 0, 0, [], c.text⟩ (by omega)) (by simp [Call.row, k1]) ?_; rw [fin _ hu]; simp
      by_cases k2 : c.kind = 2
      · have h : onDoc 2 := by unfold onDoc; omega
        have hu : usedCall c = ⟨2, c.doc, c.client, c.seq, c.n, c.o, []⟩ := by simp [usedCall, k2, h]
        simp [k2]; refine ACall.pure (implOnDoc_c 2) (by simp) ?_; simp [h]
        refine DrawT.introS eok mix [0, 1, 2, 3, 4, 5, 6, 7, 8, 10, 12, 14] [9, 11, 13, 15] (.child 9 [false, false, false, true, false, false, false, false, false, false, true, true] [true, true, true, false, true, true, true, true, true, true, false, false] (.child 11 [false, false, true, false, false, false, false, false, true, true, false, false] [true, true, false, false, true, true, true, true, false, false, false, false] (.child 13 [false, true, false, false, false, false, true, true, false, false, false, false] [true, false, false, false, true, true, false, false, false, false, false, false] (.child 15 [true, false, false, false, true, true, false, false, false, false, false, false] [false, false, false, false, false, false, false, false, false, false, false, false] (.leaf [false, false, false, false, false, false, false, false, false, false, false, false]) .stop) .stop) .stop) .stop) (by kernel_rfl) ?_
        simp
        try intros
        refine ACall.pure (implCallSame_c c ⟨2, c.doc, c.client, c.seq, c.n, c.o, []⟩ (by omega)) (by simp [Call.row, k2]) ?_; rw [fin _ hu]; simp
      by_cases k3 : c.kind = 3
      · have h : onDoc 3 := by unfold onDoc; omega
        have hu : usedCall c = ⟨3, c.doc, 0, 0, c.n, [], []⟩ := by simp [usedCall, k3, h]
        simp [k3]; refine ACall.pure (implOnDoc_c 3) (by simp) ?_; simp [h]; refine ACall.pure (implCallSame_c c ⟨3, c.doc, 0, 0, c.n, [], []⟩ (by omega)) (by simp [Call.row, k3]) ?_; rw [fin _ hu]; simp
      by_cases k4 : c.kind = 4
      · have h : onDoc 4 := by unfold onDoc; omega
        have hu : usedCall c = ⟨4, c.doc, 0, 0, 0, [], []⟩ := by simp [usedCall, k4, h]
        simp [k4]; refine ACall.pure (implOnDoc_c 4) (by simp) ?_; simp [h]; refine ACall.pure (implCallSame_c c ⟨4, c.doc, 0, 0, 0, [], []⟩ (by omega)) (by simp [Call.row, k4]) ?_; rw [fin _ hu]; simp
      by_cases k5 : c.kind = 5
      · have h : onDoc 5 := by unfold onDoc; omega
        have hu : usedCall c = ⟨5, c.doc, 0, 0, c.n, [], []⟩ := by simp [usedCall, k5, h]
        simp [k5]; refine ACall.pure (implOnDoc_c 5) (by simp) ?_; simp [h]; refine ACall.pure (implCallSame_c c ⟨5, c.doc, 0, 0, c.n, [], []⟩ (by omega)) (by simp [Call.row, k5]) ?_; rw [fin _ hu]; simp
      by_cases k6 : c.kind = 6
      · have h : ¬ onDoc 6 := by unfold onDoc; omega
        have hu : usedCall c = ⟨6, ⟨#[]⟩, c.client, 0, c.n, [], []⟩ := by simp [usedCall, k6, h]
        simp [k6]; refine ACall.pure (implOnDoc_c 6) (by simp) ?_; simp [dc_neg h]; refine DrawT.introS eok mix [0, 1, 2, 3, 4, 6] [5, 7] (.child 5 [false, true, false, false, true, true] [true, false, true, true, false, false] (.child 7 [true, false, true, true, false, false] [false, false, false, false, false, false] (.leaf [false, false, false, false, false, false]) .stop) .stop) (by kernel_rfl) ?_; simp
        try intros
        refine ACall.pure (implCallSame_c c ⟨6, ⟨#[]⟩, c.client, 0, c.n, [], []⟩ (by omega)) (by simp [Call.row, k6]) ?_; rw [fin _ hu]; simp
      by_cases k7 : c.kind = 7
      · have h : ¬ onDoc 7 := by unfold onDoc; omega
        have hu : usedCall c = ⟨7, ⟨#[]⟩, c.client, 0, 0, [], []⟩ := by simp [usedCall, k7, h]
        simp [k7]; refine ACall.pure (implOnDoc_c 7) (by simp) ?_; simp [dc_neg h]; refine ACall.pure (implCallSame_c c ⟨7, ⟨#[]⟩, c.client, 0, 0, [], []⟩ (by omega)) (by simp [Call.row, k7]) ?_; rw [fin _ hu]; simp
      have k8 : c.kind = 8 := by omega
      have h : ¬ onDoc 8 := by unfold onDoc; omega
      have hu : usedCall c = ⟨8, ⟨#[]⟩, 0, 0, 0, [], []⟩ := by simp [usedCall, k8, h]
      simp [k8]; refine ACall.pure (implOnDoc_c 8) (by simp) ?_; simp [dc_neg h]; refine ACall.pure (implCallSame_c c ⟨8, ⟨#[]⟩, 0, 0, 0, [], []⟩ (by omega)) (by simp [Call.row, k8]) ?_; rw [fin _ hu]; simp
theorem specCallOk_c (c : Call) (hl : nCall c ≤ 2 ^ 36) : PureC Tryz.prog 131 [.agg c.row] (.one (.c (vb (callOk c)) 1)) := by
  refine PureC.intro' tt_ok Tryz.func131 (by kernel_rfl) rfl rfl rfl (Nat.le_of_ble_eq_true rfl) (fun w0 base => ?_); have hx : ∀ p : Prop, (callOk c → p) → ¬ p → dc (callOk c) = false := fun p h1 h2 => dc_neg (fun h => h2 (h1 h))
  unfold nCall at hl; simp [Call.row]; intro b1; refine ACall.pure (specKind_c c.kind) (by simp) ?_; by_cases s1 : 1 ≤ c.kind ∧ c.kind ≤ 8
  rotate_left
  · simp [dc_neg s1, hx _ (fun h => h.1) s1]
  simp [s1]; by_cases s2 : c.doc.size ≤ 8
  rotate_left
  · have s2' : 8 < (c.doc.size : Int) := by omega
    simp [s2', hx _ (fun h => h.2.1) s2]
  have s2' : ¬ 8 < (c.doc.size : Int) := by omega
  simp [s2']; refine ACall.pure (specPartsOk_c c.o (by omega)) (by simp) ?_; by_cases s3 : partsOk c.o
  rotate_left
  · simp [dc_neg s3, hx _ (fun h => h.2.2.1) s3]
  simp [s3]; refine ACall.pure (specTextOk_c c.text (by omega)) (by simp) ?_; by_cases s4 : textOk c.text
  rotate_left
  · simp [dc_neg s4, hx _ (fun h => h.2.2.2.1) s4]
  simp [s4]; refine ACall.pure (specOnDoc_c c.kind) (by simp) ?_
  clear hx
  obtain ⟨kind, doc, client, seq, n, o, text⟩ := c; simp only at s1 s2 s3 s4 s2' ⊢
  have ho : (0 < o.length) = ¬ o = [] := by
    apply propext
    cases o <;> simp
  have ht : (0 < text.length) = ¬ text = [] := by
    apply propext
    cases text <;> simp
  have hk : kind = 1 ∨ kind = 2 ∨ kind = 3 ∨ kind = 4 ∨ kind = 5 ∨ kind = 6 ∨ kind = 7 ∨ kind = 8 := by omega
  unfold vb; rcases hk with rfl | rfl | rfl | rfl | rfl | rfl | rfl | rfl
  · have hd : onDoc 1 := by unfold onDoc; omega
    have e : dc (callOk ⟨1, doc, client, seq, n, o, text⟩) = dc (o = [] ∧ seq = 0 ∧ client = 0 ∧ n = 0) := by
      congr 1; apply propext; unfold callOk
      constructor
      · rintro ⟨-, -, -, -, g1, g2, g3, g4, g5⟩; simp_all
      · intro g; refine ⟨s1, s2, s3, s4, ?_, ?_, ?_, ?_, ?_⟩ <;> simp_all
    rw [e]; simp [hd, ho]; by_cases e0 : o = [] <;> by_cases e1 : seq = 0 <;> by_cases e2 : client = 0 <;> by_cases e3 : n = 0 <;> simp [e0, e1, e2, e3, ho]
  · have hd : onDoc 2 := by unfold onDoc; omega
    have e : dc (callOk ⟨2, doc, client, seq, n, o, text⟩) = dc (text = []) := by
      congr 1; apply propext; unfold callOk
      constructor
      · rintro ⟨-, -, -, -, g1, g2, g3, g4, g5⟩; simp_all
      · intro g; refine ⟨s1, s2, s3, s4, ?_, ?_, ?_, ?_, ?_⟩ <;> simp_all
    rw [e]; simp [hd, ht]; by_cases e0 : text = [] <;> simp [e0, ht]
  · have hd : onDoc 3 := by unfold onDoc; omega
    have e : dc (callOk ⟨3, doc, client, seq, n, o, text⟩) = dc (text = [] ∧ o = [] ∧ seq = 0 ∧ client = 0) := by
      congr 1; apply propext; unfold callOk
      constructor
      · rintro ⟨-, -, -, -, g1, g2, g3, g4, g5⟩; simp_all
      · intro g; refine ⟨s1, s2, s3, s4, ?_, ?_, ?_, ?_, ?_⟩ <;> simp_all
    rw [e]; simp [hd, ht]; by_cases e0 : text = [] <;> by_cases e1 : o = [] <;> by_cases e2 : seq = 0 <;> by_cases e3 : client = 0 <;> simp [e0, e1, e2, e3, ho, ht]
  · have hd : onDoc 4 := by unfold onDoc; omega
    have e : dc (callOk ⟨4, doc, client, seq, n, o, text⟩) = dc (text = [] ∧ o = [] ∧ seq = 0 ∧ client = 0 ∧ n = 0) := by
      congr 1; apply propext; unfold callOk
      constructor
      · rintro ⟨-, -, -, -, g1, g2, g3, g4, g5⟩; simp_all
      · intro g; refine ⟨s1, s2, s3, s4, ?_, ?_, ?_, ?_, ?_⟩ <;> simp_all
    rw [e]; simp [hd, ht]; by_cases e0 : text = [] <;> by_cases e1 : o = [] <;> by_cases e2 : seq = 0 <;> by_cases e3 : client = 0 <;> by_cases e4 : n = 0 <;> simp [e0, e1, e2, e3, e4, ho, ht]
  · have hd : onDoc 5 := by unfold onDoc; omega
    have e : dc (callOk ⟨5, doc, client, seq, n, o, text⟩) = dc (text = [] ∧ o = [] ∧ seq = 0 ∧ client = 0) := by
      congr 1; apply propext; unfold callOk
      constructor
      · rintro ⟨-, -, -, -, g1, g2, g3, g4, g5⟩; simp_all
      · intro g; refine ⟨s1, s2, s3, s4, ?_, ?_, ?_, ?_, ?_⟩ <;> simp_all
    rw [e]; simp [hd, ht]; by_cases e0 : text = [] <;> by_cases e1 : o = [] <;> by_cases e2 : seq = 0 <;> by_cases e3 : client = 0 <;> simp [e0, e1, e2, e3, ho, ht]
  · have hd : ¬ onDoc 6 := by unfold onDoc; omega
    have e : dc (callOk ⟨6, doc, client, seq, n, o, text⟩) = dc (doc = ⟨#[]⟩ ∧ text = [] ∧ o = [] ∧ seq = 0) := by
      congr 1; apply propext; unfold callOk
      constructor
      · rintro ⟨-, -, -, -, g1, g2, g3, g4, g5⟩; simp_all
      · intro g; refine ⟨s1, s2, s3, s4, ?_, ?_, ?_, ?_, ?_⟩ <;> simp_all
    rw [e]; simp [dc_neg hd]; by_cases e0 : doc = ⟨#[]⟩ <;> by_cases e1 : text = [] <;> by_cases e2 : o = [] <;> by_cases e3 : seq = 0 <;> simp [e0, e1, e2, e3, ho, ht]
  · have hd : ¬ onDoc 7 := by unfold onDoc; omega
    have e : dc (callOk ⟨7, doc, client, seq, n, o, text⟩) = dc (doc = ⟨#[]⟩ ∧ text = [] ∧ o = [] ∧ seq = 0 ∧ n = 0) := by
      congr 1; apply propext; unfold callOk
      constructor
      · rintro ⟨-, -, -, -, g1, g2, g3, g4, g5⟩; simp_all
      · intro g; refine ⟨s1, s2, s3, s4, ?_, ?_, ?_, ?_, ?_⟩ <;> simp_all
    rw [e]; simp [dc_neg hd]; by_cases e0 : doc = ⟨#[]⟩ <;> by_cases e1 : text = [] <;> by_cases e2 : o = [] <;> by_cases e3 : seq = 0 <;> by_cases e4 : n = 0 <;> simp [e0, e1, e2, e3, e4, ho, ht]
  · have hd : ¬ onDoc 8 := by unfold onDoc; omega
    have e : dc (callOk ⟨8, doc, client, seq, n, o, text⟩) = dc (doc = ⟨#[]⟩ ∧ text = [] ∧ o = [] ∧ seq = 0 ∧ client = 0 ∧ n = 0) := by
      congr 1; apply propext; unfold callOk
      constructor
      · rintro ⟨-, -, -, -, g1, g2, g3, g4, g5⟩; simp_all
      · intro g; refine ⟨s1, s2, s3, s4, ?_, ?_, ?_, ?_, ?_⟩ <;> simp_all
    rw [e]; simp [dc_neg hd]; by_cases e0 : doc = ⟨#[]⟩ <;> by_cases e1 : text = [] <;> by_cases e2 : o = [] <;> by_cases e3 : seq = 0 <;> by_cases e4 : client = 0 <;> by_cases e5 : n = 0 <;> simp [e0, e1, e2, e3, e4, e5, ho, ht]
end Go.Proofs.YtdfdabjdfmamgaaGreat

namespace Go.Proofs.YtdfdabjdfmamgaaGreat
open Go.AM
set_option maxRecDepth 20000
set_option maxHeartbeats 6400000
theorem fDo_no {h : Hub} {c : Call} (n : ¬ (hubOk h ∧ callOk c)) : fDo h c = (h, codeA 1) := by unfold fDo; rw [if_neg n]
theorem fDo_1 {h : Hub} {c : Call} (y : hubOk h ∧ callOk c) (k : c.kind = 1) : fDo h c = if (fHubOpen h c.doc c.text).2 = 0 then ((fHubOpen h c.doc c.text).1, codeA 0) else (h, codeA (fHubOpen h c.doc c.text).2) := by unfold fDo; rw [if_pos y, if_pos k]
theorem fDo_2 {h : Hub} {c : Call} (y : hubOk h ∧ callOk c) (k : c.kind = 2) : fDo h c = if (fHubSubmit h c.doc c.client c.seq c.n c.o).2.2 = 0 then ((fHubSubmit h c.doc c.client c.seq c.n c.o).1, ⟨0, (fHubSubmit h c.doc c.client c.seq c.n c.o).2.1, [], []⟩) else (h, codeA (fHubSubmit h c.doc c.client c.seq c.n c.o).2.2) := by
  unfold fDo; rw [if_pos y, if_neg (by omega), if_pos k]
theorem fDo_34 {h : Hub} {c : Call} (y : hubOk h ∧ callOk c) (k : c.kind = 3 ∨ c.kind = 4) : fDo h c = (h, fLook h c) := by unfold fDo; rw [if_pos y, if_neg (by omega), if_neg (by omega), if_pos k]
theorem fDo_5 {h : Hub} {c : Call} (y : hubOk h ∧ callOk c) (k : c.kind = 5) : fDo h c = if (fHubSubscribe h c.doc c.n).2.2 = 0 then ((fHubSubscribe h c.doc c.n).1, ⟨0, (fHubSubscribe h c.doc c.n).2.1, [], []⟩) else (h, codeA (fHubSubscribe h c.doc c.n).2.2) := by
  unfold fDo; rw [if_pos y, if_neg (by omega), if_neg (by omega), if_neg (by omega), if_pos k]
theorem fDo_6 {h : Hub} {c : Call} (y : hubOk h ∧ callOk c) (k : c.kind = 6) : fDo h c = if (fHubPoll h c.client c.n).2.2 = 0 then ((fHubPoll h c.client c.n).1, ⟨0, 0, [], (fHubPoll h c.client c.n).2.1⟩) else (h, codeA (fHubPoll h c.client c.n).2.2) := by
  unfold fDo; rw [if_pos y, if_neg (by omega), if_neg (by omega), if_neg (by omega), if_neg (by omega), if_pos k]
theorem fDo_7 {h : Hub} {c : Call} (y : hubOk h ∧ callOk c) (k : c.kind = 7) : fDo h c = if (fHubResync h c.client).2.2.2 = 0 then ((fHubResync h c.client).1, ⟨0, (fHubResync h c.client).2.2.1, (fHubResync h c.client).2.1, []⟩) else (h, codeA (fHubResync h c.client).2.2.2) := by
  unfold fDo; rw [if_pos y, if_neg (by omega), if_neg (by omega), if_neg (by omega), if_neg (by omega), if_neg (by omega), if_pos k]
theorem fDo_8 {h : Hub} {c : Call} (y : hubOk h ∧ callOk c) (k : c.kind = 8) : fDo h c = if (fHubShut h).2 = 0 then ((fHubShut h).1, codeA 0) else (h, codeA (fHubShut h).2) := by
  unfold fDo; rw [if_pos y, if_neg (by omega), if_neg (by omega), if_neg (by omega), if_neg (by omega), if_neg (by omega), if_neg (by omega)]
theorem specDo_i (h : Hub) (hl : nHub h ≤ 2 ^ 28) (c : Call) (hc : nCall c ≤ 2 ^ 28) : PureC Tryz.prog 321 [.agg h.row, .agg c.row] (.tup [.agg (fDo h c).1.res, .agg (fDo h c).2.res]) := by
  refine PureC.intro' tt_ok Tryz.func321 (by kernel_rfl) rfl rfl rfl (Nat.le_of_ble_eq_true rfl) (fun w0 base => ?_); have hcn : c.doc.size ≤ 2 ^ 28 ∧ nL nPart c.o ≤ 2 ^ 28 ∧ c.text.length ≤ 2 ^ 28 := by unfold nCall at hc; omega
  simp [Hub.row, Call.row]; intro b2 b3 b4 b5; refine ACall.pure (specHubOk_c h (by omega)) (by simp [Hub.row]) ?_; by_cases c1 : hubOk h
  rotate_left
  · simp [dc_neg c1]
    refine ACall.pure (l11Copy_c h (by omega)) (by simp [Hub.row]) ?_; simp [Hub.res, fDo_no (fun h => c1 h.1), Answer.res, codeA]
  simp [c1]; refine ACall.pure (specCallOk_c c (by omega)) (by simp [Call.row]) ?_; by_cases c2 : callOk c
  rotate_left
  · simp [dc_neg c2]
    refine ACall.pure (l11Copy_c h (by omega)) (by simp [Hub.row]) ?_; simp [Hub.res, fDo_no (fun h => c2 h.2), Answer.res, codeA]
  simp [c2]; intro b6 b23 b24; have hk : c.kind = 1 ∨ c.kind = 2 ∨ (c.kind = 3 ∨ c.kind = 4) ∨ c.kind = 5 ∨ c.kind = 6 ∨ c.kind = 7 ∨ c.kind = 8 := by have := c2.1; omega
  rcases hk with k | k | k | k | k | k | k
  · -- kind 1
    have hat := fDo_1 ⟨c1, c2⟩ k; have hd := specHubOpen_c h (by omega) c.doc hcn.1 c.text hcn.2.2; generalize fHubOpen h c.doc c.text = R at hd hat; obtain ⟨X, code⟩ := R; simp only at hd hat; simp [k]; refine ACall.pure hd (by simp [Hub.row]) ?_; simp [Hub.res]; intros; by_cases z : code = 0
    · rw [if_pos z] at hat
      simp [z, hat, Answer.res, codeA]
    · rw [if_neg z] at hat
      simp [z]; refine ACall.pure (l11Copy_c h (by omega)) (by simp [Hub.row]) ?_; simp [Hub.res, hat, Answer.res, codeA]
  · -- kind 2
    have hat := fDo_2 ⟨c1, c2⟩ k; have hd := specHubSubmit_c h (by omega) c.doc c.client c.seq c.n c.o (by omega); generalize fHubSubmit h c.doc c.client c.seq c.n c.o = R at hd hat; obtain ⟨X, rev, code⟩ := R; simp only at hd hat; simp [k]; refine ACall.pure hd (by simp [Hub.row]) ?_; simp [Hub.res]; intros; by_cases z : code = 0
    · rw [if_pos z] at hat
      simp [z, hat, Answer.res]
    · rw [if_neg z] at hat
      simp [z]; refine ACall.pure (l11Copy_c h (by omega)) (by simp [Hub.row]) ?_; simp [Hub.res, hat, Answer.res, codeA]
  · -- kinds 3, 4
    have hat := fDo_34 ⟨c1, c2⟩ k; have hd := specRead_c h (by omega) c1 c; generalize fLook h c = A at hd hat; have k1 : ¬ c.kind = 1 := by omega
    have k2 : ¬ c.kind = 2 := by omega
    have fin : ∀ _ : c.kind = 3 ∨ (¬ c.kind = 3 ∧ c.kind = 4), True := fun _ => trivial
    rcases k with k | k
    · simp [k]
      refine DrawT.introS eok mix [0, 2, 3] [1, 4, 5, 6] (.child 1 [false, false, true] [true, true, false] (.child 4 [true, true, false] [false, false, false] (.child 5 [false, false, false] [false, false, false] (.child 6 [false, false, false] [false, false, false] (.leaf [false, false, false]) .stop) .stop) .stop) .stop) (by kernel_rfl) ?_; simp
      try intros
      refine ACall.pure (l11Copy_c h (by omega)) (by simp [Hub.row]) ?_; simp [Hub.res]
      try intros
      refine ACall.pure (hd) (by simp [Hub.row, Call.row, k]) ?_; simp [Answer.res]
      try intros
      rw [hat]; simp
    · simp [k]
      refine DrawT.introS eok mix [0, 2, 3] [1, 4, 5, 6] (.child 1 [false, false, true] [true, true, false] (.child 4 [true, true, false] [false, false, false] (.child 5 [false, false, false] [false, false, false] (.child 6 [false, false, false] [false, false, false] (.leaf [false, false, false]) .stop) .stop) .stop) .stop) (by kernel_rfl) ?_; simp
      try intros
      refine ACall.pure (l11Copy_c h (by omega)) (by simp [Hub.row]) ?_; simp [Hub.res]
      try intros
      refine ACall.pure (hd) (by simp [Hub.row, Call.row, k]) ?_; simp [Answer.res]
      try intros
      rw [hat]; simp
  · -- kind 5
    have hat := fDo_5 ⟨c1, c2⟩ k; have hd := specHubSubscribe_c h (by omega) c.doc c.n; generalize fHubSubscribe h c.doc c.n = R at hd hat; obtain ⟨X, rev, code⟩ := R; simp only at hd hat; simp [k]; refine ACall.pure hd (by simp [Hub.row]) ?_; simp [Hub.res]; intros; by_cases z : code = 0
    · rw [if_pos z] at hat
      simp [z, hat, Answer.res]
    · rw [if_neg z] at hat
      simp [z]; refine ACall.pure (l11Copy_c h (by omega)) (by simp [Hub.row]) ?_; simp [Hub.res, hat, Answer.res, codeA]
  · -- kind 6
    have hat := fDo_6 ⟨c1, c2⟩ k; have hd := specHubPoll_c h (by omega) c.client c.n; generalize fHubPoll h c.client c.n = R at hd hat; obtain ⟨X, list, code⟩ := R; simp only at hd hat; simp [k]; refine ACall.pure hd (by simp [Hub.row]) ?_; simp [Hub.res]; intros; by_cases z : code = 0
    · rw [if_pos z] at hat
      simp [z, hat, Answer.res]
    · rw [if_neg z] at hat
      simp [z]; refine ACall.pure (l11Copy_c h (by omega)) (by simp [Hub.row]) ?_; simp [Hub.res, hat, Answer.res, codeA]
  · -- kind 7
    have hat := fDo_7 ⟨c1, c2⟩ k; have hd := specHubResync_c h (by omega) c.client; generalize fHubResync h c.client = R at hd hat; obtain ⟨X, text, rev, code⟩ := R; simp only at hd hat; simp [k]; refine ACall.pure hd (by simp [Hub.row]) ?_; simp [Hub.res]; intros; by_cases z : code = 0
    · rw [if_pos z] at hat
      simp [z, hat, Answer.res]
    · rw [if_neg z] at hat
      simp [z]; refine ACall.pure (l11Copy_c h (by omega)) (by simp [Hub.row]) ?_; simp [Hub.res, hat, Answer.res, codeA]
  · -- kind 8
    have hat := fDo_8 ⟨c1, c2⟩ k; have hd := specHubShut_c h (by omega); generalize fHubShut h = R at hd hat; obtain ⟨X, code⟩ := R; simp only at hd hat; simp [k]; refine ACall.pure hd (by simp [Hub.row]) ?_; simp [Hub.res]; intros; by_cases z : code = 0
    · rw [if_pos z] at hat
      simp [z, hat, Answer.res, codeA]
    · rw [if_neg z] at hat
      simp [z]; refine ACall.pure (l11Copy_c h (by omega)) (by simp [Hub.row]) ?_; simp [Hub.res, hat, Answer.res, codeA]
end Go.Proofs.YtdfdabjdfmamgaaGreat

namespace Go.Proofs.YtdfdabjdfmamgaaGreat
open Go.AM
set_option maxRecDepth 20000
set_option maxHeartbeats 1600000
theorem specEntrySame_c (p q : Entry) (hl : nEntry p ≤ 2 ^ 40) : PureC Tryz.prog 274 [.agg p.row, .agg q.row] (.one (.c (vb (p = q)) 1)) := by
  refine PureC.intro' tt_ok Tryz.func274 (by kernel_rfl) rfl rfl rfl (Nat.le_of_ble_eq_true rfl) (fun w0 base => ?_); obtain ⟨k1, n1, s1⟩ := p; obtain ⟨k2, n2, s2⟩ := q; simp [Entry.row]; intro b1 b2; by_cases h1 : k1 = k2
  · by_cases h2 : n1 = n2
    · simp [h1, h2]
      refine ACall.pure (specOpSame_c' s1 s2 hl) (by simp) ?_; simp
    · simp [h1, h2]
  · simp [h1]
theorem implEntrySame_c (p q : Entry) (hl : nEntry p ≤ 2 ^ 40) : PureC Tryz.prog 278 [.agg p.row, .agg q.row] (.one (.c (vb (p = q)) 1)) := by
  refine PureC.intro' tt_ok Tryz.func278 (by kernel_rfl) rfl rfl rfl (Nat.le_of_ble_eq_true rfl) (fun w0 base => ?_); obtain ⟨k1, n1, s1⟩ := p; obtain ⟨k2, n2, s2⟩ := q; simp [Entry.row]; intro b1 b2; by_cases h1 : k1 = k2
  · by_cases h2 : n1 = n2
    · simp [h1, h2]
      refine ACall.pure (implOpSame_c s1 s2 hl) (by simp) ?_; simp
    · simp [h1, h2]
  · simp [h1]
theorem equalFuncEntry_c (a b : List Entry) (hs : nL nEntry a ≤ 2 ^ 40) : PureC Tryz.prog 277 [.c (.s (a.map Entry.row)), .c (.s (b.map Entry.row)), .c (.v (.func (.func 278) #[] #[]))] (.one (.c (vb (a = b)) 1)) := by
  have hl := nL_len hs; refine PureC.intro' tt_ok Tryz.func277 (by kernel_rfl) rfl rfl rfl (Nat.le_of_ble_eq_true rfl) (fun w0 base => ?_); by_cases h : a.length = b.length
  · simp [h]
    refine LoopT.intro eok (fun i : Nat => i ≤ a.length ∧ a.take i = b.take i) (fun i => ⟨32, 0, [(17, .v (.int .i64 i)), (16, .v (.int .i64 b.length)), (15, .ro (a.map Entry.row)), (2, .v (.func (.func 278) #[] #[])), (1, .ro (b.map Entry.row))], []⟩) (fun i => a.length - i) 0 (by simp) (by simp) (fun i hi => ?_); by_cases hlt : i < a.length
    · have hlt' : i < b.length := by omega
      simp [hlt, hlt', Entry.row]; intro b1 b2; refine ACall.pure (implEntrySame_c a[i] b[i] (nL_mem hs (List.getElem_mem hlt))) (by simp [Entry.row]) ?_; simp; refine Br.mk (fun h1 => ?_) (fun h1 => ?_)
      · simp
        exact ⟨i + 1, ⟨by omega, take_next hlt hlt' hi.2 (of_yes h1)⟩, by omega, i64_suc (by omega)⟩
      · simp [dc_no]
        exact ne_at hlt hlt' (of_no h1)
    · have hlt' : ¬ i < b.length := by omega
      simp [hlt', dc_yes]; exact take_all (by omega) (by omega) hi.2
  · have hz : ¬ (a.length : Int) = b.length := by omega
    simp [hz, dc_no]; exact fun h2 => absurd (by rw [h2]) h
theorem implAnswerSame_c (p q : Answer) (hl : nAnswer p ≤ 2 ^ 40) : PureC Tryz.prog 199 [.agg p.row, .agg q.row] (.one (.c (vb (p = q)) 1)) := by
  refine PureC.intro' tt_ok Tryz.func199 (by kernel_rfl) rfl rfl rfl (Nat.le_of_ble_eq_true rfl) (fun w0 base => ?_); obtain ⟨n1, f1, t1, l1⟩ := p; obtain ⟨n2, f2, t2, l2⟩ := q; unfold nAnswer at hl; simp only at hl; simp [Answer.row]; intro b1 b2; by_cases h1 : n1 = n2
  rotate_left
  · simp [h1]
  by_cases h2 : f1 = f2
  rotate_left
  · simp [h1, h2]
  simp [h1, h2]; refine ACall.pure (slEqInt_c t1 t2 (by omega)) (by simp) ?_; by_cases h3 : t1 = t2
  rotate_left
  · simp [h3]
  simp [h3]; refine ACall.pure (equalFuncEntry_c l1 l2 (by omega)) (by simp) ?_; simp
theorem specAnswerSame_c (p q : Answer) (hl : nAnswer p ≤ 2 ^ 40) : PureC Tryz.prog 194 [.agg p.row, .agg q.row] (.one (.c (vb (p = q)) 1)) := by
  refine PureC.intro' tt_ok Tryz.func194 (by kernel_rfl) rfl rfl rfl (Nat.le_of_ble_eq_true rfl) (fun w0 base => ?_); obtain ⟨n1, f1, t1, l1⟩ := p; obtain ⟨n2, f2, t2, l2⟩ := q; unfold nAnswer at hl; simp only at hl; simp [Answer.row]; intro b1 b2; by_cases h1 : n1 = n2
  rotate_left
  · simp [h1]
  by_cases h2 : f1 = f2
  rotate_left
  · simp [h1, h2]
  simp [h1, h2]; refine ACall.pure (signsSame_c t1 t2 (by omega)) (by simp) ?_; by_cases h3 : t1 = t2
  rotate_left
  · simp [h3]
  subst h3; by_cases h4 : l1.length = l2.length
  rotate_left
  · have h42 : ¬ (l1.length : Int) = l2.length := by omega
    have h43 : ¬ l1 = l2 := fun h => h4 (by rw [h])
    simp [h42, h43]
  simp [h4]
  refine LoopT.intro eok (fun i : Nat => i ≤ l1.length ∧ l1.take i = l2.take i) (fun i => ⟨53, 0, [(2, .p 32 b1 0), (3, .p 48 b2 0), (39, .v (.int .i64 i)), (38, .v (.int .i64 l2.length)), (37, .ro (l1.map Entry.row))],
    [(32, .vars b1 141 [.v (.int .i64 n2), .v (.int .i64 f2), .ro (t1.map intR), .ro (l1.map Entry.row)]), (48, .vars b2 141 [.v (.int .i64 n2), .v (.int .i64 f2), .ro (t1.map intR), .ro (l2.map Entry.row)])]⟩) (fun i => l1.length - i) 0 (by simp) (by simp) (fun i hi => ?_)
  by_cases hlt : i < l1.length
  · have hlt' : i < l2.length := by omega
    have hll := nL_len (f := nEntry) (B := 2 ^ 40) (l := l1) (by omega); have hm := nL_mem (f := nEntry) (B := 2 ^ 40) (l := l1) (by omega) (List.getElem_mem hlt); simp [hlt, hlt', Entry.row]; intro b6; refine DrawT.quiet eok mix (by kernel_rfl) ?_; simp [hlt', Entry.row]; refine ⟨_, _, specEntrySame_c l1[i] l2[i] hm, by simp [Entry.row], ?_⟩; simp; by_cases h6 : l1[i] = l2[i]
    · simp [h6]
      exact ⟨i + 1, ⟨by omega, take_next hlt hlt' hi.2 h6⟩, by omega, i64_suc (by omega)⟩
    · have h7 := ne_at hlt hlt' h6
      simp [h6, h7]
  have hlt' : ¬ i < l2.length := by omega
  have hll := take_all (by omega) h4 hi.2; subst hll; simp [hlt']
end Go.Proofs.YtdfdabjdfmamgaaGreat

namespace Go.Proofs.YtdfdabjdfmamgaaGreat
open Go.AM
set_option maxRecDepth 20000
set_option maxHeartbeats 1600000
theorem implFnv_c (s : ByteArray) (hl : s.size ≤ 2 ^ 40) : PureC Tryz.prog 200 [.c (.v (.string s))] (.one (.c (vi (fnv s)) 1)) := by
  refine PureC.intro' tt_ok Tryz.func200 (by kernel_rfl) rfl rfl rfl (Nat.le_of_ble_eq_true rfl) (fun w0 base => ?_); simp; refine LoopT.intro eok (fun i : Nat => i ≤ s.size) (fun i => ⟨20, 0, [(4, .v (.int .i64 i)), (3, .v (.int .i64 (fnvTo s i))), (0, .v (.string s))], []⟩) (fun i => s.size - i) 0 (by simp) (by simp [fnvTo]) (fun i hi => ?_); by_cases hlt : i < s.size
  · have e := fnvTo_suc hlt
    unfold fnvStep at e; have ec : Go.IntKind.i64.wrap (s[i].toNat : Int) = s[i].toNat := i64_nat (by have := s[i].toNat_lt; omega); simp [hlt, ec]; exact ⟨i + 1, by omega, by omega, i64_suc (by omega), e.symm⟩
  · have e : fnvTo s i = fnv s := by unfold fnv; congr 1; omega
    simp [hlt, e]
theorem specFnv_c (s : ByteArray) (hl : s.size ≤ 2 ^ 40) : PureC Tryz.prog 275 [.c (.v (.string s))] (.one (.c (vi (fnv s)) 1)) := by
  refine PureC.intro' tt_ok Tryz.func275 (by kernel_rfl) rfl rfl rfl (Nat.le_of_ble_eq_true rfl) (fun w0 base => ?_); simp; refine LoopT.intro eok (fun i : Nat => i ≤ s.size) (fun i => ⟨20, 0, [(4, .v (.int .i64 i)), (3, .v (.int .i64 (fnvTo s i))), (0, .v (.string s))], []⟩) (fun i => s.size - i) 0 (by simp) (by simp [fnvTo]) (fun i hi => ?_); by_cases hlt : i < s.size
  · have e := fnvTo_suc hlt
    unfold fnvStep at e; have ec : Go.IntKind.i64.wrap (s[i].toNat : Int) = s[i].toNat := i64_nat (by have := s[i].toNat_lt; omega); simp [hlt, ec]; exact ⟨i + 1, by omega, by omega, i64_suc (by omega), e.symm⟩
  · have e : fnvTo s i = fnv s := by unfold fnv; congr 1; omega
    simp [hlt, e]
theorem implStripe_c (s : ByteArray) (hl : s.size ≤ 2 ^ 40) (n : Nat) (h1 : 1 ≤ n) (hn : n ≤ 2 ^ 40) : PureC Tryz.prog 108 [.c (.v (.string s)), .c (vi n)] (.one (.c (vi (stripe s n)) 1)) := by
  refine PureC.intro' tt_ok Tryz.func108 (by kernel_rfl) rfl rfl rfl (Nat.le_of_ble_eq_true rfl) (fun w0 base => ?_); have e := (stripe_eq s h1).1; have c1 : ¬ (n : Int) < 1 := by omega
  have c2 : ¬ (n : Int) = 0 := by omega
  have c3 : ¬ n = 0 := by omega
  simp [c1]; refine ACall.pure (implFnv_c s hl) (by simp) ?_; simp [c3, e]
theorem specStripe_c (s : ByteArray) (hl : s.size ≤ 2 ^ 40) (n : Nat) (h1 : 1 ≤ n) (hn : n ≤ 2 ^ 40) : PureC Tryz.prog 196 [.c (.v (.string s)), .c (vi n)] (.one (.c (vi (stripe s n)) 1)) := by
  refine PureC.intro' tt_ok Tryz.func196 (by kernel_rfl) rfl rfl rfl (Nat.le_of_ble_eq_true rfl) (fun w0 base => ?_); have e := (stripe_eq s h1).1; have c1 : ¬ (n : Int) < 1 := by omega
  have c2 : ¬ (n : Int) = 0 := by omega
  have c3 : ¬ n = 0 := by omega
  simp [c1]; refine ACall.pure (specFnv_c s hl) (by simp) ?_; simp [c3, e]
end Go.Proofs.YtdfdabjdfmamgaaGreat

