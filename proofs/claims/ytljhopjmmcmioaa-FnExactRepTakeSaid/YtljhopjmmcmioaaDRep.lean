import Derived.Test.YtljhopjmmcmioaaDInt
import Derived.Test.YtljhopjmmcmioaaDPart
namespace Go.Proofs.Ytljhopjmmcmioaa
open Go.AM
set_option maxRecDepth 20000
theorem toRep_c (x : Rep) (h : nRep x ≤ 2 ^ 40) : PureC Try.prog 13 [.agg x.row] (.one (.agg x.res)) := by
  refine PureC.intro' tt_ok Try.func13 (by kernel_rfl) rfl rfl rfl (Nat.le_of_ble_eq_true rfl) (fun w0 base => ?_)
  unfold nRep at h
  simp [Rep.row, Rep.res]
  try intros
  refine ACall.pure (toIntS_c x.text (by omega)) (by simp) ?_
  simp
  try intros
  refine ACall.pure (toPartS_c x.sent (by omega)) (by simp) ?_
  simp
  try intros
  refine ACall.pure (toPartS_c x.buf (by omega)) (by simp) ?_
  simp
  try intros

theorem eqRep_c (x y : Rep) (h : nRep x ≤ 2 ^ 40) : PureC Try.prog 15 [.agg x.row, .agg y.row] (.one (.c (vb (x = y)) 1)) := by
  refine PureC.intro' tt_ok Try.func15 (by kernel_rfl) rfl rfl rfl (Nat.le_of_ble_eq_true rfl) (fun w0 base => ?_)
  unfold nRep at h
  obtain ⟨a0, a1, a2, a3, a4, a5, a6⟩ := x
  obtain ⟨b0, b1, b2, b3, b4, b5, b6⟩ := y
  simp only at h
  simp [Rep.row]
  try intros
  by_cases h0 : a0 = b0
  rotate_left
  · simp [h0]
  subst h0
  try simp
  by_cases h1 : a1 = b1
  rotate_left
  · simp [h1]
  subst h1
  try simp
  by_cases h2 : a2 = b2
  rotate_left
  · simp [h2]
  subst h2
  try simp
  refine ACall.pure (eqIntS_c a3 b3 (by omega)) (by simp) ?_
  simp
  by_cases h3 : a3 = b3
  rotate_left
  · simp [h3]
  subst h3
  try simp
  by_cases h4 : a4 = b4
  rotate_left
  · simp [h4]
  subst h4
  try simp
  refine ACall.pure (eqPartS_c a5 b5 (by omega)) (by simp) ?_
  simp
  by_cases h5 : a5 = b5
  rotate_left
  · simp [h5]
  subst h5
  try simp
  refine ACall.pure (eqPartS_c a6 b6 (by omega)) (by simp) ?_
  simp
  by_cases h6 : a6 = b6
  rotate_left
  · simp [h6]
  subst h6
  try simp

theorem szRep_c (x : Rep) (h : x.fits) (left : Nat) (hf : left ≤ 2 ^ 20) : PureC Try.prog 11 [.agg x.row, .c (vi left)] (.one (.c (vi (szR (nRep x) left)) 1)) := by
  refine PureC.intro' tt_ok Try.func11 (by kernel_rfl) rfl rfl rfl (Nat.le_of_ble_eq_true rfl) (fun w0 base => ?_)
  obtain ⟨f0, f1, f2, f3, f4, f5, f6⟩ := h
  obtain ⟨r, hr⟩ : ∃ r, szR (nRep x) left = r := ⟨_, rfl⟩
  rw [hr]
  have hn : nRep x = x.text.length + (nL nPart x.sent + (nL nPart x.buf)) := rfl
  simp [Rep.row]
  try intros
  refine ACall.pure (szIntS_c x.text f3.1 left (by omega)) (by simp) ?_
  by_cases k0 : x.text.length ≤ left
  rotate_left
  · have : r = -1 := by rw [← hr]; exact szR_no (by omega)
    rw [szR_no k0]
    simp [this]
  rw [szR_ok k0]
  obtain ⟨m0, hm0⟩ : ∃ m, left - x.text.length = m := ⟨_, rfl⟩
  rw [hm0]
  simp
  refine ACall.pure (szPartS_c x.sent f5.1 f5.2 m0 (by omega)) (by simp) ?_
  by_cases k1 : nL nPart x.sent ≤ m0
  rotate_left
  · have : r = -1 := by rw [← hr]; exact szR_no (by omega)
    rw [szR_no k1]
    simp [this]
  rw [szR_ok k1]
  obtain ⟨m1, hm1⟩ : ∃ m, m0 - nL nPart x.sent = m := ⟨_, rfl⟩
  rw [hm1]
  simp
  refine ACall.pure (szPartS_c x.buf f6.1 f6.2 m1 (by omega)) (by simp) ?_
  by_cases k2 : nL nPart x.buf ≤ m1
  rotate_left
  · have : r = -1 := by rw [← hr]; exact szR_no (by omega)
    rw [szR_no k2]
    simp [this]
  rw [szR_ok k2]
  obtain ⟨m2, hm2⟩ : ∃ m, m1 - nL nPart x.buf = m := ⟨_, rfl⟩
  rw [hm2]
  have : r = (m2 : Int) := by rw [← hr, szR_ok (by omega)]; omega
  simp [this]

theorem markRep_c (x : Rep) (k : Int) (h0 : 0 ≤ k) (hk : k + x.cntT ≤ 4611686018427387904) (hl : nRep x ≤ 2 ^ 40) : MarkC Try.prog 17 (.agg x.res) k (k + x.cntT) (.agg (x.markT k).res) := by
  refine MarkC.intro tt_ok Try.func17 (by kernel_rfl) rfl rfl rfl (by decide) (fun w0 base => ?_)
  simp only [Rep.cntT] at hk
  unfold nRep at hl
  simp [Rep.res]
  try intros
  refine ACall.mark (markIntS_c x.text (k) (by omega) (by omega)) rfl (fun _ h => h) (by simp) ?_
  simp
  refine ACall.mark (markPartS_c x.sent (k + ((x.text.length : Nat) : Int)) (by omega) (by omega) (by omega)) rfl (fun _ h => h) (by simp) ?_
  simp
  refine ACall.mark (markPartS_c x.buf (k + ((x.text.length : Nat) : Int) + ((cntL Part.cnt x.sent : Nat) : Int)) (by omega) (by omega) (by omega)) rfl (fun _ h => h) (by simp) ?_
  simp
  simp [Rep.markT, Rep.cntT, markL_length]
  try omega

theorem heldRep_c (x : Rep) (k : Int) (h0 : 0 ≤ k) (hk : k + x.cntT ≤ 4611686018427387904) (hl : nRep x ≤ 2 ^ 40) : PureC Try.prog 19 [.agg (x.markT k).row, .c (vi k)] (.one (.c (vi (k + x.cntT)) 1)) := by
  refine PureC.intro' tt_ok Try.func19 (by kernel_rfl) rfl rfl rfl (Nat.le_of_ble_eq_true rfl) (fun w0 base => ?_)
  simp only [Rep.cntT] at hk
  unfold nRep at hl
  simp [Rep.row, Rep.markT]
  try intros
  refine ACall.pure (heldIntS_c x.text k (by omega) (by omega)) (by simp) ?_
  obtain ⟨q3, hq3⟩ : ∃ q, k + ((x.text.length : Nat) : Int) = q := ⟨_, rfl⟩
  rw [hq3]
  have z3 : ¬ q3 < 0 := by omega
  simp [z3]
  refine ACall.pure (heldPartS_c x.sent q3 (by omega) (by omega) (by omega)) (by simp) ?_
  obtain ⟨q5, hq5⟩ : ∃ q, q3 + ((cntL Part.cnt x.sent : Nat) : Int) = q := ⟨_, rfl⟩
  rw [hq5]
  have z5 : ¬ q5 < 0 := by omega
  simp [z5]
  refine ACall.pure (heldPartS_c x.buf q5 (by omega) (by omega) (by omega)) (by simp) ?_
  obtain ⟨q6, hq6⟩ : ∃ q, q5 + ((cntL Part.cnt x.buf : Nat) : Int) = q := ⟨_, rfl⟩
  rw [hq6]
  have z6 : ¬ q6 < 0 := by omega
  simp [z6]
  try (simp only [Rep.cntT]; omega)

theorem toRepS_c (l : List Rep) (hl : nL nRep l ≤ 2 ^ 40) : PureC Try.prog 79 [.c (.s (l.map Rep.row))] (.one (.c (.s (l.map Rep.row)) 7)) := by
  refine PureC.intro' tt_ok Try.func79 (by kernel_rfl) rfl rfl rfl (Nat.le_of_ble_eq_true rfl) (fun w0 base => ?_)
  have hle := nL_len hl
  simp
  refine ⟨by omega, fun b => ?_⟩
  refine LoopT.intro eok (fun i : Nat => i ≤ l.length) (fun i => ⟨23, 0, [(4, .v (.int .i64 i)), (3, .sl 112 (some (b, 0, l.length)) 7 0 l.length), (0, .ro (l.map Rep.row))],
    [(112, .rows (some (b, 0, l.length)) 7 (fillR Rep.row [.v (.int .i64 0), .v (.int .i64 0), .v (.int .i64 0), .s [], .v (.bool false), .s [], .s []] l i) true)]⟩) (fun i => l.length - i) 0 (by simp) (by simp [fillR_0]) (fun i hi => ?_)
  by_cases h : i < l.length
  · simp [h, Rep.row]
    refine ACall.pure (toRep_c l[i] (nL_at hl h)) (by simp [Rep.row]) ?_
    simp [Rep.res, fillR_length hi, h]
    exact ⟨i + 1, by omega, by omega, i64_suc (by omega), fillR_set (f := Rep.row) h⟩
  · have : i = l.length := by omega
    subst this
    simp [fillR_all, cut]
    try exact fun a _ => rfl

theorem eqRepS_c (a b : List Rep) (hl : nL nRep a ≤ 2 ^ 40) : PureC Try.prog 83 [.c (.s (a.map Rep.row)), .c (.s (b.map Rep.row))] (.one (.c (vb (a = b)) 1)) := by
  refine PureC.intro' tt_ok Try.func83 (by kernel_rfl) rfl rfl rfl (Nat.le_of_ble_eq_true rfl) (fun w0 base => ?_)
  have hle := nL_len hl
  by_cases h : a.length = b.length
  · simp [h]
    refine LoopT.intro eok (fun i : Nat => i ≤ a.length ∧ a.take i = b.take i) (fun i => ⟨27, 0, [(5, .v (.int .i64 i)), (1, .ro (b.map Rep.row)), (0, .ro (a.map Rep.row))], []⟩) (fun i => a.length - i) 0 (by simp) (by simp) (fun i hi => ?_)
    by_cases hlt : i < a.length
    · simp [hlt]
      have hlt' : i < b.length := by omega
      refine DrawT.quiet eok mix (by kernel_rfl) ?_
      simp [hlt, hlt', Rep.row]
      refine ⟨_, _, eqRep_c a[i] b[i] (nL_at hl hlt), by simp [Rep.row], ?_⟩
      simp
      refine Br.mk (fun h1 => ?_) (fun h1 => ?_)
      · simp
        exact ⟨i + 1, ⟨by omega, take_next hlt hlt' hi.2 (of_yes h1)⟩, by omega, i64_suc (by omega)⟩
      · simp [dc_no]
        exact ne_at hlt hlt' (of_no h1)
    · simp [hlt, dc_yes]
      exact take_all (by omega) (by omega) hi.2
  · have hz : ¬ (a.length : Int) = b.length := by omega
    simp [hz, dc_no]
    exact fun h2 => absurd (by rw [h2]) h

theorem szRepS_c (l : List Rep) (hl : l.length ≤ 9223372036854775807) (hs : ∀ y ∈ l, y.fits) (left : Nat) (hf : left ≤ 2 ^ 20) : PureC Try.prog 75 [.c (.s (l.map Rep.row)), .c (vi left)] (.one (.c (vi (szR (nL nRep l) left)) 1)) := by
  refine PureC.intro' tt_ok Try.func75 (by kernel_rfl) rfl rfl rfl (Nat.le_of_ble_eq_true rfl) (fun w0 base => ?_)
  have hw : IntKind.i64.wrap ((left : Int) - (l.length : Int)) = (left : Int) - l.length := IntWalk.i64_in _ (by omega)
  have hn : nL nRep l = l.length + sumN nRep l := rfl
  by_cases h : l.length ≤ left
  · obtain ⟨lf, hlf⟩ : ∃ lf : Nat, left - l.length = lf := ⟨_, rfl⟩
    have hlz : (left : Int) - l.length = (lf : Int) := by omega
    have hw2 : IntKind.i64.wrap (lf : Int) = lf := i64_nat (by omega)
    simp [hlz, hw2]
    obtain ⟨r, hr⟩ : ∃ r, szR (nL nRep l) left = r := ⟨_, rfl⟩
    have hr0 : szR (sumN nRep l) lf = r := by rw [← hr]; unfold szR; split <;> split <;> omega
    rw [hr]
    refine LoopT.intro eok (fun x : Nat × Nat => x.1 ≤ l.length ∧ x.2 ≤ 2 ^ 20 ∧ szR (sumN nRep (l.drop x.1)) x.2 = r) (fun x => ⟨27, 0, [(5, .v (.int .i64 x.1)), (1, .v (.int .i64 x.2)), (0, .ro (l.map Rep.row))], []⟩) (fun x => l.length - x.1) (0, lf) (by simp [hr0]; omega) (by simp) ?_
    rintro ⟨i, m⟩ ⟨hi, hm, hx⟩
    simp only at hi hm hx ⊢
    by_cases hlt : i < l.length
    · rw [sumN_drop hlt] at hx
      simp [hlt, Rep.row]
      refine ACall.pure (szRep_c l[i] (hs _ (List.getElem_mem hlt)) m hm) (by simp [Rep.row]) ?_
      by_cases hk : nRep l[i] ≤ m
      · rw [szR_ok hk]
        have hz : ¬ ((m - nRep l[i] : Nat) : Int) < 0 := by omega
        simp [hz]
        refine ⟨i + 1, m - nRep l[i], ⟨by omega, by omega, ?_⟩, by omega, i64_suc (by omega), rfl⟩
        rw [← hx]; unfold szR; split <;> split <;> omega
      · rw [szR_no (show ¬ nRep l[i] + sumN nRep (l.drop (i + 1)) ≤ m by omega)] at hx
        rw [szR_no hk]
        simp [← hx]
    · have : i = l.length := by omega
      subst this
      simp only [List.drop_length, sumN, szR, Nat.zero_le, if_true, Nat.sub_zero] at hx
      simp [hx]
  · have hz : (left : Int) - l.length < 0 := by omega
    simp [hw, hz, szR_no (show ¬ nL nRep l ≤ left by omega)]
end Go.Proofs.Ytljhopjmmcmioaa
