import Derived.Test.YtljhopjmmcmioaaDEntry
import Derived.Test.YtljhopjmmcmioaaDInt
import Derived.Test.YtljhopjmmcmioaaDSeen
namespace Go.Proofs.Ytljhopjmmcmioaa
open Go.AM
set_option maxRecDepth 20000
theorem toDoc_c (x : Doc) (h : nDoc x ≤ 2 ^ 40) : PureC Try.prog 78 [.agg x.row] (.one (.agg x.res)) := by
  refine PureC.intro' tt_ok Try.func78 (by kernel_rfl) rfl rfl rfl (Nat.le_of_ble_eq_true rfl) (fun w0 base => ?_)
  unfold nDoc at h
  simp [Doc.row, Doc.res]
  try intros
  refine ACall.pure (toIntS_c x.text (by omega)) (by simp) ?_
  simp
  try intros
  refine ACall.pure (toEntryS_c x.list (by omega)) (by simp) ?_
  simp
  try intros
  refine ACall.pure (toSeenS_c x.seen (by omega)) (by simp) ?_
  simp
  try intros

theorem eqDoc_c (x y : Doc) (h : nDoc x ≤ 2 ^ 40) : PureC Try.prog 82 [.agg x.row, .agg y.row] (.one (.c (vb (x = y)) 1)) := by
  refine PureC.intro' tt_ok Try.func82 (by kernel_rfl) rfl rfl rfl (Nat.le_of_ble_eq_true rfl) (fun w0 base => ?_)
  unfold nDoc at h
  obtain ⟨a0, a1, a2, a3, a4⟩ := x
  obtain ⟨b0, b1, b2, b3, b4⟩ := y
  simp only at h
  simp [Doc.row]
  try intros
  by_cases h0 : a0 = b0
  rotate_left
  · simp [h0]
  subst h0
  try simp
  by_cases h1 : a1 = b1
  rotate_left
  · simp [h1]
  subst h1
  try simp
  refine ACall.pure (eqIntS_c a2 b2 (by omega)) (by simp) ?_
  simp
  by_cases h2 : a2 = b2
  rotate_left
  · simp [h2]
  subst h2
  try simp
  refine ACall.pure (eqEntryS_c a3 b3 (by omega)) (by simp) ?_
  simp
  by_cases h3 : a3 = b3
  rotate_left
  · simp [h3]
  subst h3
  try simp
  refine ACall.pure (eqSeenS_c a4 b4 (by omega)) (by simp) ?_
  simp
  by_cases h4 : a4 = b4
  rotate_left
  · simp [h4]
  subst h4
  try simp

theorem szDoc_c (x : Doc) (h : x.fits) (left : Nat) (hf : left ≤ 2 ^ 20) : PureC Try.prog 74 [.agg x.row, .c (vi left)] (.one (.c (vi (szR (nDoc x) left)) 1)) := by
  refine PureC.intro' tt_ok Try.func74 (by kernel_rfl) rfl rfl rfl (Nat.le_of_ble_eq_true rfl) (fun w0 base => ?_)
  obtain ⟨f0, f1, f2, f3, f4⟩ := h
  obtain ⟨r, hr⟩ : ∃ r, szR (nDoc x) left = r := ⟨_, rfl⟩
  rw [hr]
  have hn : nDoc x = x.name.size + (x.text.length + (nL nEntry x.list + (x.seen.length))) := rfl
  simp [Doc.row]
  try intros
  by_cases k0 : x.name.size ≤ left
  rotate_left
  · have hw : IntKind.i64.wrap ((left : Int) - (x.name.size : Int)) = (left : Int) - x.name.size := IntWalk.i64_in _ (by omega)
    have hz : (left : Int) - x.name.size < 0 := by omega
    have : r = -1 := by rw [← hr]; exact szR_no (by omega)
    simp [hw, hz, this]
  obtain ⟨m0, hm0⟩ : ∃ m, left - x.name.size = m := ⟨_, rfl⟩
  have w0 : IntKind.i64.wrap ((left : Int) - (x.name.size : Int)) = (m0 : Int) := by rw [IntWalk.i64_in _ (by omega)]; omega
  simp [w0]
  refine ACall.pure (szIntS_c x.text f2.1 m0 (by omega)) (by simp) ?_
  by_cases k1 : x.text.length ≤ m0
  rotate_left
  · have : r = -1 := by rw [← hr]; exact szR_no (by omega)
    rw [szR_no k1]
    simp [this]
  rw [szR_ok k1]
  obtain ⟨m1, hm1⟩ : ∃ m, m0 - x.text.length = m := ⟨_, rfl⟩
  rw [hm1]
  simp
  refine ACall.pure (szEntryS_c x.list f3.1 f3.2 m1 (by omega)) (by simp) ?_
  by_cases k2 : nL nEntry x.list ≤ m1
  rotate_left
  · have : r = -1 := by rw [← hr]; exact szR_no (by omega)
    rw [szR_no k2]
    simp [this]
  rw [szR_ok k2]
  obtain ⟨m2, hm2⟩ : ∃ m, m1 - nL nEntry x.list = m := ⟨_, rfl⟩
  rw [hm2]
  simp
  refine ACall.pure (szSeenS_c x.seen f4.1 m2 (by omega)) (by simp) ?_
  by_cases k3 : x.seen.length ≤ m2
  rotate_left
  · have : r = -1 := by rw [← hr]; exact szR_no (by omega)
    rw [szR_no k3]
    simp [this]
  rw [szR_ok k3]
  obtain ⟨m3, hm3⟩ : ∃ m, m2 - x.seen.length = m := ⟨_, rfl⟩
  rw [hm3]
  have : r = (m3 : Int) := by rw [← hr, szR_ok (by omega)]; omega
  simp [this]

theorem markDoc_c (x : Doc) (k : Int) (h0 : 0 ≤ k) (hk : k + x.cntT ≤ 4611686018427387904) (hl : nDoc x ≤ 2 ^ 40) : MarkC Try.prog 106 (.agg x.res) k (k + x.cntT) (.agg (x.markT k).res) := by
  refine MarkC.intro tt_ok Try.func106 (by kernel_rfl) rfl rfl rfl (by decide) (fun w0 base => ?_)
  simp only [Doc.cntT] at hk
  unfold nDoc at hl
  simp [Doc.res]
  try intros
  refine ACall.mark (markIntS_c x.text (k) (by omega) (by omega)) rfl (fun _ h => h) (by simp) ?_
  simp
  refine ACall.mark (markEntryS_c x.list (k + ((x.text.length : Nat) : Int)) (by omega) (by omega) (by omega)) rfl (fun _ h => h) (by simp) ?_
  simp
  refine ACall.mark (markSeenS_c x.seen (k + ((x.text.length : Nat) : Int) + ((cntL Entry.cnt x.list : Nat) : Int)) (by omega) (by omega) (by omega)) rfl (fun _ h => h) (by simp) ?_
  simp
  simp [Doc.markT, Doc.res, Doc.cntT, markL_length]
  try omega

theorem heldDoc_c (x : Doc) (k : Int) (h0 : 0 ≤ k) (hk : k + x.cntT ≤ 4611686018427387904) (hl : nDoc x ≤ 2 ^ 40) : PureC Try.prog 108 [.agg (x.markT k).row, .c (vi k)] (.one (.c (vi (k + x.cntT)) 1)) := by
  refine PureC.intro' tt_ok Try.func108 (by kernel_rfl) rfl rfl rfl (Nat.le_of_ble_eq_true rfl) (fun w0 base => ?_)
  simp only [Doc.cntT] at hk
  unfold nDoc at hl
  simp [Doc.row, Doc.markT]
  try intros
  refine ACall.pure (heldIntS_c x.text k (by omega) (by omega)) (by simp) ?_
  obtain ⟨q2, hq2⟩ : ∃ q, k + ((x.text.length : Nat) : Int) = q := ⟨_, rfl⟩
  rw [hq2]
  have z2 : ¬ q2 < 0 := by omega
  simp [z2]
  refine ACall.pure (heldEntryS_c x.list q2 (by omega) (by omega) (by omega)) (by simp) ?_
  obtain ⟨q3, hq3⟩ : ∃ q, q2 + ((cntL Entry.cnt x.list : Nat) : Int) = q := ⟨_, rfl⟩
  rw [hq3]
  have z3 : ¬ q3 < 0 := by omega
  simp [z3]
  refine ACall.pure (heldSeenS_c x.seen q3 (by omega) (by omega) (by omega)) (by simp) ?_
  obtain ⟨q4, hq4⟩ : ∃ q, q3 + ((cntL Seen.cnt x.seen : Nat) : Int) = q := ⟨_, rfl⟩
  rw [hq4]
  have z4 : ¬ q4 < 0 := by omega
  simp [z4]
  try (simp only [Doc.cntT]; omega)

theorem toDocS_c (l : List Doc) (hl : nL nDoc l ≤ 2 ^ 40) : PureC Try.prog 172 [.c (.s (l.map Doc.row))] (.one (.c (.s (l.map Doc.row)) 5)) := by
  refine PureC.intro' tt_ok Try.func172 (by kernel_rfl) rfl rfl rfl (Nat.le_of_ble_eq_true rfl) (fun w0 base => ?_)
  have hle := nL_len hl
  simp
  refine ⟨by omega, fun b => ?_⟩
  refine LoopT.intro eok (fun i : Nat => i ≤ l.length) (fun i => ⟨23, 0, [(4, .v (.int .i64 i)), (3, .sl 112 (some (b, 0, l.length)) 5 0 l.length), (0, .ro (l.map Doc.row))],
    [(112, .rows (some (b, 0, l.length)) 5 (fillR Doc.row [.v (.string ⟨#[]⟩), .v (.int .i64 0), .s [], .s [], .s []] l i) true)]⟩) (fun i => l.length - i) 0 (by simp) (by simp [fillR_0]) (fun i hi => ?_)
  by_cases h : i < l.length
  · simp [h, Doc.row]
    refine ACall.pure (toDoc_c l[i] (nL_at hl h)) (by simp [Doc.row]) ?_
    simp [Doc.res, fillR_length hi, h]
    exact ⟨i + 1, by omega, by omega, i64_suc (by omega), fillR_set (f := Doc.row) h⟩
  · have : i = l.length := by omega
    subst this
    simp [fillR_all, cut]
    try exact fun a _ => rfl

theorem eqDocS_c (a b : List Doc) (hl : nL nDoc a ≤ 2 ^ 40) : PureC Try.prog 176 [.c (.s (a.map Doc.row)), .c (.s (b.map Doc.row))] (.one (.c (vb (a = b)) 1)) := by
  refine PureC.intro' tt_ok Try.func176 (by kernel_rfl) rfl rfl rfl (Nat.le_of_ble_eq_true rfl) (fun w0 base => ?_)
  have hle := nL_len hl
  by_cases h : a.length = b.length
  · simp [h]
    refine LoopT.intro eok (fun i : Nat => i ≤ a.length ∧ a.take i = b.take i) (fun i => ⟨27, 0, [(5, .v (.int .i64 i)), (1, .ro (b.map Doc.row)), (0, .ro (a.map Doc.row))], []⟩) (fun i => a.length - i) 0 (by simp) (by simp) (fun i hi => ?_)
    by_cases hlt : i < a.length
    · simp [hlt]
      have hlt' : i < b.length := by omega
      refine DrawT.quiet eok mix (by kernel_rfl) ?_
      simp [hlt, hlt', Doc.row]
      refine ⟨_, _, eqDoc_c a[i] b[i] (nL_at hl hlt), by simp [Doc.row], ?_⟩
      simp
      refine Br.mk (fun h1 => ?_) (fun h1 => ?_)
      · simp
        exact ⟨i + 1, ⟨by omega, take_next hlt hlt' hi.2 (of_yes h1)⟩, by omega, i64_suc (by omega)⟩
      · simp [dc_no]
        exact ne_at hlt hlt' (of_no h1)
    · simp [hlt, dc_yes]
      exact take_all (by omega) (by omega) hi.2
  · have hz : ¬ (a.length : Int) = b.length := by omega
    simp [hz, dc_no]
    exact fun h2 => absurd (by rw [h2]) h

theorem szDocS_c (l : List Doc) (hl : l.length ≤ 9223372036854775807) (hs : ∀ y ∈ l, y.fits) (left : Nat) (hf : left ≤ 2 ^ 20) : PureC Try.prog 168 [.c (.s (l.map Doc.row)), .c (vi left)] (.one (.c (vi (szR (nL nDoc l) left)) 1)) := by
  refine PureC.intro' tt_ok Try.func168 (by kernel_rfl) rfl rfl rfl (Nat.le_of_ble_eq_true rfl) (fun w0 base => ?_)
  have hw : IntKind.i64.wrap ((left : Int) - (l.length : Int)) = (left : Int) - l.length := IntWalk.i64_in _ (by omega)
  have hn : nL nDoc l = l.length + sumN nDoc l := rfl
  by_cases h : l.length ≤ left
  · obtain ⟨lf, hlf⟩ : ∃ lf : Nat, left - l.length = lf := ⟨_, rfl⟩
    have hlz : (left : Int) - l.length = (lf : Int) := by omega
    have hw2 : IntKind.i64.wrap (lf : Int) = lf := i64_nat (by omega)
    simp [hlz, hw2]
    obtain ⟨r, hr⟩ : ∃ r, szR (nL nDoc l) left = r := ⟨_, rfl⟩
    have hr0 : szR (sumN nDoc l) lf = r := by rw [← hr]; unfold szR; split <;> split <;> omega
    rw [hr]
    refine LoopT.intro eok (fun x : Nat × Nat => x.1 ≤ l.length ∧ x.2 ≤ 2 ^ 20 ∧ szR (sumN nDoc (l.drop x.1)) x.2 = r) (fun x => ⟨27, 0, [(5, .v (.int .i64 x.1)), (1, .v (.int .i64 x.2)), (0, .ro (l.map Doc.row))], []⟩) (fun x => l.length - x.1) (0, lf) (by simp [hr0]; omega) (by simp) ?_
    rintro ⟨i, m⟩ ⟨hi, hm, hx⟩
    simp only at hi hm hx ⊢
    by_cases hlt : i < l.length
    · rw [sumN_drop hlt] at hx
      simp [hlt, Doc.row]
      refine ACall.pure (szDoc_c l[i] (hs _ (List.getElem_mem hlt)) m hm) (by simp [Doc.row]) ?_
      by_cases hk : nDoc l[i] ≤ m
      · rw [szR_ok hk]
        have hz : ¬ ((m - nDoc l[i] : Nat) : Int) < 0 := by omega
        simp [hz]
        refine ⟨i + 1, m - nDoc l[i], ⟨by omega, by omega, ?_⟩, by omega, i64_suc (by omega), rfl⟩
        rw [← hx]; unfold szR; split <;> split <;> omega
      · rw [szR_no (show ¬ nDoc l[i] + sumN nDoc (l.drop (i + 1)) ≤ m by omega)] at hx
        rw [szR_no hk]
        simp [← hx]
    · have : i = l.length := by omega
      subst this
      simp only [List.drop_length, sumN, szR, Nat.zero_le, if_true, Nat.sub_zero] at hx
      simp [hx]
  · have hz : (left : Int) - l.length < 0 := by omega
    simp [hw, hz, szR_no (show ¬ nL nDoc l ≤ left by omega)]
end Go.Proofs.Ytljhopjmmcmioaa
