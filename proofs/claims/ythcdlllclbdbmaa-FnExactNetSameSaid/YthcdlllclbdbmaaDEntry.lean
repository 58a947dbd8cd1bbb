import Derived.Test.YthcdlllclbdbmaaDInt
import Derived.Test.YthcdlllclbdbmaaDPart
namespace Go.Proofs.Ythcdlllclbdbmaa
open Go.AM
set_option maxRecDepth 20000
theorem toEntry_c (x : Entry) (h : nEntry x ≤ 2 ^ 40) : PureC Try.prog 155 [.agg x.row] (.one (.agg x.res)) := by
  refine PureC.intro' tt_ok Try.func155 (by kernel_rfl) rfl rfl rfl (Nat.le_of_ble_eq_true rfl) (fun w0 base => ?_)
  unfold nEntry at h
  simp [Entry.row, Entry.res]
  try intros
  refine ACall.pure (toPartS_c x.o (by omega)) (by simp) ?_
  simp
  try intros

theorem eqEntry_c (x y : Entry) (h : nEntry x ≤ 2 ^ 40) : PureC Try.prog 156 [.agg x.row, .agg y.row] (.one (.c (vb (x = y)) 1)) := by
  refine PureC.intro' tt_ok Try.func156 (by kernel_rfl) rfl rfl rfl (Nat.le_of_ble_eq_true rfl) (fun w0 base => ?_)
  unfold nEntry at h
  obtain ⟨a0, a1, a2⟩ := x
  obtain ⟨b0, b1, b2⟩ := y
  simp only at h
  simp [Entry.row]
  try intros
  by_cases h0 : a0 = b0
  rotate_left
  · simp [h0]
  subst h0
  try simp
  by_cases h1 : a1 = b1
  rotate_left
  · simp [h1]
  subst h1
  try simp
  refine ACall.pure (eqPartS_c a2 b2 (by omega)) (by simp) ?_
  simp
  by_cases h2 : a2 = b2
  rotate_left
  · simp [h2]
  subst h2
  try simp

theorem szEntry_c (x : Entry) (h : x.fits) (left : Nat) (hf : left ≤ 2 ^ 20) : PureC Try.prog 154 [.agg x.row, .c (vi left)] (.one (.c (vi (szR (nEntry x) left)) 1)) := by
  refine PureC.intro' tt_ok Try.func154 (by kernel_rfl) rfl rfl rfl (Nat.le_of_ble_eq_true rfl) (fun w0 base => ?_)
  obtain ⟨f0, f1, f2⟩ := h
  obtain ⟨r, hr⟩ : ∃ r, szR (nEntry x) left = r := ⟨_, rfl⟩
  rw [hr]
  have hn : nEntry x = nL nPart x.o := rfl
  simp [Entry.row]
  try intros
  refine ACall.pure (szPartS_c x.o f2.1 f2.2 left (by omega)) (by simp) ?_
  by_cases k0 : nL nPart x.o ≤ left
  rotate_left
  · have : r = -1 := by rw [← hr]; exact szR_no (by omega)
    rw [szR_no k0]
    simp [this]
  rw [szR_ok k0]
  obtain ⟨m0, hm0⟩ : ∃ m, left - nL nPart x.o = m := ⟨_, rfl⟩
  rw [hm0]
  have : r = (m0 : Int) := by rw [← hr, szR_ok (by omega)]; omega
  simp [this]

theorem toEntryS_c (l : List Entry) (hl : nL nEntry l ≤ 2 ^ 40) : PureC Try.prog 121 [.c (.s (l.map Entry.row))] (.one (.c (.s (l.map Entry.row)) 3)) := by
  refine PureC.intro' tt_ok Try.func121 (by kernel_rfl) rfl rfl rfl (Nat.le_of_ble_eq_true rfl) (fun w0 base => ?_)
  have hle := nL_len hl
  simp
  refine ⟨by omega, fun b => ?_⟩
  refine LoopT.intro eok (fun i : Nat => i ≤ l.length) (fun i => ⟨23, 0, [(4, .v (.int .i64 i)), (3, .sl 112 (some (b, 0, l.length)) 3 0 l.length), (0, .ro (l.map Entry.row))],
    [(112, .rows (some (b, 0, l.length)) 3 (fillR Entry.row [.v (.int .i64 0), .v (.int .i64 0), .s []] l i) true)]⟩) (fun i => l.length - i) 0 (by simp) (by simp [fillR_0]) (fun i hi => ?_)
  by_cases h : i < l.length
  · simp [h, Entry.row]
    refine ACall.pure (toEntry_c l[i] (nL_at hl h)) (by simp [Entry.row]) ?_
    simp [Entry.res, fillR_length hi, h]
    exact ⟨i + 1, by omega, by omega, i64_suc (by omega), fillR_set (f := Entry.row) h⟩
  · have : i = l.length := by omega
    subst this
    simp [fillR_all, cut]
    try exact fun a _ => rfl

theorem eqEntryS_c (a b : List Entry) (hl : nL nEntry a ≤ 2 ^ 40) : PureC Try.prog 122 [.c (.s (a.map Entry.row)), .c (.s (b.map Entry.row))] (.one (.c (vb (a = b)) 1)) := by
  refine PureC.intro' tt_ok Try.func122 (by kernel_rfl) rfl rfl rfl (Nat.le_of_ble_eq_true rfl) (fun w0 base => ?_)
  have hle := nL_len hl
  by_cases h : a.length = b.length
  · simp [h]
    refine LoopT.intro eok (fun i : Nat => i ≤ a.length ∧ a.take i = b.take i) (fun i => ⟨27, 0, [(5, .v (.int .i64 i)), (1, .ro (b.map Entry.row)), (0, .ro (a.map Entry.row))], []⟩) (fun i => a.length - i) 0 (by simp) (by simp) (fun i hi => ?_)
    by_cases hlt : i < a.length
    · simp [hlt]
      have hlt' : i < b.length := by omega
      refine DrawT.quiet eok mix (by kernel_rfl) ?_
      simp [hlt, hlt', Entry.row]
      refine ⟨_, _, eqEntry_c a[i] b[i] (nL_at hl hlt), by simp [Entry.row], ?_⟩
      simp
      refine Br.mk (fun h1 => ?_) (fun h1 => ?_)
      · simp
        exact ⟨i + 1, ⟨by omega, take_next hlt hlt' hi.2 (of_yes h1)⟩, by omega, i64_suc (by omega)⟩
      · simp [dc_no]
        exact ne_at hlt hlt' (of_no h1)
    · simp [hlt, dc_yes]
      exact take_all (by omega) (by omega) hi.2
  · have hz : ¬ (a.length : Int) = b.length := by omega
    simp [hz, dc_no]
    exact fun h2 => absurd (by rw [h2]) h

theorem szEntryS_c (l : List Entry) (hl : l.length ≤ 9223372036854775807) (hs : ∀ y ∈ l, y.fits) (left : Nat) (hf : left ≤ 2 ^ 20) : PureC Try.prog 120 [.c (.s (l.map Entry.row)), .c (vi left)] (.one (.c (vi (szR (nL nEntry l) left)) 1)) := by
  refine PureC.intro' tt_ok Try.func120 (by kernel_rfl) rfl rfl rfl (Nat.le_of_ble_eq_true rfl) (fun w0 base => ?_)
  have hw : IntKind.i64.wrap ((left : Int) - (l.length : Int)) = (left : Int) - l.length := IntWalk.i64_in _ (by omega)
  have hn : nL nEntry l = l.length + sumN nEntry l := rfl
  by_cases h : l.length ≤ left
  · obtain ⟨lf, hlf⟩ : ∃ lf : Nat, left - l.length = lf := ⟨_, rfl⟩
    have hlz : (left : Int) - l.length = (lf : Int) := by omega
    have hw2 : IntKind.i64.wrap (lf : Int) = lf := i64_nat (by omega)
    simp [hlz, hw2]
    obtain ⟨r, hr⟩ : ∃ r, szR (nL nEntry l) left = r := ⟨_, rfl⟩
    have hr0 : szR (sumN nEntry l) lf = r := by rw [← hr]; unfold szR; split <;> split <;> omega
    rw [hr]
    refine LoopT.intro eok (fun x : Nat × Nat => x.1 ≤ l.length ∧ x.2 ≤ 2 ^ 20 ∧ szR (sumN nEntry (l.drop x.1)) x.2 = r) (fun x => ⟨27, 0, [(5, .v (.int .i64 x.1)), (1, .v (.int .i64 x.2)), (0, .ro (l.map Entry.row))], []⟩) (fun x => l.length - x.1) (0, lf) (by simp [hr0]; omega) (by simp) ?_
    rintro ⟨i, m⟩ ⟨hi, hm, hx⟩
    simp only at hi hm hx ⊢
    by_cases hlt : i < l.length
    · rw [sumN_drop hlt] at hx
      simp [hlt, Entry.row]
      refine ACall.pure (szEntry_c l[i] (hs _ (List.getElem_mem hlt)) m hm) (by simp [Entry.row]) ?_
      by_cases hk : nEntry l[i] ≤ m
      · rw [szR_ok hk]
        have hz : ¬ ((m - nEntry l[i] : Nat) : Int) < 0 := by omega
        simp [hz]
        refine ⟨i + 1, m - nEntry l[i], ⟨by omega, by omega, ?_⟩, by omega, i64_suc (by omega), rfl⟩
        rw [← hx]; unfold szR; split <;> split <;> omega
      · rw [szR_no (show ¬ nEntry l[i] + sumN nEntry (l.drop (i + 1)) ≤ m by omega)] at hx
        rw [szR_no hk]
        simp [← hx]
    · have : i = l.length := by omega
      subst this
      simp only [List.drop_length, sumN, szR, Nat.zero_le, if_true, Nat.sub_zero] at hx
      simp [hx]
  · have hz : (left : Int) - l.length < 0 := by omega
    simp [hw, hz, szR_no (show ¬ nL nEntry l ≤ left by omega)]
end Go.Proofs.Ythcdlllclbdbmaa
