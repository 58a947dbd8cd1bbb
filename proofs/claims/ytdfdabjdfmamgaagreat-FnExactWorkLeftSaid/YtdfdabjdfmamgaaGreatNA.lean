import Derived.Test.YtdfdabjdfmamgaaGreatMG
namespace Go.Proofs.YtdfdabjdfmamgaaGreat
open Go.AM
set_option maxRecDepth 20000
theorem toPart_c (x : Part) (h : nPart x ≤ 2 ^ 40) : PureC Tryz.prog 221 [.agg x.row] (.one (.agg x.res)) := by
  refine PureC.intro' tt_ok Tryz.func221 (by kernel_rfl) rfl rfl rfl (Nat.le_of_ble_eq_true rfl) (fun w0 base => ?_)
  unfold nPart at h
  simp [Part.row, Part.res]
  try intros
  refine ACall.pure (toIntS_c x.signs (by omega)) (by simp) ?_
  simp
  try intros
theorem eqPart_c (x y : Part) (h : nPart x ≤ 2 ^ 40) : PureC Tryz.prog 229 [.agg x.row, .agg y.row] (.one (.c (vb (x = y)) 1)) := by
  refine PureC.intro' tt_ok Tryz.func229 (by kernel_rfl) rfl rfl rfl (Nat.le_of_ble_eq_true rfl) (fun w0 base => ?_)
  unfold nPart at h
  obtain ⟨a0, a1, a2⟩ := x
  obtain ⟨b0, b1, b2⟩ := y
  simp only at h
  simp [Part.row]
  try intros
  by_cases h0 : a0 = b0
  rotate_left
  · simp [h0]
  subst h0
  try simp
  by_cases h1 : a1 = b1
  rotate_left
  · simp [h1]
  subst h1
  try simp
  refine ACall.pure (eqIntS_c a2 b2 (by omega)) (by simp) ?_
  simp
  by_cases h2 : a2 = b2
  rotate_left
  · simp [h2]
  subst h2
  try simp
theorem szPart_c (x : Part) (h : x.fits) (left : Nat) (hf : left ≤ 2 ^ 20) : PureC Tryz.prog 215 [.agg x.row, .c (vi left)] (.one (.c (vi (szR (nPart x) left)) 1)) := by
  refine PureC.intro' tt_ok Tryz.func215 (by kernel_rfl) rfl rfl rfl (Nat.le_of_ble_eq_true rfl) (fun w0 base => ?_)
  obtain ⟨f0, f1, f2⟩ := h
  obtain ⟨r, hr⟩ : ∃ r, szR (nPart x) left = r := ⟨_, rfl⟩
  rw [hr]
  have hn : nPart x = x.signs.length := rfl
  simp [Part.row]
  try intros
  refine ACall.pure (szIntS_c x.signs f2.1 left (by omega)) (by simp) ?_
  by_cases k0 : x.signs.length ≤ left
  rotate_left
  · have : r = -1 := by rw [← hr]; exact szR_no (by omega)
    rw [szR_no k0]
    simp [this]
  rw [szR_ok k0]
  obtain ⟨m0, hm0⟩ : ∃ m, left - x.signs.length = m := ⟨_, rfl⟩
  rw [hm0]
  have : r = (m0 : Int) := by rw [← hr, szR_ok (by omega)]; omega
  simp [this]
theorem toPartS_c (l : List Part) (hl : nL nPart l ≤ 2 ^ 40) : PureC Tryz.prog 134 [.c (.s (l.map Part.row))] (.one (.c (.s (l.map Part.row)) 3)) := by
  refine PureC.intro' tt_ok Tryz.func134 (by kernel_rfl) rfl rfl rfl (Nat.le_of_ble_eq_true rfl) (fun w0 base => ?_)
  have hle := nL_len hl
  simp
  refine ⟨by omega, fun b => ?_⟩
  refine LoopT.intro eok (fun i : Nat => i ≤ l.length) (fun i => ⟨23, 0, [(4, .v (.int .i64 i)), (3, .sl 112 (some (b, 0, l.length)) 3 0 l.length), (0, .ro (l.map Part.row))],
    [(112, .rows (some (b, 0, l.length)) 3 (fillR Part.row [.v (.int .i64 0), .v (.int .i64 0), .s []] l i) true)]⟩) (fun i => l.length - i) 0 (by simp) (by simp [fillR_0]) (fun i hi => ?_)
  by_cases h : i < l.length
  · simp [h, Part.row]
    refine ACall.pure (toPart_c l[i] (nL_at hl h)) (by simp [Part.row]) ?_
    simp [Part.res, fillR_length hi, h]
    exact ⟨i + 1, by omega, by omega, i64_suc (by omega), fillR_set (f := Part.row) h⟩
  · have : i = l.length := by omega
    subst this
    simp [fillR_all, cut]
    try exact fun a _ => rfl
theorem eqPartS_c (a b : List Part) (hl : nL nPart a ≤ 2 ^ 40) : PureC Tryz.prog 138 [.c (.s (a.map Part.row)), .c (.s (b.map Part.row))] (.one (.c (vb (a = b)) 1)) := by
  refine PureC.intro' tt_ok Tryz.func138 (by kernel_rfl) rfl rfl rfl (Nat.le_of_ble_eq_true rfl) (fun w0 base => ?_)
  have hle := nL_len hl
  by_cases h : a.length = b.length
  · simp [h]
    refine LoopT.intro eok (fun i : Nat => i ≤ a.length ∧ a.take i = b.take i) (fun i => ⟨27, 0, [(5, .v (.int .i64 i)), (1, .ro (b.map Part.row)), (0, .ro (a.map Part.row))], []⟩) (fun i => a.length - i) 0 (by simp) (by simp) (fun i hi => ?_)
    by_cases hlt : i < a.length
    · simp [hlt]
      have hlt' : i < b.length := by omega
      refine DrawT.quiet eok mix (by kernel_rfl) ?_
      simp [hlt, hlt', Part.row]
      refine ⟨_, _, eqPart_c a[i] b[i] (nL_at hl hlt), by simp [Part.row], ?_⟩
      simp
      refine Br.mk (fun h1 => ?_) (fun h1 => ?_)
      · simp
        exact ⟨i + 1, ⟨by omega, take_next hlt hlt' hi.2 (of_yes h1)⟩, by omega, i64_suc (by omega)⟩
      · simp [dc_no]
        exact ne_at hlt hlt' (of_no h1)
    · simp [hlt, dc_yes]
      exact take_all (by omega) (by omega) hi.2
  · have hz : ¬ (a.length : Int) = b.length := by omega
    simp [hz, dc_no]
    exact fun h2 => absurd (by rw [h2]) h
theorem szPartS_c (l : List Part) (hl : l.length ≤ 9223372036854775807) (hs : ∀ y ∈ l, y.fits) (left : Nat) (hf : left ≤ 2 ^ 20) : PureC Tryz.prog 130 [.c (.s (l.map Part.row)), .c (vi left)] (.one (.c (vi (szR (nL nPart l) left)) 1)) := by
  refine PureC.intro' tt_ok Tryz.func130 (by kernel_rfl) rfl rfl rfl (Nat.le_of_ble_eq_true rfl) (fun w0 base => ?_)
  have hw : IntKind.i64.wrap ((left : Int) - (l.length : Int)) = (left : Int) - l.length := IntWalk.i64_in _ (by omega)
  have hn : nL nPart l = l.length + sumN nPart l := rfl
  by_cases h : l.length ≤ left
  · obtain ⟨lf, hlf⟩ : ∃ lf : Nat, left - l.length = lf := ⟨_, rfl⟩
    have hlz : (left : Int) - l.length = (lf : Int) := by omega
    have hw2 : IntKind.i64.wrap (lf : Int) = lf := i64_nat (by omega)
    simp [hlz, hw2]
    obtain ⟨r, hr⟩ : ∃ r, szR (nL nPart l) left = r := ⟨_, rfl⟩
    have hr0 : szR (sumN nPart l) lf = r := by rw [← hr]; unfold szR; split <;> split <;> omega
    rw [hr]
    refine LoopT.intro eok (fun x : Nat × Nat => x.1 ≤ l.length ∧ x.2 ≤ 2 ^ 20 ∧ szR (sumN nPart (l.drop x.1)) x.2 = r) (fun x => ⟨27, 0, [(5, .v (.int .i64 x.1)), (1, .v (.int .i64 x.2)), (0, .ro (l.map Part.row))], []⟩) (fun x => l.length - x.1) (0, lf) (by simp [hr0]; omega) (by simp) ?_
    rintro ⟨i, m⟩ ⟨hi, hm, hx⟩
    simp only at hi hm hx ⊢
    by_cases hlt : i < l.length
    · rw [sumN_drop hlt] at hx
      simp [hlt, Part.row]
      refine ACall.pure (szPart_c l[i] (hs _ (List.getElem_mem hlt)) m hm) (by simp [Part.row]) ?_
      by_cases hk : nPart l[i] ≤ m
      · rw [szR_ok hk]
        have hz : ¬ ((m - nPart l[i] : Nat) : Int) < 0 := by omega
        simp [hz]
        refine ⟨i + 1, m - nPart l[i], ⟨by omega, by omega, ?_⟩, by omega, i64_suc (by omega), rfl⟩
        rw [← hx]; unfold szR; split <;> split <;> omega
      · rw [szR_no (show ¬ nPart l[i] + sumN nPart (l.drop (i + 1)) ≤ m by omega)] at hx
        rw [szR_no hk]
        simp [← hx]
    · have : i = l.length := by omega
      subst this
      simp only [List.drop_length, sumN, szR, Nat.zero_le, if_true, Nat.sub_zero] at hx
      simp [hx]
  · have hz : (left : Int) - l.length < 0 := by omega
    simp [hw, hz, szR_no (show ¬ nL nPart l ≤ left by omega)]
end Go.Proofs.YtdfdabjdfmamgaaGreat

namespace Go.Proofs.YtdfdabjdfmamgaaGreat
open Go.AM
set_option maxRecDepth 20000
theorem toEntry_c (x : Entry) (h : nEntry x ≤ 2 ^ 40) : PureC Tryz.prog 259 [.agg x.row] (.one (.agg x.res)) := by
  refine PureC.intro' tt_ok Tryz.func259 (by kernel_rfl) rfl rfl rfl (Nat.le_of_ble_eq_true rfl) (fun w0 base => ?_)
  unfold nEntry at h
  simp [Entry.row, Entry.res]
  try intros
  refine ACall.pure (toPartS_c x.o (by omega)) (by simp) ?_
  simp
  try intros
theorem eqEntry_c (x y : Entry) (h : nEntry x ≤ 2 ^ 40) : PureC Tryz.prog 265 [.agg x.row, .agg y.row] (.one (.c (vb (x = y)) 1)) := by
  refine PureC.intro' tt_ok Tryz.func265 (by kernel_rfl) rfl rfl rfl (Nat.le_of_ble_eq_true rfl) (fun w0 base => ?_)
  unfold nEntry at h
  obtain ⟨a0, a1, a2⟩ := x
  obtain ⟨b0, b1, b2⟩ := y
  simp only at h
  simp [Entry.row]
  try intros
  by_cases h0 : a0 = b0
  rotate_left
  · simp [h0]
  subst h0
  try simp
  by_cases h1 : a1 = b1
  rotate_left
  · simp [h1]
  subst h1
  try simp
  refine ACall.pure (eqPartS_c a2 b2 (by omega)) (by simp) ?_
  simp
  by_cases h2 : a2 = b2
  rotate_left
  · simp [h2]
  subst h2
  try simp
theorem szEntry_c (x : Entry) (h : x.fits) (left : Nat) (hf : left ≤ 2 ^ 20) : PureC Tryz.prog 255 [.agg x.row, .c (vi left)] (.one (.c (vi (szR (nEntry x) left)) 1)) := by
  refine PureC.intro' tt_ok Tryz.func255 (by kernel_rfl) rfl rfl rfl (Nat.le_of_ble_eq_true rfl) (fun w0 base => ?_)
  obtain ⟨f0, f1, f2⟩ := h
  obtain ⟨r, hr⟩ : ∃ r, szR (nEntry x) left = r := ⟨_, rfl⟩
  rw [hr]
  have hn : nEntry x = nL nPart x.o := rfl
  simp [Entry.row]
  try intros
  refine ACall.pure (szPartS_c x.o f2.1 f2.2 left (by omega)) (by simp) ?_
  by_cases k0 : nL nPart x.o ≤ left
  rotate_left
  · have : r = -1 := by rw [← hr]; exact szR_no (by omega)
    rw [szR_no k0]
    simp [this]
  rw [szR_ok k0]
  obtain ⟨m0, hm0⟩ : ∃ m, left - nL nPart x.o = m := ⟨_, rfl⟩
  rw [hm0]
  have : r = (m0 : Int) := by rw [← hr, szR_ok (by omega)]; omega
  simp [this]
theorem toEntryS_c (l : List Entry) (hl : nL nEntry l ≤ 2 ^ 40) : PureC Tryz.prog 172 [.c (.s (l.map Entry.row))] (.one (.c (.s (l.map Entry.row)) 3)) := by
  refine PureC.intro' tt_ok Tryz.func172 (by kernel_rfl) rfl rfl rfl (Nat.le_of_ble_eq_true rfl) (fun w0 base => ?_)
  have hle := nL_len hl
  simp
  refine ⟨by omega, fun b => ?_⟩
  refine LoopT.intro eok (fun i : Nat => i ≤ l.length) (fun i => ⟨23, 0, [(4, .v (.int .i64 i)), (3, .sl 112 (some (b, 0, l.length)) 3 0 l.length), (0, .ro (l.map Entry.row))],
    [(112, .rows (some (b, 0, l.length)) 3 (fillR Entry.row [.v (.int .i64 0), .v (.int .i64 0), .s []] l i) true)]⟩) (fun i => l.length - i) 0 (by simp) (by simp [fillR_0]) (fun i hi => ?_)
  by_cases h : i < l.length
  · simp [h, Entry.row]
    refine ACall.pure (toEntry_c l[i] (nL_at hl h)) (by simp [Entry.row]) ?_
    simp [Entry.res, fillR_length hi, h]
    exact ⟨i + 1, by omega, by omega, i64_suc (by omega), fillR_set (f := Entry.row) h⟩
  · have : i = l.length := by omega
    subst this
    simp [fillR_all, cut]
    try exact fun a _ => rfl
theorem eqEntryS_c (a b : List Entry) (hl : nL nEntry a ≤ 2 ^ 40) : PureC Tryz.prog 178 [.c (.s (a.map Entry.row)), .c (.s (b.map Entry.row))] (.one (.c (vb (a = b)) 1)) := by
  refine PureC.intro' tt_ok Tryz.func178 (by kernel_rfl) rfl rfl rfl (Nat.le_of_ble_eq_true rfl) (fun w0 base => ?_)
  have hle := nL_len hl
  by_cases h : a.length = b.length
  · simp [h]
    refine LoopT.intro eok (fun i : Nat => i ≤ a.length ∧ a.take i = b.take i) (fun i => ⟨27, 0, [(5, .v (.int .i64 i)), (1, .ro (b.map Entry.row)), (0, .ro (a.map Entry.row))], []⟩) (fun i => a.length - i) 0 (by simp) (by simp) (fun i hi => ?_)
    by_cases hlt : i < a.length
    · simp [hlt]
      have hlt' : i < b.length := by omega
      refine DrawT.quiet eok mix (by kernel_rfl) ?_
      simp [hlt, hlt', Entry.row]
      refine ⟨_, _, eqEntry_c a[i] b[i] (nL_at hl hlt), by simp [Entry.row], ?_⟩
      simp
      refine Br.mk (fun h1 => ?_) (fun h1 => ?_)
      · simp
        exact ⟨i + 1, ⟨by omega, take_next hlt hlt' hi.2 (of_yes h1)⟩, by omega, i64_suc (by omega)⟩
      · simp [dc_no]
        exact ne_at hlt hlt' (of_no h1)
    · simp [hlt, dc_yes]
      exact take_all (by omega) (by omega) hi.2
  · have hz : ¬ (a.length : Int) = b.length := by omega
    simp [hz, dc_no]
    exact fun h2 => absurd (by rw [h2]) h
theorem szEntryS_c (l : List Entry) (hl : l.length ≤ 9223372036854775807) (hs : ∀ y ∈ l, y.fits) (left : Nat) (hf : left ≤ 2 ^ 20) : PureC Tryz.prog 166 [.c (.s (l.map Entry.row)), .c (vi left)] (.one (.c (vi (szR (nL nEntry l) left)) 1)) := by
  refine PureC.intro' tt_ok Tryz.func166 (by kernel_rfl) rfl rfl rfl (Nat.le_of_ble_eq_true rfl) (fun w0 base => ?_)
  have hw : IntKind.i64.wrap ((left : Int) - (l.length : Int)) = (left : Int) - l.length := IntWalk.i64_in _ (by omega)
  have hn : nL nEntry l = l.length + sumN nEntry l := rfl
  by_cases h : l.length ≤ left
  · obtain ⟨lf, hlf⟩ : ∃ lf : Nat, left - l.length = lf := ⟨_, rfl⟩
    have hlz : (left : Int) - l.length = (lf : Int) := by omega
    have hw2 : IntKind.i64.wrap (lf : Int) = lf := i64_nat (by omega)
    simp [hlz, hw2]
    obtain ⟨r, hr⟩ : ∃ r, szR (nL nEntry l) left = r := ⟨_, rfl⟩
    have hr0 : szR (sumN nEntry l) lf = r := by rw [← hr]; unfold szR; split <;> split <;> omega
    rw [hr]
    refine LoopT.intro eok (fun x : Nat × Nat => x.1 ≤ l.length ∧ x.2 ≤ 2 ^ 20 ∧ szR (sumN nEntry (l.drop x.1)) x.2 = r) (fun x => ⟨27, 0, [(5, .v (.int .i64 x.1)), (1, .v (.int .i64 x.2)), (0, .ro (l.map Entry.row))], []⟩) (fun x => l.length - x.1) (0, lf) (by simp [hr0]; omega) (by simp) ?_
    rintro ⟨i, m⟩ ⟨hi, hm, hx⟩
    simp only at hi hm hx ⊢
    by_cases hlt : i < l.length
    · rw [sumN_drop hlt] at hx
      simp [hlt, Entry.row]
      refine ACall.pure (szEntry_c l[i] (hs _ (List.getElem_mem hlt)) m hm) (by simp [Entry.row]) ?_
      by_cases hk : nEntry l[i] ≤ m
      · rw [szR_ok hk]
        have hz : ¬ ((m - nEntry l[i] : Nat) : Int) < 0 := by omega
        simp [hz]
        refine ⟨i + 1, m - nEntry l[i], ⟨by omega, by omega, ?_⟩, by omega, i64_suc (by omega), rfl⟩
        rw [← hx]; unfold szR; split <;> split <;> omega
      · rw [szR_no (show ¬ nEntry l[i] + sumN nEntry (l.drop (i + 1)) ≤ m by omega)] at hx
        rw [szR_no hk]
        simp [← hx]
    · have : i = l.length := by omega
      subst this
      simp only [List.drop_length, sumN, szR, Nat.zero_le, if_true, Nat.sub_zero] at hx
      simp [hx]
  · have hz : (left : Int) - l.length < 0 := by omega
    simp [hw, hz, szR_no (show ¬ nL nEntry l ≤ left by omega)]
end Go.Proofs.YtdfdabjdfmamgaaGreat

namespace Go.Proofs.YtdfdabjdfmamgaaGreat
open Go.AM
set_option maxRecDepth 20000
theorem toAnswer_c (x : Answer) (h : nAnswer x ≤ 2 ^ 40) : PureC Tryz.prog 276 [.agg x.row] (.one (.agg x.res)) := by
  refine PureC.intro' tt_ok Tryz.func276 (by kernel_rfl) rfl rfl rfl (Nat.le_of_ble_eq_true rfl) (fun w0 base => ?_)
  unfold nAnswer at h
  simp [Answer.row, Answer.res]
  try intros
  refine ACall.pure (toIntS_c x.text (by omega)) (by simp) ?_
  simp
  try intros
  refine ACall.pure (toEntryS_c x.list (by omega)) (by simp) ?_
  simp
  try intros

theorem eqAnswer_c (x y : Answer) (h : nAnswer x ≤ 2 ^ 40) : PureC Tryz.prog 280 [.agg x.row, .agg y.row] (.one (.c (vb (x = y)) 1)) := by
  refine PureC.intro' tt_ok Tryz.func280 (by kernel_rfl) rfl rfl rfl (Nat.le_of_ble_eq_true rfl) (fun w0 base => ?_)
  unfold nAnswer at h
  obtain ⟨a0, a1, a2, a3⟩ := x
  obtain ⟨b0, b1, b2, b3⟩ := y
  simp only at h
  simp [Answer.row]
  try intros
  by_cases h0 : a0 = b0
  rotate_left
  · simp [h0]
  subst h0
  try simp
  by_cases h1 : a1 = b1
  rotate_left
  · simp [h1]
  subst h1
  try simp
  refine ACall.pure (eqIntS_c a2 b2 (by omega)) (by simp) ?_
  simp
  by_cases h2 : a2 = b2
  rotate_left
  · simp [h2]
  subst h2
  try simp
  refine ACall.pure (eqEntryS_c a3 b3 (by omega)) (by simp) ?_
  simp
  by_cases h3 : a3 = b3
  rotate_left
  · simp [h3]
  subst h3
  try simp

theorem szAnswer_c (x : Answer) (h : x.fits) (left : Nat) (hf : left ≤ 2 ^ 20) : PureC Tryz.prog 273 [.agg x.row, .c (vi left)] (.one (.c (vi (szR (nAnswer x) left)) 1)) := by
  refine PureC.intro' tt_ok Tryz.func273 (by kernel_rfl) rfl rfl rfl (Nat.le_of_ble_eq_true rfl) (fun w0 base => ?_)
  obtain ⟨f0, f1, f2, f3⟩ := h
  obtain ⟨r, hr⟩ : ∃ r, szR (nAnswer x) left = r := ⟨_, rfl⟩
  rw [hr]
  have hn : nAnswer x = x.text.length + (nL nEntry x.list) := rfl
  simp [Answer.row]
  try intros
  refine ACall.pure (szIntS_c x.text f2.1 left (by omega)) (by simp) ?_
  by_cases k0 : x.text.length ≤ left
  rotate_left
  · have : r = -1 := by rw [← hr]; exact szR_no (by omega)
    rw [szR_no k0]
    simp [this]
  rw [szR_ok k0]
  obtain ⟨m0, hm0⟩ : ∃ m, left - x.text.length = m := ⟨_, rfl⟩
  rw [hm0]
  simp
  refine ACall.pure (szEntryS_c x.list f3.1 f3.2 m0 (by omega)) (by simp) ?_
  by_cases k1 : nL nEntry x.list ≤ m0
  rotate_left
  · have : r = -1 := by rw [← hr]; exact szR_no (by omega)
    rw [szR_no k1]
    simp [this]
  rw [szR_ok k1]
  obtain ⟨m1, hm1⟩ : ∃ m, m0 - nL nEntry x.list = m := ⟨_, rfl⟩
  rw [hm1]
  have : r = (m1 : Int) := by rw [← hr, szR_ok (by omega)]; omega
  simp [this]
end Go.Proofs.YtdfdabjdfmamgaaGreat

namespace Go.Proofs.YtdfdabjdfmamgaaGreat
open Go.AM
set_option maxRecDepth 20000
end Go.Proofs.YtdfdabjdfmamgaaGreat

namespace Go.Proofs.YtdfdabjdfmamgaaGreat
open Go.AM
set_option maxRecDepth 20000
end Go.Proofs.YtdfdabjdfmamgaaGreat

namespace Go.Proofs.YtdfdabjdfmamgaaGreat
open Go.AM
set_option maxRecDepth 20000
theorem toSeen_c (x : Seen) : PureC Tryz.prog 260 [.agg x.row] (.one (.agg x.res)) := by
  refine PureC.intro' tt_ok Tryz.func260 (by kernel_rfl) rfl rfl rfl (Nat.le_of_ble_eq_true rfl) (fun w0 base => ?_)
  simp [Seen.row, Seen.res]
  try intros
theorem eqSeen_c (x y : Seen) : PureC Tryz.prog 266 [.agg x.row, .agg y.row] (.one (.c (vb (x = y)) 1)) := by
  refine PureC.intro' tt_ok Tryz.func266 (by kernel_rfl) rfl rfl rfl (Nat.le_of_ble_eq_true rfl) (fun w0 base => ?_)
  obtain ⟨a0, a1, a2⟩ := x
  obtain ⟨b0, b1, b2⟩ := y
  simp [Seen.row]
  try intros
  by_cases h0 : a0 = b0
  rotate_left
  · simp [h0]
  subst h0
  try simp
  by_cases h1 : a1 = b1
  rotate_left
  · simp [h1]
  subst h1
  try simp
  by_cases h2 : a2 = b2
  rotate_left
  · simp [h2]
  subst h2
  try simp
theorem toSeenS_c (l : List Seen) (hl : l.length ≤ 2 ^ 40) : PureC Tryz.prog 173 [.c (.s (l.map Seen.row))] (.one (.c (.s (l.map Seen.row)) 3)) := by
  refine PureC.intro' tt_ok Tryz.func173 (by kernel_rfl) rfl rfl rfl (Nat.le_of_ble_eq_true rfl) (fun w0 base => ?_)
  simp
  refine ⟨by omega, fun b => ?_⟩
  refine LoopT.intro eok (fun i : Nat => i ≤ l.length) (fun i => ⟨23, 0, [(4, .v (.int .i64 i)), (3, .sl 112 (some (b, 0, l.length)) 3 0 l.length), (0, .ro (l.map Seen.row))],
    [(112, .rows (some (b, 0, l.length)) 3 (fillR Seen.row [.v (.int .i64 0), .v (.int .i64 0), .v (.int .i64 0)] l i) true)]⟩) (fun i => l.length - i) 0 (by simp) (by simp [fillR_0]) (fun i hi => ?_)
  by_cases h : i < l.length
  · simp [h, Seen.row]
    refine ACall.pure (toSeen_c l[i]) (by simp [Seen.row]) ?_
    simp [Seen.res, fillR_length hi, h]
    exact ⟨i + 1, by omega, by omega, i64_suc (by omega), fillR_set (f := Seen.row) h⟩
  · have : i = l.length := by omega
    subst this
    simp [fillR_all, cut]
    try exact fun a _ => rfl
theorem eqSeenS_c (a b : List Seen) (hl : a.length ≤ 2 ^ 40) : PureC Tryz.prog 179 [.c (.s (a.map Seen.row)), .c (.s (b.map Seen.row))] (.one (.c (vb (a = b)) 1)) := by
  refine PureC.intro' tt_ok Tryz.func179 (by kernel_rfl) rfl rfl rfl (Nat.le_of_ble_eq_true rfl) (fun w0 base => ?_)
  by_cases h : a.length = b.length
  · simp [h]
    refine LoopT.intro eok (fun i : Nat => i ≤ a.length ∧ a.take i = b.take i) (fun i => ⟨27, 0, [(5, .v (.int .i64 i)), (1, .ro (b.map Seen.row)), (0, .ro (a.map Seen.row))], []⟩) (fun i => a.length - i) 0 (by simp) (by simp) (fun i hi => ?_)
    by_cases hlt : i < a.length
    · simp [hlt]
      have hlt' : i < b.length := by omega
      refine DrawT.quiet eok mix (by kernel_rfl) ?_
      simp [hlt, hlt', Seen.row]
      refine ⟨_, _, eqSeen_c a[i] b[i], by simp [Seen.row], ?_⟩
      simp
      refine Br.mk (fun h1 => ?_) (fun h1 => ?_)
      · simp
        exact ⟨i + 1, ⟨by omega, take_next hlt hlt' hi.2 (of_yes h1)⟩, by omega, i64_suc (by omega)⟩
      · simp [dc_no]
        exact ne_at hlt hlt' (of_no h1)
    · simp [hlt, dc_yes]
      exact take_all (by omega) (by omega) hi.2
  · have hz : ¬ (a.length : Int) = b.length := by omega
    simp [hz, dc_no]
    exact fun h2 => absurd (by rw [h2]) h
theorem szSeenS_c (l : List Seen) (hl : l.length ≤ 9223372036854775807) (left : Nat) (hf : left ≤ 2 ^ 20) : PureC Tryz.prog 167 [.c (.s (l.map Seen.row)), .c (vi left)] (.one (.c (vi (szR l.length left)) 1)) := by
  refine PureC.intro' tt_ok Tryz.func167 (by kernel_rfl) rfl rfl rfl (Nat.le_of_ble_eq_true rfl) (fun w0 base => ?_)
  have hw : IntKind.i64.wrap ((left : Int) - (l.length : Int)) = (left : Int) - l.length := IntWalk.i64_in _ (by omega)
  simp [hw]
  by_cases h : l.length ≤ left
  · have hz : ¬ (left : Int) - l.length < 0 := by omega
    simp [hz, szR_ok h]
    omega
  · have hz : (left : Int) - l.length < 0 := by omega
    simp [hz, szR_no h]
end Go.Proofs.YtdfdabjdfmamgaaGreat

namespace Go.Proofs.YtdfdabjdfmamgaaGreat
open Go.AM
set_option maxRecDepth 20000
theorem toDoc_c (x : Doc) (h : nDoc x ≤ 2 ^ 40) : PureC Tryz.prog 81 [.agg x.row] (.one (.agg x.res)) := by
  refine PureC.intro' tt_ok Tryz.func81 (by kernel_rfl) rfl rfl rfl (Nat.le_of_ble_eq_true rfl) (fun w0 base => ?_)
  unfold nDoc at h
  simp [Doc.row, Doc.res]
  try intros
  refine ACall.pure (toIntS_c x.text (by omega)) (by simp) ?_
  simp
  try intros
  refine ACall.pure (toEntryS_c x.list (by omega)) (by simp) ?_
  simp
  try intros
  refine ACall.pure (toSeenS_c x.seen (by omega)) (by simp) ?_
  simp
  try intros
theorem eqDoc_c (x y : Doc) (h : nDoc x ≤ 2 ^ 40) : PureC Tryz.prog 86 [.agg x.row, .agg y.row] (.one (.c (vb (x = y)) 1)) := by
  refine PureC.intro' tt_ok Tryz.func86 (by kernel_rfl) rfl rfl rfl (Nat.le_of_ble_eq_true rfl) (fun w0 base => ?_)
  unfold nDoc at h
  obtain ⟨a0, a1, a2, a3, a4⟩ := x
  obtain ⟨b0, b1, b2, b3, b4⟩ := y
  simp only at h
  simp [Doc.row]
  try intros
  by_cases h0 : a0 = b0
  rotate_left
  · simp [h0]
  subst h0
  try simp
  by_cases h1 : a1 = b1
  rotate_left
  · simp [h1]
  subst h1
  try simp
  refine ACall.pure (eqIntS_c a2 b2 (by omega)) (by simp) ?_
  simp
  by_cases h2 : a2 = b2
  rotate_left
  · simp [h2]
  subst h2
  try simp
  refine ACall.pure (eqEntryS_c a3 b3 (by omega)) (by simp) ?_
  simp
  by_cases h3 : a3 = b3
  rotate_left
  · simp [h3]
  subst h3
  try simp
  refine ACall.pure (eqSeenS_c a4 b4 (by omega)) (by simp) ?_
  simp
  by_cases h4 : a4 = b4
  rotate_left
  · simp [h4]
  subst h4
  try simp
theorem szDoc_c (x : Doc) (h : x.fits) (left : Nat) (hf : left ≤ 2 ^ 20) : PureC Tryz.prog 76 [.agg x.row, .c (vi left)] (.one (.c (vi (szR (nDoc x) left)) 1)) := by
  refine PureC.intro' tt_ok Tryz.func76 (by kernel_rfl) rfl rfl rfl (Nat.le_of_ble_eq_true rfl) (fun w0 base => ?_)
  obtain ⟨f0, f1, f2, f3, f4⟩ := h
  obtain ⟨r, hr⟩ : ∃ r, szR (nDoc x) left = r := ⟨_, rfl⟩
  rw [hr]
  have hn : nDoc x = x.name.size + (x.text.length + (nL nEntry x.list + (x.seen.length))) := rfl
  simp [Doc.row]
  try intros
  by_cases k0 : x.name.size ≤ left
  rotate_left
  · have hw : IntKind.i64.wrap ((left : Int) - (x.name.size : Int)) = (left : Int) - x.name.size := IntWalk.i64_in _ (by omega)
    have hz : (left : Int) - x.name.size < 0 := by omega
    have : r = -1 := by rw [← hr]; exact szR_no (by omega)
    simp [hw, hz, this]
  obtain ⟨m0, hm0⟩ : ∃ m, left - x.name.size = m := ⟨_, rfl⟩
  have w0 : IntKind.i64.wrap ((left : Int) - (x.name.size : Int)) = (m0 : Int) := by rw [IntWalk.i64_in _ (by omega)]; omega
  simp [w0]
  refine ACall.pure (szIntS_c x.text f2.1 m0 (by omega)) (by simp) ?_
  by_cases k1 : x.text.length ≤ m0
  rotate_left
  · have : r = -1 := by rw [← hr]; exact szR_no (by omega)
    rw [szR_no k1]
    simp [this]
  rw [szR_ok k1]
  obtain ⟨m1, hm1⟩ : ∃ m, m0 - x.text.length = m := ⟨_, rfl⟩
  rw [hm1]
  simp
  refine ACall.pure (szEntryS_c x.list f3.1 f3.2 m1 (by omega)) (by simp) ?_
  by_cases k2 : nL nEntry x.list ≤ m1
  rotate_left
  · have : r = -1 := by rw [← hr]; exact szR_no (by omega)
    rw [szR_no k2]
    simp [this]
  rw [szR_ok k2]
  obtain ⟨m2, hm2⟩ : ∃ m, m1 - nL nEntry x.list = m := ⟨_, rfl⟩
  rw [hm2]
  simp
  refine ACall.pure (szSeenS_c x.seen f4.1 m2 (by omega)) (by simp) ?_
  by_cases k3 : x.seen.length ≤ m2
  rotate_left
  · have : r = -1 := by rw [← hr]; exact szR_no (by omega)
    rw [szR_no k3]
    simp [this]
  rw [szR_ok k3]
  obtain ⟨m3, hm3⟩ : ∃ m, m2 - x.seen.length = m := ⟨_, rfl⟩
  rw [hm3]
  have : r = (m3 : Int) := by rw [← hr, szR_ok (by omega)]; omega
  simp [this]
theorem toDocS_c (l : List Doc) (hl : nL nDoc l ≤ 2 ^ 40) : PureC Tryz.prog 116 [.c (.s (l.map Doc.row))] (.one (.c (.s (l.map Doc.row)) 5)) := by
  refine PureC.intro' tt_ok Tryz.func116 (by kernel_rfl) rfl rfl rfl (Nat.le_of_ble_eq_true rfl) (fun w0 base => ?_)
  have hle := nL_len hl
  simp
  refine ⟨by omega, fun b => ?_⟩
  refine LoopT.intro eok (fun i : Nat => i ≤ l.length) (fun i => ⟨23, 0, [(4, .v (.int .i64 i)), (3, .sl 112 (some (b, 0, l.length)) 5 0 l.length), (0, .ro (l.map Doc.row))],
    [(112, .rows (some (b, 0, l.length)) 5 (fillR Doc.row [.v (.string ⟨#[]⟩), .v (.int .i64 0), .s [], .s [], .s []] l i) true)]⟩) (fun i => l.length - i) 0 (by simp) (by simp [fillR_0]) (fun i hi => ?_)
  by_cases h : i < l.length
  · simp [h, Doc.row]
    refine ACall.pure (toDoc_c l[i] (nL_at hl h)) (by simp [Doc.row]) ?_
    simp [Doc.res, fillR_length hi, h]
    exact ⟨i + 1, by omega, by omega, i64_suc (by omega), fillR_set (f := Doc.row) h⟩
  · have : i = l.length := by omega
    subst this
    simp [fillR_all, cut]
    try exact fun a _ => rfl
theorem eqDocS_c (a b : List Doc) (hl : nL nDoc a ≤ 2 ^ 40) : PureC Tryz.prog 119 [.c (.s (a.map Doc.row)), .c (.s (b.map Doc.row))] (.one (.c (vb (a = b)) 1)) := by
  refine PureC.intro' tt_ok Tryz.func119 (by kernel_rfl) rfl rfl rfl (Nat.le_of_ble_eq_true rfl) (fun w0 base => ?_)
  have hle := nL_len hl
  by_cases h : a.length = b.length
  · simp [h]
    refine LoopT.intro eok (fun i : Nat => i ≤ a.length ∧ a.take i = b.take i) (fun i => ⟨27, 0, [(5, .v (.int .i64 i)), (1, .ro (b.map Doc.row)), (0, .ro (a.map Doc.row))], []⟩) (fun i => a.length - i) 0 (by simp) (by simp) (fun i hi => ?_)
    by_cases hlt : i < a.length
    · simp [hlt]
      have hlt' : i < b.length := by omega
      refine DrawT.quiet eok mix (by kernel_rfl) ?_
      simp [hlt, hlt', Doc.row]
      refine ⟨_, _, eqDoc_c a[i] b[i] (nL_at hl hlt), by simp [Doc.row], ?_⟩
      simp
      refine Br.mk (fun h1 => ?_) (fun h1 => ?_)
      · simp
        exact ⟨i + 1, ⟨by omega, take_next hlt hlt' hi.2 (of_yes h1)⟩, by omega, i64_suc (by omega)⟩
      · simp [dc_no]
        exact ne_at hlt hlt' (of_no h1)
    · simp [hlt, dc_yes]
      exact take_all (by omega) (by omega) hi.2
  · have hz : ¬ (a.length : Int) = b.length := by omega
    simp [hz, dc_no]
    exact fun h2 => absurd (by rw [h2]) h
theorem szDocS_c (l : List Doc) (hl : l.length ≤ 9223372036854775807) (hs : ∀ y ∈ l, y.fits) (left : Nat) (hf : left ≤ 2 ^ 20) : PureC Tryz.prog 113 [.c (.s (l.map Doc.row)), .c (vi left)] (.one (.c (vi (szR (nL nDoc l) left)) 1)) := by
  refine PureC.intro' tt_ok Tryz.func113 (by kernel_rfl) rfl rfl rfl (Nat.le_of_ble_eq_true rfl) (fun w0 base => ?_)
  have hw : IntKind.i64.wrap ((left : Int) - (l.length : Int)) = (left : Int) - l.length := IntWalk.i64_in _ (by omega)
  have hn : nL nDoc l = l.length + sumN nDoc l := rfl
  by_cases h : l.length ≤ left
  · obtain ⟨lf, hlf⟩ : ∃ lf : Nat, left - l.length = lf := ⟨_, rfl⟩
    have hlz : (left : Int) - l.length = (lf : Int) := by omega
    have hw2 : IntKind.i64.wrap (lf : Int) = lf := i64_nat (by omega)
    simp [hlz, hw2]
    obtain ⟨r, hr⟩ : ∃ r, szR (nL nDoc l) left = r := ⟨_, rfl⟩
    have hr0 : szR (sumN nDoc l) lf = r := by rw [← hr]; unfold szR; split <;> split <;> omega
    rw [hr]
    refine LoopT.intro eok (fun x : Nat × Nat => x.1 ≤ l.length ∧ x.2 ≤ 2 ^ 20 ∧ szR (sumN nDoc (l.drop x.1)) x.2 = r) (fun x => ⟨27, 0, [(5, .v (.int .i64 x.1)), (1, .v (.int .i64 x.2)), (0, .ro (l.map Doc.row))], []⟩) (fun x => l.length - x.1) (0, lf) (by simp [hr0]; omega) (by simp) ?_
    rintro ⟨i, m⟩ ⟨hi, hm, hx⟩
    simp only at hi hm hx ⊢
    by_cases hlt : i < l.length
    · rw [sumN_drop hlt] at hx
      simp [hlt, Doc.row]
      refine ACall.pure (szDoc_c l[i] (hs _ (List.getElem_mem hlt)) m hm) (by simp [Doc.row]) ?_
      by_cases hk : nDoc l[i] ≤ m
      · rw [szR_ok hk]
        have hz : ¬ ((m - nDoc l[i] : Nat) : Int) < 0 := by omega
        simp [hz]
        refine ⟨i + 1, m - nDoc l[i], ⟨by omega, by omega, ?_⟩, by omega, i64_suc (by omega), rfl⟩
        rw [← hx]; unfold szR; split <;> split <;> omega
      · rw [szR_no (show ¬ nDoc l[i] + sumN nDoc (l.drop (i + 1)) ≤ m by omega)] at hx
        rw [szR_no hk]
        simp [← hx]
    · have : i = l.length := by omega
      subst this
      simp only [List.drop_length, sumN, szR, Nat.zero_le, if_true, Nat.sub_zero] at hx
      simp [hx]
  · have hz : (left : Int) - l.length < 0 := by omega
    simp [hw, hz, szR_no (show ¬ nL nDoc l ≤ left by omega)]
end Go.Proofs.YtdfdabjdfmamgaaGreat

namespace Go.Proofs.YtdfdabjdfmamgaaGreat
open Go.AM
set_option maxRecDepth 20000
end Go.Proofs.YtdfdabjdfmamgaaGreat

namespace Go.Proofs.YtdfdabjdfmamgaaGreat
open Go.AM
set_option maxRecDepth 20000
theorem toRing_c (x : Ring) (h : nRing x ≤ 2 ^ 40) : PureC Tryz.prog 284 [.agg x.row] (.one (.agg x.res)) := by
  refine PureC.intro' tt_ok Tryz.func284 (by kernel_rfl) rfl rfl rfl (Nat.le_of_ble_eq_true rfl) (fun w0 base => ?_)
  unfold nRing at h
  simp [Ring.row, Ring.res]
  try intros
  refine ACall.pure (toEntryS_c x.list (by omega)) (by simp) ?_
  simp
  try intros

theorem eqRing_c (x y : Ring) (h : nRing x ≤ 2 ^ 40) : PureC Tryz.prog 286 [.agg x.row, .agg y.row] (.one (.c (vb (x = y)) 1)) := by
  refine PureC.intro' tt_ok Tryz.func286 (by kernel_rfl) rfl rfl rfl (Nat.le_of_ble_eq_true rfl) (fun w0 base => ?_)
  unfold nRing at h
  obtain ⟨a0, a1, a2, a3⟩ := x
  obtain ⟨b0, b1, b2, b3⟩ := y
  simp only at h
  simp [Ring.row]
  try intros
  by_cases h0 : a0 = b0
  rotate_left
  · simp [h0]
  subst h0
  try simp
  by_cases h1 : a1 = b1
  rotate_left
  · simp [h1]
  subst h1
  try simp
  by_cases h2 : a2 = b2
  rotate_left
  · simp [h2]
  subst h2
  try simp
  refine ACall.pure (eqEntryS_c a3 b3 (by omega)) (by simp) ?_
  simp
  by_cases h3 : a3 = b3
  rotate_left
  · simp [h3]
  subst h3
  try simp

theorem szRing_c (x : Ring) (h : x.fits) (left : Nat) (hf : left ≤ 2 ^ 20) : PureC Tryz.prog 281 [.agg x.row, .c (vi left)] (.one (.c (vi (szR (nRing x) left)) 1)) := by
  refine PureC.intro' tt_ok Tryz.func281 (by kernel_rfl) rfl rfl rfl (Nat.le_of_ble_eq_true rfl) (fun w0 base => ?_)
  obtain ⟨f0, f1, f2, f3⟩ := h
  obtain ⟨r, hr⟩ : ∃ r, szR (nRing x) left = r := ⟨_, rfl⟩
  rw [hr]
  have hn : nRing x = nL nEntry x.list := rfl
  simp [Ring.row]
  try intros
  refine ACall.pure (szEntryS_c x.list f3.1 f3.2 left (by omega)) (by simp) ?_
  by_cases k0 : nL nEntry x.list ≤ left
  rotate_left
  · have : r = -1 := by rw [← hr]; exact szR_no (by omega)
    rw [szR_no k0]
    simp [this]
  rw [szR_ok k0]
  obtain ⟨m0, hm0⟩ : ∃ m, left - nL nEntry x.list = m := ⟨_, rfl⟩
  rw [hm0]
  have : r = (m0 : Int) := by rw [← hr, szR_ok (by omega)]; omega
  simp [this]
end Go.Proofs.YtdfdabjdfmamgaaGreat

namespace Go.Proofs.YtdfdabjdfmamgaaGreat
open Go.AM
set_option maxRecDepth 20000
theorem toSub_c (x : Sub) (h : nSub x ≤ 2 ^ 40) : PureC Tryz.prog 207 [.agg x.row] (.one (.agg x.res)) := by
  refine PureC.intro' tt_ok Tryz.func207 (by kernel_rfl) rfl rfl rfl (Nat.le_of_ble_eq_true rfl) (fun w0 base => ?_)
  unfold nSub at h
  simp [Sub.row, Sub.res]
  try intros
  refine ACall.pure (toRing_c x.r (by omega)) (by simp [Ring.row]) ?_
  simp [Ring.res]
  try intros
theorem eqSub_c (x y : Sub) (h : nSub x ≤ 2 ^ 40) : PureC Tryz.prog 210 [.agg x.row, .agg y.row] (.one (.c (vb (x = y)) 1)) := by
  refine PureC.intro' tt_ok Tryz.func210 (by kernel_rfl) rfl rfl rfl (Nat.le_of_ble_eq_true rfl) (fun w0 base => ?_)
  unfold nSub at h
  obtain ⟨a0, a1, a2⟩ := x
  obtain ⟨b0, b1, b2⟩ := y
  simp only at h
  simp [Sub.row]
  try intros
  by_cases h0 : a0 = b0
  rotate_left
  · simp [h0]
  subst h0
  try simp
  by_cases h1 : a1 = b1
  rotate_left
  · simp [h1]
  subst h1
  try simp
  refine ACall.pure (eqRing_c a2 b2 (by omega)) (by simp [Ring.row]) ?_
  simp
  by_cases h2 : a2 = b2
  rotate_left
  · simp [h2]
  subst h2
  try simp
theorem szSub_c (x : Sub) (h : x.fits) (left : Nat) (hf : left ≤ 2 ^ 20) : PureC Tryz.prog 204 [.agg x.row, .c (vi left)] (.one (.c (vi (szR (nSub x) left)) 1)) := by
  refine PureC.intro' tt_ok Tryz.func204 (by kernel_rfl) rfl rfl rfl (Nat.le_of_ble_eq_true rfl) (fun w0 base => ?_)
  obtain ⟨f0, f1, f2⟩ := h
  obtain ⟨r, hr⟩ : ∃ r, szR (nSub x) left = r := ⟨_, rfl⟩
  rw [hr]
  have hn : nSub x = x.doc.size + (nRing x.r) := rfl
  simp [Sub.row]
  try intros
  by_cases k0 : x.doc.size ≤ left
  rotate_left
  · have hw : IntKind.i64.wrap ((left : Int) - (x.doc.size : Int)) = (left : Int) - x.doc.size := IntWalk.i64_in _ (by omega)
    have hz : (left : Int) - x.doc.size < 0 := by omega
    have : r = -1 := by rw [← hr]; exact szR_no (by omega)
    simp [hw, hz, this]
  obtain ⟨m0, hm0⟩ : ∃ m, left - x.doc.size = m := ⟨_, rfl⟩
  have w0 : IntKind.i64.wrap ((left : Int) - (x.doc.size : Int)) = (m0 : Int) := by rw [IntWalk.i64_in _ (by omega)]; omega
  simp [w0]
  refine ACall.pure (szRing_c x.r f2 m0 (by omega)) (by simp [Ring.row]) ?_
  by_cases k1 : nRing x.r ≤ m0
  rotate_left
  · have : r = -1 := by rw [← hr]; exact szR_no (by omega)
    rw [szR_no k1]
    simp [this]
  rw [szR_ok k1]
  obtain ⟨m1, hm1⟩ : ∃ m, m0 - nRing x.r = m := ⟨_, rfl⟩
  rw [hm1]
  have : r = (m1 : Int) := by rw [← hr, szR_ok (by omega)]; omega
  simp [this]
theorem toSubS_c (l : List Sub) (hl : nL nSub l ≤ 2 ^ 40) : PureC Tryz.prog 117 [.c (.s (l.map Sub.row))] (.one (.c (.s (l.map Sub.row)) 6)) := by
  refine PureC.intro' tt_ok Tryz.func117 (by kernel_rfl) rfl rfl rfl (Nat.le_of_ble_eq_true rfl) (fun w0 base => ?_)
  have hle := nL_len hl
  simp
  refine ⟨by omega, fun b => ?_⟩
  refine LoopT.intro eok (fun i : Nat => i ≤ l.length) (fun i => ⟨23, 0, [(4, .v (.int .i64 i)), (3, .sl 112 (some (b, 0, l.length)) 6 0 l.length), (0, .ro (l.map Sub.row))],
    [(112, .rows (some (b, 0, l.length)) 6 (fillR Sub.row [.v (.int .i64 0), .v (.string ⟨#[]⟩), .v (.int .i64 0), .v (.int .i64 0), .v (.bool false), .s []] l i) true)]⟩) (fun i => l.length - i) 0 (by simp) (by simp [fillR_0]) (fun i hi => ?_)
  by_cases h : i < l.length
  · simp [h, Sub.row]
    refine ACall.pure (toSub_c l[i] (nL_at hl h)) (by simp [Sub.row]) ?_
    simp [Sub.res, fillR_length hi, h]
    exact ⟨i + 1, by omega, by omega, i64_suc (by omega), fillR_set (f := Sub.row) h⟩
  · have : i = l.length := by omega
    subst this
    simp [fillR_all, cut]
    try exact fun a _ => rfl
theorem eqSubS_c (a b : List Sub) (hl : nL nSub a ≤ 2 ^ 40) : PureC Tryz.prog 120 [.c (.s (a.map Sub.row)), .c (.s (b.map Sub.row))] (.one (.c (vb (a = b)) 1)) := by
  refine PureC.intro' tt_ok Tryz.func120 (by kernel_rfl) rfl rfl rfl (Nat.le_of_ble_eq_true rfl) (fun w0 base => ?_)
  have hle := nL_len hl
  by_cases h : a.length = b.length
  · simp [h]
    refine LoopT.intro eok (fun i : Nat => i ≤ a.length ∧ a.take i = b.take i) (fun i => ⟨27, 0, [(5, .v (.int .i64 i)), (1, .ro (b.map Sub.row)), (0, .ro (a.map Sub.row))], []⟩) (fun i => a.length - i) 0 (by simp) (by simp) (fun i hi => ?_)
    by_cases hlt : i < a.length
    · simp [hlt]
      have hlt' : i < b.length := by omega
      refine DrawT.quiet eok mix (by kernel_rfl) ?_
      simp [hlt, hlt', Sub.row]
      refine ⟨_, _, eqSub_c a[i] b[i] (nL_at hl hlt), by simp [Sub.row], ?_⟩
      simp
      refine Br.mk (fun h1 => ?_) (fun h1 => ?_)
      · simp
        exact ⟨i + 1, ⟨by omega, take_next hlt hlt' hi.2 (of_yes h1)⟩, by omega, i64_suc (by omega)⟩
      · simp [dc_no]
        exact ne_at hlt hlt' (of_no h1)
    · simp [hlt, dc_yes]
      exact take_all (by omega) (by omega) hi.2
  · have hz : ¬ (a.length : Int) = b.length := by omega
    simp [hz, dc_no]
    exact fun h2 => absurd (by rw [h2]) h
theorem szSubS_c (l : List Sub) (hl : l.length ≤ 9223372036854775807) (hs : ∀ y ∈ l, y.fits) (left : Nat) (hf : left ≤ 2 ^ 20) : PureC Tryz.prog 114 [.c (.s (l.map Sub.row)), .c (vi left)] (.one (.c (vi (szR (nL nSub l) left)) 1)) := by
  refine PureC.intro' tt_ok Tryz.func114 (by kernel_rfl) rfl rfl rfl (Nat.le_of_ble_eq_true rfl) (fun w0 base => ?_)
  have hw : IntKind.i64.wrap ((left : Int) - (l.length : Int)) = (left : Int) - l.length := IntWalk.i64_in _ (by omega)
  have hn : nL nSub l = l.length + sumN nSub l := rfl
  by_cases h : l.length ≤ left
  · obtain ⟨lf, hlf⟩ : ∃ lf : Nat, left - l.length = lf := ⟨_, rfl⟩
    have hlz : (left : Int) - l.length = (lf : Int) := by omega
    have hw2 : IntKind.i64.wrap (lf : Int) = lf := i64_nat (by omega)
    simp [hlz, hw2]
    obtain ⟨r, hr⟩ : ∃ r, szR (nL nSub l) left = r := ⟨_, rfl⟩
    have hr0 : szR (sumN nSub l) lf = r := by rw [← hr]; unfold szR; split <;> split <;> omega
    rw [hr]
    refine LoopT.intro eok (fun x : Nat × Nat => x.1 ≤ l.length ∧ x.2 ≤ 2 ^ 20 ∧ szR (sumN nSub (l.drop x.1)) x.2 = r) (fun x => ⟨27, 0, [(5, .v (.int .i64 x.1)), (1, .v (.int .i64 x.2)), (0, .ro (l.map Sub.row))], []⟩) (fun x => l.length - x.1) (0, lf) (by simp [hr0]; omega) (by simp) ?_
    rintro ⟨i, m⟩ ⟨hi, hm, hx⟩
    simp only at hi hm hx ⊢
    by_cases hlt : i < l.length
    · rw [sumN_drop hlt] at hx
      simp [hlt, Sub.row]
      refine ACall.pure (szSub_c l[i] (hs _ (List.getElem_mem hlt)) m hm) (by simp [Sub.row]) ?_
      by_cases hk : nSub l[i] ≤ m
      · rw [szR_ok hk]
        have hz : ¬ ((m - nSub l[i] : Nat) : Int) < 0 := by omega
        simp [hz]
        refine ⟨i + 1, m - nSub l[i], ⟨by omega, by omega, ?_⟩, by omega, i64_suc (by omega), rfl⟩
        rw [← hx]; unfold szR; split <;> split <;> omega
      · rw [szR_no (show ¬ nSub l[i] + sumN nSub (l.drop (i + 1)) ≤ m by omega)] at hx
        rw [szR_no hk]
        simp [← hx]
    · have : i = l.length := by omega
      subst this
      simp only [List.drop_length, sumN, szR, Nat.zero_le, if_true, Nat.sub_zero] at hx
      simp [hx]
  · have hz : (left : Int) - l.length < 0 := by omega
    simp [hw, hz, szR_no (show ¬ nL nSub l ≤ left by omega)]
end Go.Proofs.YtdfdabjdfmamgaaGreat

namespace Go.Proofs.YtdfdabjdfmamgaaGreat
open Go.AM
set_option maxRecDepth 20000
theorem toHub_c (x : Hub) (h : nHub x ≤ 2 ^ 40) : PureC Tryz.prog 36 [.agg x.row] (.one (.agg x.res)) := by
  refine PureC.intro' tt_ok Tryz.func36 (by kernel_rfl) rfl rfl rfl (Nat.le_of_ble_eq_true rfl) (fun w0 base => ?_)
  unfold nHub at h
  simp [Hub.row, Hub.res]
  try intros
  refine ACall.pure (toDocS_c x.docs (by omega)) (by simp) ?_
  simp
  try intros
  refine ACall.pure (toSubS_c x.subs (by omega)) (by simp) ?_
  simp
  try intros
theorem eqHub_c (x y : Hub) (h : nHub x ≤ 2 ^ 40) : PureC Tryz.prog 38 [.agg x.row, .agg y.row] (.one (.c (vb (x = y)) 1)) := by
  refine PureC.intro' tt_ok Tryz.func38 (by kernel_rfl) rfl rfl rfl (Nat.le_of_ble_eq_true rfl) (fun w0 base => ?_)
  unfold nHub at h
  obtain ⟨a0, a1, a2, a3⟩ := x
  obtain ⟨b0, b1, b2, b3⟩ := y
  simp only at h
  simp [Hub.row]
  try intros
  by_cases h0 : a0 = b0
  rotate_left
  · simp [h0]
  subst h0
  try simp
  refine ACall.pure (eqDocS_c a1 b1 (by omega)) (by simp) ?_
  simp
  by_cases h1 : a1 = b1
  rotate_left
  · simp [h1]
  subst h1
  try simp
  refine ACall.pure (eqSubS_c a2 b2 (by omega)) (by simp) ?_
  simp
  by_cases h2 : a2 = b2
  rotate_left
  · simp [h2]
  subst h2
  try simp
  by_cases h3 : a3 = b3
  rotate_left
  · simp [h3]
  subst h3
  try simp
theorem szHub_c (x : Hub) (h : x.fits) (left : Nat) (hf : left ≤ 2 ^ 20) : PureC Tryz.prog 34 [.agg x.row, .c (vi left)] (.one (.c (vi (szR (nHub x) left)) 1)) := by
  refine PureC.intro' tt_ok Tryz.func34 (by kernel_rfl) rfl rfl rfl (Nat.le_of_ble_eq_true rfl) (fun w0 base => ?_)
  obtain ⟨f0, f1, f2, f3⟩ := h
  obtain ⟨r, hr⟩ : ∃ r, szR (nHub x) left = r := ⟨_, rfl⟩
  rw [hr]
  have hn : nHub x = nL nDoc x.docs + (nL nSub x.subs) := rfl
  simp [Hub.row]
  try intros
  refine ACall.pure (szDocS_c x.docs f1.1 f1.2 left (by omega)) (by simp) ?_
  by_cases k0 : nL nDoc x.docs ≤ left
  rotate_left
  · have : r = -1 := by rw [← hr]; exact szR_no (by omega)
    rw [szR_no k0]
    simp [this]
  rw [szR_ok k0]
  obtain ⟨m0, hm0⟩ : ∃ m, left - nL nDoc x.docs = m := ⟨_, rfl⟩
  rw [hm0]
  simp
  refine ACall.pure (szSubS_c x.subs f2.1 f2.2 m0 (by omega)) (by simp) ?_
  by_cases k1 : nL nSub x.subs ≤ m0
  rotate_left
  · have : r = -1 := by rw [← hr]; exact szR_no (by omega)
    rw [szR_no k1]
    simp [this]
  rw [szR_ok k1]
  obtain ⟨m1, hm1⟩ : ∃ m, m0 - nL nSub x.subs = m := ⟨_, rfl⟩
  rw [hm1]
  have : r = (m1 : Int) := by rw [← hr, szR_ok (by omega)]; omega
  simp [this]
end Go.Proofs.YtdfdabjdfmamgaaGreat

namespace Go.Proofs.YtdfdabjdfmamgaaGreat
open Go.AM
set_option maxRecDepth 20000
theorem toQueue_c (x : Queue) (h : nQueue x ≤ 2 ^ 40) : PureC Tryz.prog 197 [.agg x.row] (.one (.agg x.res)) := by
  refine PureC.intro' tt_ok Tryz.func197 (by kernel_rfl) rfl rfl rfl (Nat.le_of_ble_eq_true rfl) (fun w0 base => ?_)
  unfold nQueue at h
  simp [Queue.row, Queue.res]
  try intros
  refine ACall.pure (toIntS_c x.list (by omega)) (by simp) ?_
  simp
  try intros
theorem eqQueue_c (x y : Queue) (h : nQueue x ≤ 2 ^ 40) : PureC Tryz.prog 202 [.agg x.row, .agg y.row] (.one (.c (vb (x = y)) 1)) := by
  refine PureC.intro' tt_ok Tryz.func202 (by kernel_rfl) rfl rfl rfl (Nat.le_of_ble_eq_true rfl) (fun w0 base => ?_)
  unfold nQueue at h
  obtain ⟨a0, a1⟩ := x
  obtain ⟨b0, b1⟩ := y
  simp only at h
  simp [Queue.row]
  try intros
  by_cases h0 : a0 = b0
  rotate_left
  · simp [h0]
  subst h0
  try simp
  refine ACall.pure (eqIntS_c a1 b1 (by omega)) (by simp) ?_
  simp
  by_cases h1 : a1 = b1
  rotate_left
  · simp [h1]
  subst h1
  try simp
theorem szQueue_c (x : Queue) (h : x.fits) (left : Nat) (hf : left ≤ 2 ^ 20) : PureC Tryz.prog 191 [.agg x.row, .c (vi left)] (.one (.c (vi (szR (nQueue x) left)) 1)) := by
  refine PureC.intro' tt_ok Tryz.func191 (by kernel_rfl) rfl rfl rfl (Nat.le_of_ble_eq_true rfl) (fun w0 base => ?_)
  obtain ⟨f0, f1⟩ := h
  obtain ⟨r, hr⟩ : ∃ r, szR (nQueue x) left = r := ⟨_, rfl⟩
  rw [hr]
  have hn : nQueue x = x.doc.size + (x.list.length) := rfl
  simp [Queue.row]
  try intros
  by_cases k0 : x.doc.size ≤ left
  rotate_left
  · have hw : IntKind.i64.wrap ((left : Int) - (x.doc.size : Int)) = (left : Int) - x.doc.size := IntWalk.i64_in _ (by omega)
    have hz : (left : Int) - x.doc.size < 0 := by omega
    have : r = -1 := by rw [← hr]; exact szR_no (by omega)
    simp [hw, hz, this]
  obtain ⟨m0, hm0⟩ : ∃ m, left - x.doc.size = m := ⟨_, rfl⟩
  have w0 : IntKind.i64.wrap ((left : Int) - (x.doc.size : Int)) = (m0 : Int) := by rw [IntWalk.i64_in _ (by omega)]; omega
  simp [w0]
  refine ACall.pure (szIntS_c x.list f1.1 m0 (by omega)) (by simp) ?_
  by_cases k1 : x.list.length ≤ m0
  rotate_left
  · have : r = -1 := by rw [← hr]; exact szR_no (by omega)
    rw [szR_no k1]
    simp [this]
  rw [szR_ok k1]
  obtain ⟨m1, hm1⟩ : ∃ m, m0 - x.list.length = m := ⟨_, rfl⟩
  rw [hm1]
  have : r = (m1 : Int) := by rw [← hr, szR_ok (by omega)]; omega
  simp [this]
theorem toQueueS_c (l : List Queue) (hl : nL nQueue l ≤ 2 ^ 40) : PureC Tryz.prog 104 [.c (.s (l.map Queue.row))] (.one (.c (.s (l.map Queue.row)) 2)) := by
  refine PureC.intro' tt_ok Tryz.func104 (by kernel_rfl) rfl rfl rfl (Nat.le_of_ble_eq_true rfl) (fun w0 base => ?_)
  have hle := nL_len hl
  simp
  refine ⟨by omega, fun b => ?_⟩
  refine LoopT.intro eok (fun i : Nat => i ≤ l.length) (fun i => ⟨23, 0, [(4, .v (.int .i64 i)), (3, .sl 112 (some (b, 0, l.length)) 2 0 l.length), (0, .ro (l.map Queue.row))],
    [(112, .rows (some (b, 0, l.length)) 2 (fillR Queue.row [.v (.string ⟨#[]⟩), .s []] l i) true)]⟩) (fun i => l.length - i) 0 (by simp) (by simp [fillR_0]) (fun i hi => ?_)
  by_cases h : i < l.length
  · simp [h, Queue.row]
    refine ACall.pure (toQueue_c l[i] (nL_at hl h)) (by simp [Queue.row]) ?_
    simp [Queue.res, fillR_length hi, h]
    exact ⟨i + 1, by omega, by omega, i64_suc (by omega), fillR_set (f := Queue.row) h⟩
  · have : i = l.length := by omega
    subst this
    simp [fillR_all, cut]
    try exact fun a _ => rfl
theorem eqQueueS_c (a b : List Queue) (hl : nL nQueue a ≤ 2 ^ 40) : PureC Tryz.prog 111 [.c (.s (a.map Queue.row)), .c (.s (b.map Queue.row))] (.one (.c (vb (a = b)) 1)) := by
  refine PureC.intro' tt_ok Tryz.func111 (by kernel_rfl) rfl rfl rfl (Nat.le_of_ble_eq_true rfl) (fun w0 base => ?_)
  have hle := nL_len hl
  by_cases h : a.length = b.length
  · simp [h]
    refine LoopT.intro eok (fun i : Nat => i ≤ a.length ∧ a.take i = b.take i) (fun i => ⟨27, 0, [(5, .v (.int .i64 i)), (1, .ro (b.map Queue.row)), (0, .ro (a.map Queue.row))], []⟩) (fun i => a.length - i) 0 (by simp) (by simp) (fun i hi => ?_)
    by_cases hlt : i < a.length
    · simp [hlt]
      have hlt' : i < b.length := by omega
      refine DrawT.quiet eok mix (by kernel_rfl) ?_
      simp [hlt, hlt', Queue.row]
      refine ⟨_, _, eqQueue_c a[i] b[i] (nL_at hl hlt), by simp [Queue.row], ?_⟩
      simp
      refine Br.mk (fun h1 => ?_) (fun h1 => ?_)
      · simp
        exact ⟨i + 1, ⟨by omega, take_next hlt hlt' hi.2 (of_yes h1)⟩, by omega, i64_suc (by omega)⟩
      · simp [dc_no]
        exact ne_at hlt hlt' (of_no h1)
    · simp [hlt, dc_yes]
      exact take_all (by omega) (by omega) hi.2
  · have hz : ¬ (a.length : Int) = b.length := by omega
    simp [hz, dc_no]
    exact fun h2 => absurd (by rw [h2]) h
theorem szQueueS_c (l : List Queue) (hl : l.length ≤ 9223372036854775807) (hs : ∀ y ∈ l, y.fits) (left : Nat) (hf : left ≤ 2 ^ 20) : PureC Tryz.prog 96 [.c (.s (l.map Queue.row)), .c (vi left)] (.one (.c (vi (szR (nL nQueue l) left)) 1)) := by
  refine PureC.intro' tt_ok Tryz.func96 (by kernel_rfl) rfl rfl rfl (Nat.le_of_ble_eq_true rfl) (fun w0 base => ?_)
  have hw : IntKind.i64.wrap ((left : Int) - (l.length : Int)) = (left : Int) - l.length := IntWalk.i64_in _ (by omega)
  have hn : nL nQueue l = l.length + sumN nQueue l := rfl
  by_cases h : l.length ≤ left
  · obtain ⟨lf, hlf⟩ : ∃ lf : Nat, left - l.length = lf := ⟨_, rfl⟩
    have hlz : (left : Int) - l.length = (lf : Int) := by omega
    have hw2 : IntKind.i64.wrap (lf : Int) = lf := i64_nat (by omega)
    simp [hlz, hw2]
    obtain ⟨r, hr⟩ : ∃ r, szR (nL nQueue l) left = r := ⟨_, rfl⟩
    have hr0 : szR (sumN nQueue l) lf = r := by rw [← hr]; unfold szR; split <;> split <;> omega
    rw [hr]
    refine LoopT.intro eok (fun x : Nat × Nat => x.1 ≤ l.length ∧ x.2 ≤ 2 ^ 20 ∧ szR (sumN nQueue (l.drop x.1)) x.2 = r) (fun x => ⟨27, 0, [(5, .v (.int .i64 x.1)), (1, .v (.int .i64 x.2)), (0, .ro (l.map Queue.row))], []⟩) (fun x => l.length - x.1) (0, lf) (by simp [hr0]; omega) (by simp) ?_
    rintro ⟨i, m⟩ ⟨hi, hm, hx⟩
    simp only at hi hm hx ⊢
    by_cases hlt : i < l.length
    · rw [sumN_drop hlt] at hx
      simp [hlt, Queue.row]
      refine ACall.pure (szQueue_c l[i] (hs _ (List.getElem_mem hlt)) m hm) (by simp [Queue.row]) ?_
      by_cases hk : nQueue l[i] ≤ m
      · rw [szR_ok hk]
        have hz : ¬ ((m - nQueue l[i] : Nat) : Int) < 0 := by omega
        simp [hz]
        refine ⟨i + 1, m - nQueue l[i], ⟨by omega, by omega, ?_⟩, by omega, i64_suc (by omega), rfl⟩
        rw [← hx]; unfold szR; split <;> split <;> omega
      · rw [szR_no (show ¬ nQueue l[i] + sumN nQueue (l.drop (i + 1)) ≤ m by omega)] at hx
        rw [szR_no hk]
        simp [← hx]
    · have : i = l.length := by omega
      subst this
      simp only [List.drop_length, sumN, szR, Nat.zero_le, if_true, Nat.sub_zero] at hx
      simp [hx]
  · have hz : (left : Int) - l.length < 0 := by omega
    simp [hw, hz, szR_no (show ¬ nL nQueue l ≤ left by omega)]
end Go.Proofs.YtdfdabjdfmamgaaGreat

namespace Go.Proofs.YtdfdabjdfmamgaaGreat
open Go.AM
set_option maxRecDepth 20000
theorem toCall_c (x : Call) (h : nCall x ≤ 2 ^ 40) : PureC Tryz.prog 51 [.agg x.row] (.one (.agg x.res)) := by
  refine PureC.intro' tt_ok Tryz.func51 (by kernel_rfl) rfl rfl rfl (Nat.le_of_ble_eq_true rfl) (fun w0 base => ?_)
  unfold nCall at h
  simp [Call.row, Call.res]
  try intros
  refine ACall.pure (toPartS_c x.o (by omega)) (by simp) ?_
  simp
  try intros
  refine ACall.pure (toIntS_c x.text (by omega)) (by simp) ?_
  simp
  try intros
theorem eqCall_c (x y : Call) (h : nCall x ≤ 2 ^ 40) : PureC Tryz.prog 53 [.agg x.row, .agg y.row] (.one (.c (vb (x = y)) 1)) := by
  refine PureC.intro' tt_ok Tryz.func53 (by kernel_rfl) rfl rfl rfl (Nat.le_of_ble_eq_true rfl) (fun w0 base => ?_)
  unfold nCall at h
  obtain ⟨a0, a1, a2, a3, a4, a5, a6⟩ := x
  obtain ⟨b0, b1, b2, b3, b4, b5, b6⟩ := y
  simp only at h
  simp [Call.row]
  try intros
  by_cases h0 : a0 = b0
  rotate_left
  · simp [h0]
  subst h0
  try simp
  by_cases h1 : a1 = b1
  rotate_left
  · simp [h1]
  subst h1
  try simp
  by_cases h2 : a2 = b2
  rotate_left
  · simp [h2]
  subst h2
  try simp
  by_cases h3 : a3 = b3
  rotate_left
  · simp [h3]
  subst h3
  try simp
  by_cases h4 : a4 = b4
  rotate_left
  · simp [h4]
  subst h4
  try simp
  refine ACall.pure (eqPartS_c a5 b5 (by omega)) (by simp) ?_
  simp
  by_cases h5 : a5 = b5
  rotate_left
  · simp [h5]
  subst h5
  try simp
  refine ACall.pure (eqIntS_c a6 b6 (by omega)) (by simp) ?_
  simp
  by_cases h6 : a6 = b6
  rotate_left
  · simp [h6]
  subst h6
  try simp
theorem szCall_c (x : Call) (h : x.fits) (left : Nat) (hf : left ≤ 2 ^ 20) : PureC Tryz.prog 49 [.agg x.row, .c (vi left)] (.one (.c (vi (szR (nCall x) left)) 1)) := by
  refine PureC.intro' tt_ok Tryz.func49 (by kernel_rfl) rfl rfl rfl (Nat.le_of_ble_eq_true rfl) (fun w0 base => ?_)
  obtain ⟨f0, f1, f2, f3, f4, f5, f6⟩ := h
  obtain ⟨r, hr⟩ : ∃ r, szR (nCall x) left = r := ⟨_, rfl⟩
  rw [hr]
  have hn : nCall x = x.doc.size + (nL nPart x.o + (x.text.length)) := rfl
  simp [Call.row]
  try intros
  by_cases k0 : x.doc.size ≤ left
  rotate_left
  · have hw : IntKind.i64.wrap ((left : Int) - (x.doc.size : Int)) = (left : Int) - x.doc.size := IntWalk.i64_in _ (by omega)
    have hz : (left : Int) - x.doc.size < 0 := by omega
    have : r = -1 := by rw [← hr]; exact szR_no (by omega)
    simp [hw, hz, this]
  obtain ⟨m0, hm0⟩ : ∃ m, left - x.doc.size = m := ⟨_, rfl⟩
  have w0 : IntKind.i64.wrap ((left : Int) - (x.doc.size : Int)) = (m0 : Int) := by rw [IntWalk.i64_in _ (by omega)]; omega
  simp [w0]
  refine ACall.pure (szPartS_c x.o f5.1 f5.2 m0 (by omega)) (by simp) ?_
  by_cases k1 : nL nPart x.o ≤ m0
  rotate_left
  · have : r = -1 := by rw [← hr]; exact szR_no (by omega)
    rw [szR_no k1]
    simp [this]
  rw [szR_ok k1]
  obtain ⟨m1, hm1⟩ : ∃ m, m0 - nL nPart x.o = m := ⟨_, rfl⟩
  rw [hm1]
  simp
  refine ACall.pure (szIntS_c x.text f6.1 m1 (by omega)) (by simp) ?_
  by_cases k2 : x.text.length ≤ m1
  rotate_left
  · have : r = -1 := by rw [← hr]; exact szR_no (by omega)
    rw [szR_no k2]
    simp [this]
  rw [szR_ok k2]
  obtain ⟨m2, hm2⟩ : ∃ m, m1 - x.text.length = m := ⟨_, rfl⟩
  rw [hm2]
  have : r = (m2 : Int) := by rw [← hr, szR_ok (by omega)]; omega
  simp [this]
end Go.Proofs.YtdfdabjdfmamgaaGreat

namespace Go.Proofs.YtdfdabjdfmamgaaGreat
open Go.AM
set_option maxRecDepth 20000
theorem toTask_c (x : Task) (h : nTask x ≤ 2 ^ 36) : PureC Tryz.prog 198 [.agg x.row] (.one (.agg x.res)) := by
  refine PureC.intro' tt_ok Tryz.func198 (by kernel_rfl) rfl rfl rfl (Nat.le_of_ble_eq_true rfl) (fun w0 base => ?_)
  unfold nTask at h
  simp [Task.row, Task.res]
  try intros
  refine ACall.pure (toCall_c x.c (by omega)) (by simp [Call.row]) ?_
  simp [Call.res]
  try intros
  refine ACall.pure (toAnswer_c x.a (by omega)) (by simp [Answer.row]) ?_
  simp [Answer.res]
  try intros
theorem eqTask_c (x y : Task) (h : nTask x ≤ 2 ^ 36) : PureC Tryz.prog 203 [.agg x.row, .agg y.row] (.one (.c (vb (x = y)) 1)) := by
  refine PureC.intro' tt_ok Tryz.func203 (by kernel_rfl) rfl rfl rfl (Nat.le_of_ble_eq_true rfl) (fun w0 base => ?_)
  unfold nTask at h
  obtain ⟨a0, a1, a2, a3, a4, a5⟩ := x
  obtain ⟨b0, b1, b2, b3, b4, b5⟩ := y
  simp only at h
  simp [Task.row]
  try intros
  refine ACall.pure (eqCall_c a0 b0 (by omega)) (by simp [Call.row]) ?_
  simp
  by_cases h0 : a0 = b0
  rotate_left
  · simp [h0]
  subst h0
  try simp
  by_cases h1 : a1 = b1
  rotate_left
  · simp [h1]
  subst h1
  try simp
  by_cases h2 : a2 = b2
  rotate_left
  · simp [h2]
  subst h2
  try simp
  by_cases h3 : a3 = b3
  rotate_left
  · simp [h3]
  subst h3
  try simp
  by_cases h4 : a4 = b4
  rotate_left
  · simp [h4]
  subst h4
  try simp
  refine ACall.pure (eqAnswer_c a5 b5 (by omega)) (by simp [Answer.row]) ?_
  simp
  by_cases h5 : a5 = b5
  rotate_left
  · simp [h5]
  subst h5
  try simp
theorem szTask_c (x : Task) (h : x.fits) (left : Nat) (hf : left ≤ 2 ^ 20) : PureC Tryz.prog 192 [.agg x.row, .c (vi left)] (.one (.c (vi (szR (nTask x) left)) 1)) := by
  refine PureC.intro' tt_ok Tryz.func192 (by kernel_rfl) rfl rfl rfl (Nat.le_of_ble_eq_true rfl) (fun w0 base => ?_)
  obtain ⟨f0, f1, f2, f3, f4, f5⟩ := h
  obtain ⟨r, hr⟩ : ∃ r, szR (nTask x) left = r := ⟨_, rfl⟩
  rw [hr]
  have hn : nTask x = nCall x.c + (nAnswer x.a) := rfl
  simp [Task.row]
  try intros
  refine ACall.pure (szCall_c x.c f0 left (by omega)) (by simp [Call.row]) ?_
  by_cases k0 : nCall x.c ≤ left
  rotate_left
  · have : r = -1 := by rw [← hr]; exact szR_no (by omega)
    rw [szR_no k0]
    simp [this]
  rw [szR_ok k0]
  obtain ⟨m0, hm0⟩ : ∃ m, left - nCall x.c = m := ⟨_, rfl⟩
  rw [hm0]
  simp
  refine ACall.pure (szAnswer_c x.a f5 m0 (by omega)) (by simp [Answer.row]) ?_
  by_cases k1 : nAnswer x.a ≤ m0
  rotate_left
  · have : r = -1 := by rw [← hr]; exact szR_no (by omega)
    rw [szR_no k1]
    simp [this]
  rw [szR_ok k1]
  obtain ⟨m1, hm1⟩ : ∃ m, m0 - nAnswer x.a = m := ⟨_, rfl⟩
  rw [hm1]
  have : r = (m1 : Int) := by rw [← hr, szR_ok (by omega)]; omega
  simp [this]
theorem toTaskS_c (l : List Task) (hl : nL nTask l ≤ 2 ^ 36) : PureC Tryz.prog 105 [.c (.s (l.map Task.row))] (.one (.c (.s (l.map Task.row)) 15)) := by
  refine PureC.intro' tt_ok Tryz.func105 (by kernel_rfl) rfl rfl rfl (Nat.le_of_ble_eq_true rfl) (fun w0 base => ?_)
  have hle := nL_len hl
  simp
  refine ⟨by omega, fun b => ?_⟩
  refine LoopT.intro eok (fun i : Nat => i ≤ l.length) (fun i => ⟨23, 0, [(4, .v (.int .i64 i)), (3, .sl 112 (some (b, 0, l.length)) 15 0 l.length), (0, .ro (l.map Task.row))],
    [(112, .rows (some (b, 0, l.length)) 15 (fillR Task.row [.v (.int .i64 0), .v (.string ⟨#[]⟩), .v (.int .i64 0), .v (.int .i64 0), .v (.int .i64 0), .s [], .s [], .v (.int .i64 0), .v (.int .i64 0), .v (.int .i64 0), .v (.int .i64 0), .v (.int .i64 0), .v (.int .i64 0), .s [], .s []] l i) true)]⟩) (fun i => l.length - i) 0 (by simp) (by simp [fillR_0]) (fun i hi => ?_)
  by_cases h : i < l.length
  · simp [h, Task.row]
    refine ACall.pure (toTask_c l[i] (nL_at hl h)) (by simp [Task.row]) ?_
    simp [Task.res, fillR_length hi, h]
    exact ⟨i + 1, by omega, by omega, i64_suc (by omega), fillR_set (f := Task.row) h⟩
  · have : i = l.length := by omega
    subst this
    simp [fillR_all, cut]
    try exact fun a _ => rfl
theorem eqTaskS_c (a b : List Task) (hl : nL nTask a ≤ 2 ^ 36) : PureC Tryz.prog 112 [.c (.s (a.map Task.row)), .c (.s (b.map Task.row))] (.one (.c (vb (a = b)) 1)) := by
  refine PureC.intro' tt_ok Tryz.func112 (by kernel_rfl) rfl rfl rfl (Nat.le_of_ble_eq_true rfl) (fun w0 base => ?_)
  have hle := nL_len hl
  by_cases h : a.length = b.length
  · simp [h]
    refine LoopT.intro eok (fun i : Nat => i ≤ a.length ∧ a.take i = b.take i) (fun i => ⟨27, 0, [(5, .v (.int .i64 i)), (1, .ro (b.map Task.row)), (0, .ro (a.map Task.row))], []⟩) (fun i => a.length - i) 0 (by simp) (by simp) (fun i hi => ?_)
    by_cases hlt : i < a.length
    · simp [hlt]
      have hlt' : i < b.length := by omega
      refine DrawT.quiet eok mix (by kernel_rfl) ?_
      simp [hlt, hlt', Task.row]
      refine ⟨_, _, eqTask_c a[i] b[i] (nL_at hl hlt), by simp [Task.row], ?_⟩
      simp
      refine Br.mk (fun h1 => ?_) (fun h1 => ?_)
      · simp
        exact ⟨i + 1, ⟨by omega, take_next hlt hlt' hi.2 (of_yes h1)⟩, by omega, i64_suc (by omega)⟩
      · simp [dc_no]
        exact ne_at hlt hlt' (of_no h1)
    · simp [hlt, dc_yes]
      exact take_all (by omega) (by omega) hi.2
  · have hz : ¬ (a.length : Int) = b.length := by omega
    simp [hz, dc_no]
    exact fun h2 => absurd (by rw [h2]) h
theorem szTaskS_c (l : List Task) (hl : l.length ≤ 9223372036854775807) (hs : ∀ y ∈ l, y.fits) (left : Nat) (hf : left ≤ 2 ^ 20) : PureC Tryz.prog 97 [.c (.s (l.map Task.row)), .c (vi left)] (.one (.c (vi (szR (nL nTask l) left)) 1)) := by
  refine PureC.intro' tt_ok Tryz.func97 (by kernel_rfl) rfl rfl rfl (Nat.le_of_ble_eq_true rfl) (fun w0 base => ?_)
  have hw : IntKind.i64.wrap ((left : Int) - (l.length : Int)) = (left : Int) - l.length := IntWalk.i64_in _ (by omega)
  have hn : nL nTask l = l.length + sumN nTask l := rfl
  by_cases h : l.length ≤ left
  · obtain ⟨lf, hlf⟩ : ∃ lf : Nat, left - l.length = lf := ⟨_, rfl⟩
    have hlz : (left : Int) - l.length = (lf : Int) := by omega
    have hw2 : IntKind.i64.wrap (lf : Int) = lf := i64_nat (by omega)
    simp [hlz, hw2]
    obtain ⟨r, hr⟩ : ∃ r, szR (nL nTask l) left = r := ⟨_, rfl⟩
    have hr0 : szR (sumN nTask l) lf = r := by rw [← hr]; unfold szR; split <;> split <;> omega
    rw [hr]
    refine LoopT.intro eok (fun x : Nat × Nat => x.1 ≤ l.length ∧ x.2 ≤ 2 ^ 20 ∧ szR (sumN nTask (l.drop x.1)) x.2 = r) (fun x => ⟨27, 0, [(5, .v (.int .i64 x.1)), (1, .v (.int .i64 x.2)), (0, .ro (l.map Task.row))], []⟩) (fun x => l.length - x.1) (0, lf) (by simp [hr0]; omega) (by simp) ?_
    rintro ⟨i, m⟩ ⟨hi, hm, hx⟩
    simp only at hi hm hx ⊢
    by_cases hlt : i < l.length
    · rw [sumN_drop hlt] at hx
      simp [hlt, Task.row]
      refine ACall.pure (szTask_c l[i] (hs _ (List.getElem_mem hlt)) m hm) (by simp [Task.row]) ?_
      by_cases hk : nTask l[i] ≤ m
      · rw [szR_ok hk]
        have hz : ¬ ((m - nTask l[i] : Nat) : Int) < 0 := by omega
        simp [hz]
        refine ⟨i + 1, m - nTask l[i], ⟨by omega, by omega, ?_⟩, by omega, i64_suc (by omega), rfl⟩
        rw [← hx]; unfold szR; split <;> split <;> omega
      · rw [szR_no (show ¬ nTask l[i] + sumN nTask (l.drop (i + 1)) ≤ m by omega)] at hx
        rw [szR_no hk]
        simp [← hx]
    · have : i = l.length := by omega
      subst this
      simp only [List.drop_length, sumN, szR, Nat.zero_le, if_true, Nat.sub_zero] at hx
      simp [hx]
  · have hz : (left : Int) - l.length < 0 := by omega
    simp [hw, hz, szR_no (show ¬ nL nTask l ≤ left by omega)]
end Go.Proofs.YtdfdabjdfmamgaaGreat

namespace Go.Proofs.YtdfdabjdfmamgaaGreat
open Go.AM
set_option maxRecDepth 20000
theorem toWorld_c (x : Wld) (h : nWorld x ≤ 2 ^ 36) : PureC Tryz.prog 31 [.agg x.row] (.one (.agg x.res)) := by
  refine PureC.intro' tt_ok Tryz.func31 (by kernel_rfl) rfl rfl rfl (Nat.le_of_ble_eq_true rfl) (fun w0 base => ?_)
  unfold nWorld at h
  simp [Wld.row, Wld.res]
  try intros
  refine ACall.pure (toHub_c x.h (by omega)) (by simp [Hub.row]) ?_
  simp [Hub.res]
  try intros
  refine ACall.pure (toIntS_c x.locks (by omega)) (by simp) ?_
  simp
  try intros
  refine ACall.pure (toQueueS_c x.queues (by omega)) (by simp) ?_
  simp
  try intros
  refine ACall.pure (toTaskS_c x.tasks (by omega)) (by simp) ?_
  simp
  try intros
theorem eqWorld_c (x y : Wld) (h : nWorld x ≤ 2 ^ 36) : PureC Tryz.prog 33 [.agg x.row, .agg y.row] (.one (.c (vb (x = y)) 1)) := by
  refine PureC.intro' tt_ok Tryz.func33 (by kernel_rfl) rfl rfl rfl (Nat.le_of_ble_eq_true rfl) (fun w0 base => ?_)
  unfold nWorld at h
  obtain ⟨a0, a1, a2, a3, a4⟩ := x
  obtain ⟨b0, b1, b2, b3, b4⟩ := y
  simp only at h
  simp [Wld.row]
  try intros
  refine ACall.pure (eqHub_c a0 b0 (by omega)) (by simp [Hub.row]) ?_
  simp
  by_cases h0 : a0 = b0
  rotate_left
  · simp [h0]
  subst h0
  try simp
  refine ACall.pure (eqIntS_c a1 b1 (by omega)) (by simp) ?_
  simp
  by_cases h1 : a1 = b1
  rotate_left
  · simp [h1]
  subst h1
  try simp
  refine ACall.pure (eqQueueS_c a2 b2 (by omega)) (by simp) ?_
  simp
  by_cases h2 : a2 = b2
  rotate_left
  · simp [h2]
  subst h2
  try simp
  refine ACall.pure (eqTaskS_c a3 b3 (by omega)) (by simp) ?_
  simp
  by_cases h3 : a3 = b3
  rotate_left
  · simp [h3]
  subst h3
  try simp
  by_cases h4 : a4 = b4
  rotate_left
  · simp [h4]
  subst h4
  try simp
theorem szWorld_c (x : Wld) (h : x.fits) (left : Nat) (hf : left ≤ 2 ^ 20) : PureC Tryz.prog 29 [.agg x.row, .c (vi left)] (.one (.c (vi (szR (nWorld x) left)) 1)) := by
  refine PureC.intro' tt_ok Tryz.func29 (by kernel_rfl) rfl rfl rfl (Nat.le_of_ble_eq_true rfl) (fun w0 base => ?_)
  obtain ⟨f0, f1, f2, f3, f4⟩ := h
  obtain ⟨r, hr⟩ : ∃ r, szR (nWorld x) left = r := ⟨_, rfl⟩
  rw [hr]
  have hn : nWorld x = nHub x.h + (x.locks.length + (nL nQueue x.queues + (nL nTask x.tasks))) := rfl
  simp [Wld.row]
  try intros
  refine ACall.pure (szHub_c x.h f0 left (by omega)) (by simp [Hub.row]) ?_
  by_cases k0 : nHub x.h ≤ left
  rotate_left
  · have : r = -1 := by rw [← hr]; exact szR_no (by omega)
    rw [szR_no k0]
    simp [this]
  rw [szR_ok k0]
  obtain ⟨m0, hm0⟩ : ∃ m, left - nHub x.h = m := ⟨_, rfl⟩
  rw [hm0]
  simp
  refine ACall.pure (szIntS_c x.locks f1.1 m0 (by omega)) (by simp) ?_
  by_cases k1 : x.locks.length ≤ m0
  rotate_left
  · have : r = -1 := by rw [← hr]; exact szR_no (by omega)
    rw [szR_no k1]
    simp [this]
  rw [szR_ok k1]
  obtain ⟨m1, hm1⟩ : ∃ m, m0 - x.locks.length = m := ⟨_, rfl⟩
  rw [hm1]
  simp
  refine ACall.pure (szQueueS_c x.queues f2.1 f2.2 m1 (by omega)) (by simp) ?_
  by_cases k2 : nL nQueue x.queues ≤ m1
  rotate_left
  · have : r = -1 := by rw [← hr]; exact szR_no (by omega)
    rw [szR_no k2]
    simp [this]
  rw [szR_ok k2]
  obtain ⟨m2, hm2⟩ : ∃ m, m1 - nL nQueue x.queues = m := ⟨_, rfl⟩
  rw [hm2]
  simp
  refine ACall.pure (szTaskS_c x.tasks f3.1 f3.2 m2 (by omega)) (by simp) ?_
  by_cases k3 : nL nTask x.tasks ≤ m2
  rotate_left
  · have : r = -1 := by rw [← hr]; exact szR_no (by omega)
    rw [szR_no k3]
    simp [this]
  rw [szR_ok k3]
  obtain ⟨m3, hm3⟩ : ∃ m, m2 - nL nTask x.tasks = m := ⟨_, rfl⟩
  rw [hm3]
  have : r = (m3 : Int) := by rw [← hr, szR_ok (by omega)]; omega
  simp [this]
end Go.Proofs.YtdfdabjdfmamgaaGreat

namespace Go.Proofs.YtdfdabjdfmamgaaGreat
open Go.AM
set_option maxRecDepth 20000
end Go.Proofs.YtdfdabjdfmamgaaGreat

namespace Go.Proofs.YtdfdabjdfmamgaaGreat
open Go.AM Go.ChangeShapes Go.WideShapes Go.ChangeAt Go.RowKit
set_option maxRecDepth 20000
theorem own : ownKnob Tryz.prog.godebug = none := by kernel_rfl
theorem laid : laidOutB Tryz.prog = true := by kernel_rfl
theorem fits_i64 {D : Nat} {ds : List CD} (h : Fits Tryz.prog D 3 ds) : ∃ n : Int, ds = [vi n] ∧ i64r n := by
  obtain ⟨n, h1, h2⟩ := fits_int Tryz.underlying3 h
  exact ⟨n, h1, wf_i64 h2⟩
theorem mL : maxLen = 9223372036854775807 := rfl
theorem fits_ints {D : Nat} {ds : List CD} (h : Fits Tryz.prog D 22 ds) : ∃ l : List Int, ds = [.s (l.map intR)] ∧ l.length ≤ 9223372036854775807 ∧ ∀ n ∈ l, i64r n := by
  obtain ⟨rows, rfl, h1, D', h2⟩ := fits_slice Tryz.underlying22 h
  obtain ⟨l, rfl, hl⟩ := rows_map (f := intR) (ok := i64r) rows (fun row hrow => fits_i64 (h2 row hrow).2)
  exact ⟨l, rfl, by simpa [mL] using h1, hl⟩
theorem cells254 : Tryz.prog.cellsOf 254 = 3 := by kernel_rfl
theorem len3 {α : Type} {l : List α} (h : l.length = 3) : ∃ x0 x1 x2, l = [x0, x1, x2] := by
  match l, h with
  | [x0, x1, x2], _ => exact ⟨x0, x1, x2, rfl⟩
theorem cells3 : Tryz.prog.cellsOf 3 = 1 := by kernel_rfl
theorem cells22 : Tryz.prog.cellsOf 22 = 1 := by kernel_rfl
theorem fits_Part {D : Nat} {ds : List CD} (h : Fits Tryz.prog D 254 ds) : ∃ x : Part, ds = x.row ∧ x.fits := by
  obtain ⟨hl, D', hf⟩ := fits_struct Tryz.underlying254 h
  rw [cells254] at hl
  obtain ⟨d0, d1, d2, rfl⟩ := len3 hl
  simp [cells3, cells22] at hf
  obtain ⟨h0, h1, h2⟩ := hf
  obtain ⟨n0, e0, k0⟩ := fits_i64 h0
  simp at e0
  subst e0
  obtain ⟨n1, e1, k1⟩ := fits_i64 h1
  simp at e1
  subst e1
  obtain ⟨n2, e2, k2⟩ := fits_ints h2
  simp at e2
  subst e2
  exact ⟨⟨n0, n1, n2⟩, rfl, k0, k1, k2⟩
theorem fits_PartS {D : Nat} {ds : List CD} (h : Fits Tryz.prog D 88 ds) : ∃ l : List Part, ds = [.s (l.map Part.row)] ∧ l.length ≤ 9223372036854775807 ∧ ∀ y ∈ l, y.fits := by
  obtain ⟨rows, rfl, h1, D', h2⟩ := fits_slice Tryz.underlying88 h
  obtain ⟨l, rfl, hl⟩ := rows_map (f := Part.row) (ok := Part.fits) rows (fun row hrow => fits_Part (h2 row hrow).2)
  exact ⟨l, rfl, by simpa [mL] using h1, hl⟩
theorem cells280 : Tryz.prog.cellsOf 280 = 3 := by kernel_rfl
theorem cells88 : Tryz.prog.cellsOf 88 = 1 := by kernel_rfl
theorem fits_Entry {D : Nat} {ds : List CD} (h : Fits Tryz.prog D 280 ds) : ∃ x : Entry, ds = x.row ∧ x.fits := by
  obtain ⟨hl, D', hf⟩ := fits_struct Tryz.underlying280 h
  rw [cells280] at hl
  obtain ⟨d0, d1, d2, rfl⟩ := len3 hl
  simp [cells3, cells88] at hf
  obtain ⟨h0, h1, h2⟩ := hf
  obtain ⟨n0, e0, k0⟩ := fits_i64 h0
  simp at e0
  subst e0
  obtain ⟨n1, e1, k1⟩ := fits_i64 h1
  simp at e1
  subst e1
  obtain ⟨n2, e2, k2⟩ := fits_PartS h2
  simp at e2
  subst e2
  exact ⟨⟨n0, n1, n2⟩, rfl, k0, k1, k2⟩
theorem fits_EntryS {D : Nat} {ds : List CD} (h : Fits Tryz.prog D 23 ds) : ∃ l : List Entry, ds = [.s (l.map Entry.row)] ∧ l.length ≤ 9223372036854775807 ∧ ∀ y ∈ l, y.fits := by
  obtain ⟨rows, rfl, h1, D', h2⟩ := fits_slice Tryz.underlying23 h
  obtain ⟨l, rfl, hl⟩ := rows_map (f := Entry.row) (ok := Entry.fits) rows (fun row hrow => fits_Entry (h2 row hrow).2)
  exact ⟨l, rfl, by simpa [mL] using h1, hl⟩
theorem cells286 : Tryz.prog.cellsOf 286 = 3 := by kernel_rfl
theorem fits_Seen {D : Nat} {ds : List CD} (h : Fits Tryz.prog D 286 ds) : ∃ x : Seen, ds = x.row ∧ x.fits := by
  obtain ⟨hl, D', hf⟩ := fits_struct Tryz.underlying286 h
  rw [cells286] at hl
  obtain ⟨d0, d1, d2, rfl⟩ := len3 hl
  simp [cells3] at hf
  obtain ⟨h0, h1, h2⟩ := hf
  obtain ⟨n0, e0, k0⟩ := fits_i64 h0
  simp at e0
  subst e0
  obtain ⟨n1, e1, k1⟩ := fits_i64 h1
  simp at e1
  subst e1
  obtain ⟨n2, e2, k2⟩ := fits_i64 h2
  simp at e2
  subst e2
  exact ⟨⟨n0, n1, n2⟩, rfl, k0, k1, k2⟩
theorem fits_SeenS {D : Nat} {ds : List CD} (h : Fits Tryz.prog D 24 ds) : ∃ l : List Seen, ds = [.s (l.map Seen.row)] ∧ l.length ≤ 9223372036854775807 ∧ ∀ y ∈ l, y.fits := by
  obtain ⟨rows, rfl, h1, D', h2⟩ := fits_slice Tryz.underlying24 h
  obtain ⟨l, rfl, hl⟩ := rows_map (f := Seen.row) (ok := Seen.fits) rows (fun row hrow => fits_Seen (h2 row hrow).2)
  exact ⟨l, rfl, by simpa [mL] using h1, hl⟩
theorem cells26 : Tryz.prog.cellsOf 26 = 5 := by kernel_rfl
theorem len5 {α : Type} {l : List α} (h : l.length = 5) : ∃ x0 x1 x2 x3 x4, l = [x0, x1, x2, x3, x4] := by
  match l, h with
  | [x0, x1, x2, x3, x4], _ => exact ⟨x0, x1, x2, x3, x4, rfl⟩
theorem cells9 : Tryz.prog.cellsOf 9 = 1 := by kernel_rfl
theorem cells23 : Tryz.prog.cellsOf 23 = 1 := by kernel_rfl
theorem cells24 : Tryz.prog.cellsOf 24 = 1 := by kernel_rfl
theorem fits_Doc {D : Nat} {ds : List CD} (h : Fits Tryz.prog D 26 ds) : ∃ x : Doc, ds = x.row ∧ x.fits := by
  obtain ⟨hl, D', hf⟩ := fits_struct Tryz.underlying26 h
  rw [cells26] at hl
  obtain ⟨d0, d1, d2, d3, d4, rfl⟩ := len5 hl
  simp [cells3, cells9, cells22, cells23, cells24] at hf
  obtain ⟨h0, h1, h2, h3, h4⟩ := hf
  obtain ⟨n0, e0, k0⟩ := fits_string Tryz.underlying9 h0
  simp at e0
  subst e0
  obtain ⟨n1, e1, k1⟩ := fits_i64 h1
  simp at e1
  subst e1
  obtain ⟨n2, e2, k2⟩ := fits_ints h2
  simp at e2
  subst e2
  obtain ⟨n3, e3, k3⟩ := fits_EntryS h3
  simp at e3
  subst e3
  obtain ⟨n4, e4, k4⟩ := fits_SeenS h4
  simp at e4
  subst e4
  exact ⟨⟨n0, n1, n2, n3, n4⟩, rfl, (by rw [mL] at k0; exact k0), k1, k2, k3, k4⟩
theorem fits_DocS {D : Nat} {ds : List CD} (h : Fits Tryz.prog D 52 ds) : ∃ l : List Doc, ds = [.s (l.map Doc.row)] ∧ l.length ≤ 9223372036854775807 ∧ ∀ y ∈ l, y.fits := by
  obtain ⟨rows, rfl, h1, D', h2⟩ := fits_slice Tryz.underlying52 h
  obtain ⟨l, rfl, hl⟩ := rows_map (f := Doc.row) (ok := Doc.fits) rows (fun row hrow => fits_Doc (h2 row hrow).2)
  exact ⟨l, rfl, by simpa [mL] using h1, hl⟩
theorem cells241 : Tryz.prog.cellsOf 241 = 4 := by kernel_rfl
theorem len4 {α : Type} {l : List α} (h : l.length = 4) : ∃ x0 x1 x2 x3, l = [x0, x1, x2, x3] := by
  match l, h with
  | [x0, x1, x2, x3], _ => exact ⟨x0, x1, x2, x3, rfl⟩
theorem cells4 : Tryz.prog.cellsOf 4 = 1 := by kernel_rfl
theorem fits_Ring {D : Nat} {ds : List CD} (h : Fits Tryz.prog D 241 ds) : ∃ x : Ring, ds = x.row ∧ x.fits := by
  obtain ⟨hl, D', hf⟩ := fits_struct Tryz.underlying241 h
  rw [cells241] at hl
  obtain ⟨d0, d1, d2, d3, rfl⟩ := len4 hl
  simp [cells3, cells4, cells23] at hf
  obtain ⟨h0, h1, h2, h3⟩ := hf
  obtain ⟨n0, e0, k0⟩ := fits_i64 h0
  simp at e0
  subst e0
  obtain ⟨n1, e1, k1⟩ := fits_i64 h1
  simp at e1
  subst e1
  obtain ⟨n2, e2⟩ := fits_bool Tryz.underlying4 h2
  simp at e2
  subst e2
  obtain ⟨n3, e3, k3⟩ := fits_EntryS h3
  simp at e3
  subst e3
  exact ⟨⟨n0, n1, n2, n3⟩, rfl, k0, k1, trivial, k3⟩
theorem cells243 : Tryz.prog.cellsOf 243 = 6 := by kernel_rfl
theorem len6 {α : Type} {l : List α} (h : l.length = 6) : ∃ x0 x1 x2 x3 x4 x5, l = [x0, x1, x2, x3, x4, x5] := by
  match l, h with
  | [x0, x1, x2, x3, x4, x5], _ => exact ⟨x0, x1, x2, x3, x4, x5, rfl⟩
theorem fits_Sub {D : Nat} {ds : List CD} (h : Fits Tryz.prog D 243 ds) : ∃ x : Sub, ds = x.row ∧ x.fits := by
  obtain ⟨hl, D', hf⟩ := fits_struct Tryz.underlying243 h
  rw [cells243] at hl
  obtain ⟨d0, d1, d2, d3, d4, d5, rfl⟩ := len6 hl
  simp [cells3, cells9, cells241] at hf
  obtain ⟨h0, h1, h2⟩ := hf
  obtain ⟨n0, e0, k0⟩ := fits_i64 h0
  simp at e0
  subst e0
  obtain ⟨n1, e1, k1⟩ := fits_string Tryz.underlying9 h1
  simp at e1
  subst e1
  obtain ⟨n2, e2, k2⟩ := fits_Ring h2
  simp [Ring.row] at e2
  obtain ⟨e2_0, e2_1, e2_2, e2_3⟩ := e2
  subst e2_0 e2_1 e2_2 e2_3
  exact ⟨⟨n0, n1, n2⟩, rfl, k0, (by rw [mL] at k1; exact k1), k2⟩
theorem fits_SubS {D : Nat} {ds : List CD} (h : Fits Tryz.prog D 53 ds) : ∃ l : List Sub, ds = [.s (l.map Sub.row)] ∧ l.length ≤ 9223372036854775807 ∧ ∀ y ∈ l, y.fits := by
  obtain ⟨rows, rfl, h1, D', h2⟩ := fits_slice Tryz.underlying53 h
  obtain ⟨l, rfl, hl⟩ := rows_map (f := Sub.row) (ok := Sub.fits) rows (fun row hrow => fits_Sub (h2 row hrow).2)
  exact ⟨l, rfl, by simpa [mL] using h1, hl⟩
theorem cells55 : Tryz.prog.cellsOf 55 = 4 := by kernel_rfl
theorem cells52 : Tryz.prog.cellsOf 52 = 1 := by kernel_rfl
theorem cells53 : Tryz.prog.cellsOf 53 = 1 := by kernel_rfl
theorem fits_Hub {D : Nat} {ds : List CD} (h : Fits Tryz.prog D 55 ds) : ∃ x : Hub, ds = x.row ∧ x.fits := by
  obtain ⟨hl, D', hf⟩ := fits_struct Tryz.underlying55 h
  rw [cells55] at hl
  obtain ⟨d0, d1, d2, d3, rfl⟩ := len4 hl
  simp [cells3, cells4, cells52, cells53] at hf
  obtain ⟨h0, h1, h2, h3⟩ := hf
  obtain ⟨n0, e0⟩ := fits_bool Tryz.underlying4 h0
  simp at e0
  subst e0
  obtain ⟨n1, e1, k1⟩ := fits_DocS h1
  simp at e1
  subst e1
  obtain ⟨n2, e2, k2⟩ := fits_SubS h2
  simp at e2
  subst e2
  obtain ⟨n3, e3, k3⟩ := fits_i64 h3
  simp at e3
  subst e3
  exact ⟨⟨n0, n1, n2, n3⟩, rfl, trivial, k1, k2, k3⟩
theorem cells90 : Tryz.prog.cellsOf 90 = 7 := by kernel_rfl
theorem len7 {α : Type} {l : List α} (h : l.length = 7) : ∃ x0 x1 x2 x3 x4 x5 x6, l = [x0, x1, x2, x3, x4, x5, x6] := by
  match l, h with
  | [x0, x1, x2, x3, x4, x5, x6], _ => exact ⟨x0, x1, x2, x3, x4, x5, x6, rfl⟩
theorem fits_Call {D : Nat} {ds : List CD} (h : Fits Tryz.prog D 90 ds) : ∃ x : Call, ds = x.row ∧ x.fits := by
  obtain ⟨hl, D', hf⟩ := fits_struct Tryz.underlying90 h
  rw [cells90] at hl
  obtain ⟨d0, d1, d2, d3, d4, d5, d6, rfl⟩ := len7 hl
  simp [cells3, cells9, cells22, cells88] at hf
  obtain ⟨h0, h1, h2, h3, h4, h5, h6⟩ := hf
  obtain ⟨n0, e0, k0⟩ := fits_i64 h0
  simp at e0
  subst e0
  obtain ⟨n1, e1, k1⟩ := fits_string Tryz.underlying9 h1
  simp at e1
  subst e1
  obtain ⟨n2, e2, k2⟩ := fits_i64 h2
  simp at e2
  subst e2
  obtain ⟨n3, e3, k3⟩ := fits_i64 h3
  simp at e3
  subst e3
  obtain ⟨n4, e4, k4⟩ := fits_i64 h4
  simp at e4
  subst e4
  obtain ⟨n5, e5, k5⟩ := fits_PartS h5
  simp at e5
  subst e5
  obtain ⟨n6, e6, k6⟩ := fits_ints h6
  simp at e6
  subst e6
  exact ⟨⟨n0, n1, n2, n3, n4, n5, n6⟩, rfl, k0, (by rw [mL] at k1; exact k1), k2, k3, k4, k5, k6⟩
theorem cells229 : Tryz.prog.cellsOf 229 = 4 := by kernel_rfl
theorem fits_Answer {D : Nat} {ds : List CD} (h : Fits Tryz.prog D 229 ds) : ∃ x : Answer, ds = x.row ∧ x.fits := by
  obtain ⟨hl, D', hf⟩ := fits_struct Tryz.underlying229 h
  rw [cells229] at hl
  obtain ⟨d0, d1, d2, d3, rfl⟩ := len4 hl
  simp [cells3, cells22, cells23] at hf
  obtain ⟨h0, h1, h2, h3⟩ := hf
  obtain ⟨n0, e0, k0⟩ := fits_i64 h0
  simp at e0
  subst e0
  obtain ⟨n1, e1, k1⟩ := fits_i64 h1
  simp at e1
  subst e1
  obtain ⟨n2, e2, k2⟩ := fits_ints h2
  simp at e2
  subst e2
  obtain ⟨n3, e3, k3⟩ := fits_EntryS h3
  simp at e3
  subst e3
  exact ⟨⟨n0, n1, n2, n3⟩, rfl, k0, k1, k2, k3⟩
theorem cells231 : Tryz.prog.cellsOf 231 = 15 := by kernel_rfl
theorem len15 {α : Type} {l : List α} (h : l.length = 15) : ∃ x0 x1 x2 x3 x4 x5 x6 x7 x8 x9 x10 x11 x12 x13 x14, l = [x0, x1, x2, x3, x4, x5, x6, x7, x8, x9, x10, x11, x12, x13, x14] := by
  match l, h with
  | [x0, x1, x2, x3, x4, x5, x6, x7, x8, x9, x10, x11, x12, x13, x14], _ => exact ⟨x0, x1, x2, x3, x4, x5, x6, x7, x8, x9, x10, x11, x12, x13, x14, rfl⟩
theorem fits_Task {D : Nat} {ds : List CD} (h : Fits Tryz.prog D 231 ds) : ∃ x : Task, ds = x.row ∧ x.fits := by
  obtain ⟨hl, D', hf⟩ := fits_struct Tryz.underlying231 h
  rw [cells231] at hl
  obtain ⟨d0, d1, d2, d3, d4, d5, d6, d7, d8, d9, d10, d11, d12, d13, d14, rfl⟩ := len15 hl
  simp [cells3, cells90, cells229] at hf
  obtain ⟨h0, h1, h2, h3, h4, h5⟩ := hf
  obtain ⟨n0, e0, k0⟩ := fits_Call h0
  simp [Call.row] at e0
  obtain ⟨e0_0, e0_1, e0_2, e0_3, e0_4, e0_5, e0_6⟩ := e0
  subst e0_0 e0_1 e0_2 e0_3 e0_4 e0_5 e0_6
  obtain ⟨n1, e1, k1⟩ := fits_i64 h1
  simp at e1
  subst e1
  obtain ⟨n2, e2, k2⟩ := fits_i64 h2
  simp at e2
  subst e2
  obtain ⟨n3, e3, k3⟩ := fits_i64 h3
  simp at e3
  subst e3
  obtain ⟨n4, e4, k4⟩ := fits_i64 h4
  simp at e4
  subst e4
  obtain ⟨n5, e5, k5⟩ := fits_Answer h5
  simp [Answer.row] at e5
  obtain ⟨e5_0, e5_1, e5_2, e5_3⟩ := e5
  subst e5_0 e5_1 e5_2 e5_3
  exact ⟨⟨n0, n1, n2, n3, n4, n5⟩, rfl, k0, k1, k2, k3, k4, k5⟩
theorem fits_TaskS {D : Nat} {ds : List CD} (h : Fits Tryz.prog D 63 ds) : ∃ l : List Task, ds = [.s (l.map Task.row)] ∧ l.length ≤ 9223372036854775807 ∧ ∀ y ∈ l, y.fits := by
  obtain ⟨rows, rfl, h1, D', h2⟩ := fits_slice Tryz.underlying63 h
  obtain ⟨l, rfl, hl⟩ := rows_map (f := Task.row) (ok := Task.fits) rows (fun row hrow => fits_Task (h2 row hrow).2)
  exact ⟨l, rfl, by simpa [mL] using h1, hl⟩
theorem cells226 : Tryz.prog.cellsOf 226 = 2 := by kernel_rfl
theorem len2 {α : Type} {l : List α} (h : l.length = 2) : ∃ x0 x1, l = [x0, x1] := by
  match l, h with
  | [x0, x1], _ => exact ⟨x0, x1, rfl⟩
theorem fits_Queue {D : Nat} {ds : List CD} (h : Fits Tryz.prog D 226 ds) : ∃ x : Queue, ds = x.row ∧ x.fits := by
  obtain ⟨hl, D', hf⟩ := fits_struct Tryz.underlying226 h
  rw [cells226] at hl
  obtain ⟨d0, d1, rfl⟩ := len2 hl
  simp [cells9, cells22] at hf
  obtain ⟨h0, h1⟩ := hf
  obtain ⟨n0, e0, k0⟩ := fits_string Tryz.underlying9 h0
  simp at e0
  subst e0
  obtain ⟨n1, e1, k1⟩ := fits_ints h1
  simp at e1
  subst e1
  exact ⟨⟨n0, n1⟩, rfl, (by rw [mL] at k0; exact k0), k1⟩
theorem fits_QueueS {D : Nat} {ds : List CD} (h : Fits Tryz.prog D 62 ds) : ∃ l : List Queue, ds = [.s (l.map Queue.row)] ∧ l.length ≤ 9223372036854775807 ∧ ∀ y ∈ l, y.fits := by
  obtain ⟨rows, rfl, h1, D', h2⟩ := fits_slice Tryz.underlying62 h
  obtain ⟨l, rfl, hl⟩ := rows_map (f := Queue.row) (ok := Queue.fits) rows (fun row hrow => fits_Queue (h2 row hrow).2)
  exact ⟨l, rfl, by simpa [mL] using h1, hl⟩
theorem cells65 : Tryz.prog.cellsOf 65 = 8 := by kernel_rfl
theorem len8 {α : Type} {l : List α} (h : l.length = 8) : ∃ x0 x1 x2 x3 x4 x5 x6 x7, l = [x0, x1, x2, x3, x4, x5, x6, x7] := by
  match l, h with
  | [x0, x1, x2, x3, x4, x5, x6, x7], _ => exact ⟨x0, x1, x2, x3, x4, x5, x6, x7, rfl⟩
theorem cells62 : Tryz.prog.cellsOf 62 = 1 := by kernel_rfl
theorem cells63 : Tryz.prog.cellsOf 63 = 1 := by kernel_rfl
theorem fits_World {D : Nat} {ds : List CD} (h : Fits Tryz.prog D 65 ds) : ∃ x : Wld, ds = x.row ∧ x.fits := by
  obtain ⟨hl, D', hf⟩ := fits_struct Tryz.underlying65 h
  rw [cells65] at hl
  obtain ⟨d0, d1, d2, d3, d4, d5, d6, d7, rfl⟩ := len8 hl
  simp [cells3, cells22, cells55, cells62, cells63] at hf
  obtain ⟨h0, h1, h2, h3, h4⟩ := hf
  obtain ⟨n0, e0, k0⟩ := fits_Hub h0
  simp [Hub.row] at e0
  obtain ⟨e0_0, e0_1, e0_2, e0_3⟩ := e0
  subst e0_0 e0_1 e0_2 e0_3
  obtain ⟨n1, e1, k1⟩ := fits_ints h1
  simp at e1
  subst e1
  obtain ⟨n2, e2, k2⟩ := fits_QueueS h2
  simp at e2
  subst e2
  obtain ⟨n3, e3, k3⟩ := fits_TaskS h3
  simp at e3
  subst e3
  obtain ⟨n4, e4, k4⟩ := fits_i64 h4
  simp at e4
  subst e4
  exact ⟨⟨n0, n1, n2, n3, n4⟩, rfl, k0, k1, k2, k3, k4⟩
theorem fitsV_struct {D : Nat} {t : TypeId} {vd : VD} {fs : Array Field} (hu : Tryz.prog.underlying t = some (.struct fs)) (hc : Tryz.prog.cellsOf t ≠ 1) (h : FitsV Tryz.prog D t vd) : ∃ ds, vd = .agg ds ∧ Fits Tryz.prog D t ds := by
  cases vd with
  | c d =>
    have := (fits_struct hu h).1
    exact absurd this.symm hc
  | agg ds => exact ⟨ds, rfl, h.2⟩
end Go.Proofs.YtdfdabjdfmamgaaGreat

