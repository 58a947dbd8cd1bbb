import Derived.Test.YtdfdabjdfmamgaaGreatMG
namespace Go.Proofs.YtdfdabjdfmamgaaGreat
open Go.AM
set_option maxRecDepth 20000
theorem toPart_c (x : Part) (h : nPart x ≤ 2 ^ 40) : PureC Tryz.prog 221 [.agg x.row] (.one (.agg x.res)) := by
  refine PureC.intro' tt_ok Tryz.func221 (by kernel_rfl) rfl rfl rfl (Nat.le_of_ble_eq_true rfl) (fun w0 base => ?_)
  unfold nPart at h
  simp [Part.row, Part.res]
  try intros
  refine ACall.pure (toIntS_c x.signs (by omega)) (by simp) ?_
  simp
  try intros

theorem eqPart_c (x y : Part) (h : nPart x ≤ 2 ^ 40) : PureC Tryz.prog 229 [.agg x.row, .agg y.row] (.one (.c (vb (x = y)) 1)) := by
  refine PureC.intro' tt_ok Tryz.func229 (by kernel_rfl) rfl rfl rfl (Nat.le_of_ble_eq_true rfl) (fun w0 base => ?_)
  unfold nPart at h
  obtain ⟨a0, a1, a2⟩ := x
  obtain ⟨b0, b1, b2⟩ := y
  simp only at h
  simp [Part.row]
  try intros
  by_cases h0 : a0 = b0
  rotate_left
  · simp [h0]
  subst h0
  try simp
  by_cases h1 : a1 = b1
  rotate_left
  · simp [h1]
  subst h1
  try simp
  refine ACall.pure (eqIntS_c a2 b2 (by omega)) (by simp) ?_
  simp
  by_cases h2 : a2 = b2
  rotate_left
  · simp [h2]
  subst h2
  try simp

theorem szPart_c (x : Part) (h : x.fits) (left : Nat) (hf : left ≤ 2 ^ 20) : PureC Tryz.prog 215 [.agg x.row, .c (vi left)] (.one (.c (vi (szR (nPart x) left)) 1)) := by
  refine PureC.intro' tt_ok Tryz.func215 (by kernel_rfl) rfl rfl rfl (Nat.le_of_ble_eq_true rfl) (fun w0 base => ?_)
  obtain ⟨f0, f1, f2⟩ := h
  obtain ⟨r, hr⟩ : ∃ r, szR (nPart x) left = r := ⟨_, rfl⟩
  rw [hr]
  have hn : nPart x = x.signs.length := rfl
  simp [Part.row]
  try intros
  refine ACall.pure (szIntS_c x.signs f2.1 left (by omega)) (by simp) ?_
  by_cases k0 : x.signs.length ≤ left
  rotate_left
  · have : r = -1 := by rw [← hr]; exact szR_no (by omega)
    rw [szR_no k0]
    simp [this]
  rw [szR_ok k0]
  obtain ⟨m0, hm0⟩ : ∃ m, left - x.signs.length = m := ⟨_, rfl⟩
  rw [hm0]
  have : r = (m0 : Int) := by rw [← hr, szR_ok (by omega)]; omega
  simp [this]

theorem toPartS_c (l : List Part) (hl : nL nPart l ≤ 2 ^ 40) : PureC Tryz.prog 134 [.c (.s (l.map Part.row))] (.one (.c (.s (l.map Part.row)) 3)) := by
  refine PureC.intro' tt_ok Tryz.func134 (by kernel_rfl) rfl rfl rfl (Nat.le_of_ble_eq_true rfl) (fun w0 base => ?_)
  have hle := nL_len hl
  simp
  refine ⟨by omega, fun b => ?_⟩
  refine LoopT.intro eok (fun i : Nat => i ≤ l.length) (fun i => ⟨23, 0, [(4, .v (.int .i64 i)), (3, .sl 112 (some (b, 0, l.length)) 3 0 l.length), (0, .ro (l.map Part.row))],
    [(112, .rows (some (b, 0, l.length)) 3 (fillR Part.row [.v (.int .i64 0), .v (.int .i64 0), .s []] l i) true)]⟩) (fun i => l.length - i) 0 (by simp) (by simp [fillR_0]) (fun i hi => ?_)
  by_cases h : i < l.length
  · simp [h, Part.row]
    refine ACall.pure (toPart_c l[i] (nL_at hl h)) (by simp [Part.row]) ?_
    simp [Part.res, fillR_length hi, h]
    exact ⟨i + 1, by omega, by omega, i64_suc (by omega), fillR_set (f := Part.row) h⟩
  · have : i = l.length := by omega
    subst this
    simp [fillR_all, cut]
    try exact fun a _ => rfl

theorem eqPartS_c (a b : List Part) (hl : nL nPart a ≤ 2 ^ 40) : PureC Tryz.prog 138 [.c (.s (a.map Part.row)), .c (.s (b.map Part.row))] (.one (.c (vb (a = b)) 1)) := by
  refine PureC.intro' tt_ok Tryz.func138 (by kernel_rfl) rfl rfl rfl (Nat.le_of_ble_eq_true rfl) (fun w0 base => ?_)
  have hle := nL_len hl
  by_cases h : a.length = b.length
  · simp [h]
    refine LoopT.intro eok (fun i : Nat => i ≤ a.length ∧ a.take i = b.take i) (fun i => ⟨27, 0, [(5, .v (.int .i64 i)), (1, .ro (b.map Part.row)), (0, .ro (a.map Part.row))], []⟩) (fun i => a.length - i) 0 (by simp) (by simp) (fun i hi => ?_)
    by_cases hlt : i < a.length
    · simp [hlt]
      have hlt' : i < b.length := by omega
      refine DrawT.quiet eok mix (by kernel_rfl) ?_
      simp [hlt, hlt', Part.row]
      refine ⟨_, _, eqPart_c a[i] b[i] (nL_at hl hlt), by simp [Part.row], ?_⟩
      simp
      refine Br.mk (fun h1 => ?_) (fun h1 => ?_)
      · simp
        exact ⟨i + 1, ⟨by omega, take_next hlt hlt' hi.2 (of_yes h1)⟩, by omega, i64_suc (by omega)⟩
      · simp [dc_no]
        exact ne_at hlt hlt' (of_no h1)
    · simp [hlt, dc_yes]
      exact take_all (by omega) (by omega) hi.2
  · have hz : ¬ (a.length : Int) = b.length := by omega
    simp [hz, dc_no]
    exact fun h2 => absurd (by rw [h2]) h

theorem szPartS_c (l : List Part) (hl : l.length ≤ 9223372036854775807) (hs : ∀ y ∈ l, y.fits) (left : Nat) (hf : left ≤ 2 ^ 20) : PureC Tryz.prog 130 [.c (.s (l.map Part.row)), .c (vi left)] (.one (.c (vi (szR (nL nPart l) left)) 1)) := by
  refine PureC.intro' tt_ok Tryz.func130 (by kernel_rfl) rfl rfl rfl (Nat.le_of_ble_eq_true rfl) (fun w0 base => ?_)
  have hw : IntKind.i64.wrap ((left : Int) - (l.length : Int)) = (left : Int) - l.length := IntWalk.i64_in _ (by omega)
  have hn : nL nPart l = l.length + sumN nPart l := rfl
  by_cases h : l.length ≤ left
  · obtain ⟨lf, hlf⟩ : ∃ lf : Nat, left - l.length = lf := ⟨_, rfl⟩
    have hlz : (left : Int) - l.length = (lf : Int) := by omega
    have hw2 : IntKind.i64.wrap (lf : Int) = lf := i64_nat (by omega)
    simp [hlz, hw2]
    obtain ⟨r, hr⟩ : ∃ r, szR (nL nPart l) left = r := ⟨_, rfl⟩
    have hr0 : szR (sumN nPart l) lf = r := by rw [← hr]; unfold szR; split <;> split <;> omega
    rw [hr]
    refine LoopT.intro eok (fun x : Nat × Nat => x.1 ≤ l.length ∧ x.2 ≤ 2 ^ 20 ∧ szR (sumN nPart (l.drop x.1)) x.2 = r) (fun x => ⟨27, 0, [(5, .v (.int .i64 x.1)), (1, .v (.int .i64 x.2)), (0, .ro (l.map Part.row))], []⟩) (fun x => l.length - x.1) (0, lf) (by simp [hr0]; omega) (by simp) ?_
    rintro ⟨i, m⟩ ⟨hi, hm, hx⟩
    simp only at hi hm hx ⊢
    by_cases hlt : i < l.length
    · rw [sumN_drop hlt] at hx
      simp [hlt, Part.row]
      refine ACall.pure (szPart_c l[i] (hs _ (List.getElem_mem hlt)) m hm) (by simp [Part.row]) ?_
      by_cases hk : nPart l[i] ≤ m
      · rw [szR_ok hk]
        have hz : ¬ ((m - nPart l[i] : Nat) : Int) < 0 := by omega
        simp [hz]
        refine ⟨i + 1, m - nPart l[i], ⟨by omega, by omega, ?_⟩, by omega, i64_suc (by omega), rfl⟩
        rw [← hx]; unfold szR; split <;> split <;> omega
      · rw [szR_no (show ¬ nPart l[i] + sumN nPart (l.drop (i + 1)) ≤ m by omega)] at hx
        rw [szR_no hk]
        simp [← hx]
    · have : i = l.length := by omega
      subst this
      simp only [List.drop_length, sumN, szR, Nat.zero_le, if_true, Nat.sub_zero] at hx
      simp [hx]
  · have hz : (left : Int) - l.length < 0 := by omega
    simp [hw, hz, szR_no (show ¬ nL nPart l ≤ left by omega)]

theorem markPartS_c (l : List Part) (k : Int) (h0 : 0 ≤ k) (hk : k + cntL Part.cnt l ≤ 4611686018427387904) (hl : nL nPart l ≤ 2 ^ 40) : MarkC Tryz.prog 139 (.c (.s (l.map Part.row)) 3) k (k + cntL Part.cnt l) (.c (.s ((markL Part.mark Part.cnt l k).map Part.row)) 3) := by
  refine MarkC.intro tt_ok Tryz.func139 (by kernel_rfl) rfl rfl rfl (by decide) (fun w0 base => ?_)
  have hle := nL_len hl
  simp
  intro H
  refine LoopT.introG eok (fun i : Nat => i ≤ l.length) (fun i => ⟨34, 0, [(5, .v (.int .i64 i)), (1, .v (.int .i64 (k + cntL Part.cnt (l.take i)))), (0, .ml 0 H 3 l.length)], [(0, .rows H 3 (marked Part.mark Part.cnt Part.row l k i) true)]⟩) (fun i => l.length - i) 0 (by simp) (by simp [marked_0, cntL]) (fun i hi => ?_)
  by_cases h : i < l.length
  · have hc := cntL_cell_le (cn := Part.cnt) h
    have hs := cntL_take_suc (cn := Part.cnt) h
    have hni := nL_at hl h
    simp only [nPart] at hni
    obtain ⟨q0, hq0⟩ : ∃ q, k + ((cntL Part.cnt (l.take i) : Nat) : Int) = q := ⟨_, rfl⟩
    have hpc : l[i].cnt = 2 + (l[i].signs.length) := rfl
    rw [hq0, ← marked_row h]
    have e0 : Go.IntKind.i64.wrap q0 = q0 := Go.IntWalk.i64_in _ (by omega)
    obtain ⟨q1, hq1⟩ : ∃ q, q0 + 1 = q := ⟨_, rfl⟩
    have e1 : Go.IntKind.i64.wrap q1 = q1 := Go.IntWalk.i64_in _ (by omega)
    obtain ⟨q2, hq2⟩ : ∃ q, q1 + 1 = q := ⟨_, rfl⟩
    have e2 : Go.IntKind.i64.wrap q2 = q2 := Go.IntWalk.i64_in _ (by omega)
    obtain ⟨q3, hq3⟩ : ∃ q, q2 + ((l[i].signs.length : Nat) : Int) = q := ⟨_, rfl⟩
    have e3 : Go.IntKind.i64.wrap q3 = q3 := Go.IntWalk.i64_in _ (by omega)
    have e : Go.IntKind.i64.wrap ((i : Int) + 1) = ((i + 1 : Nat) : Int) := i64_suc (by omega)
    refine Ent.open (fun _ h => h) (k := 0) (i := i) (j := 2) (k' := 902) (sz' := 1) (sz := 3) (H := H) (rows := ((marked Part.mark Part.cnt Part.row l k i).set i l[i].row)) (srows := l[i].signs.map intR) (row := l[i].row) (by simp) (by simp [marked_length, h]) rfl (by simp) (by decide) (by simp [intR]) (by simp) (fun H2 => ?_)
    refine Ent.refl ?_
    simp [h, marked_length, Part.row, setC_set, modify_set, hq1, e1, hq2, e2]
    refine ACall.mark (markIntS_c l[i].signs q2 (by omega) (by omega)) rfl (fun _ h => h) (by simp) ?_
    simp [e, hq3]
    refine Ent.close (k := 0) (i := i) (j := 2) (k' := 902) (sz' := 1) (sz := 3) (H := H) (rows := (marked Part.mark Part.cnt Part.row l k i).set i [vi q0, vi q1, .h 902 H2 1 l[i].signs.length]) (row := [vi q0, vi q1, .h 902 H2 1 l[i].signs.length]) (H' := H2) (srows := (markL intM one l[i].signs q2).map intR) (by simp) (by simp [marked_length, h]) (by simp [markL_length]) (by simp) (by decide) (by simp) ?_
    refine Ent.refl ⟨i + 1, by omega, by omega, ?_⟩
    simp [setC_set, hs, hpc]
    refine ⟨by omega, ?_⟩
    refine marked_set h ?_
    rw [hq0]
    subst hq1 hq2 hq3
    rfl
  · have : i = l.length := by omega
    subst this
    refine Ent.refl ?_
    simp [marked_all, markL_length, Part.row]

theorem heldPartS_c (l : List Part) (k : Int) (h0 : 0 ≤ k) (hk : k + cntL Part.cnt l ≤ 4611686018427387904) (hl : nL nPart l ≤ 2 ^ 40) : PureC Tryz.prog 213 [.c (.s ((markL Part.mark Part.cnt l k).map Part.row)), .c (vi k)] (.one (.c (vi (k + cntL Part.cnt l)) 1)) := by
  refine PureC.intro' tt_ok Tryz.func213 (by kernel_rfl) rfl rfl rfl (Nat.le_of_ble_eq_true rfl) (fun w0 base => ?_)
  have hle := nL_len hl
  simp
  refine LoopT.intro eok (fun i : Nat => i ≤ l.length) (fun i => ⟨40, 0, [(5, .v (.int .i64 i)), (1, .v (.int .i64 (k + cntL Part.cnt (l.take i)))), (0, .ro ((markL Part.mark Part.cnt l k).map Part.row))], []⟩) (fun i => l.length - i) 0 (by simp) (by simp [cntL]) (fun i hi => ?_)
  by_cases h : i < l.length
  · have hc := cntL_cell_le (cn := Part.cnt) h
    have hs := cntL_take_suc (cn := Part.cnt) h
    have hni := nL_at hl h
    simp only [nPart] at hni
    have hm := markL_cell (mk := Part.mark) (cn := Part.cnt) (k := k) h
    obtain ⟨q0, hq0⟩ : ∃ q, k + ((cntL Part.cnt (l.take i) : Nat) : Int) = q := ⟨_, rfl⟩
    have hpc : l[i].cnt = 2 + (l[i].signs.length) := rfl
    rw [hq0] at hm
    rw [hq0]
    have z0 : ¬ q0 < 0 := by omega
    have e0 : Go.IntKind.i64.wrap q0 = q0 := Go.IntWalk.i64_in _ (by omega)
    obtain ⟨q1, hq1⟩ : ∃ q, q0 + 1 = q := ⟨_, rfl⟩
    have e1 : Go.IntKind.i64.wrap q1 = q1 := Go.IntWalk.i64_in _ (by omega)
    have z1 : ¬ q1 < 0 := by omega
    obtain ⟨q2, hq2⟩ : ∃ q, q1 + 1 = q := ⟨_, rfl⟩
    have e2 : Go.IntKind.i64.wrap q2 = q2 := Go.IntWalk.i64_in _ (by omega)
    have z2 : ¬ q2 < 0 := by omega
    obtain ⟨q3, hq3⟩ : ∃ q, q2 + ((l[i].signs.length : Nat) : Int) = q := ⟨_, rfl⟩
    have e3 : Go.IntKind.i64.wrap q3 = q3 := Go.IntWalk.i64_in _ (by omega)
    have z3 : ¬ q3 < 0 := by omega
    have e : Go.IntKind.i64.wrap ((i : Int) + 1) = ((i + 1 : Nat) : Int) := i64_suc (by omega)
    simp [h, markL_length, hm, Part.row, Part.mark, hq1, e1, hq2, e2]
    refine ACall.pure (heldIntS_c l[i].signs q2 (by omega) (by omega)) (by simp) ?_
    simp [hq3, z3]
    refine ⟨i + 1, by omega, by omega, ?_⟩
    simp [e, hs, hpc]
    omega
  · have : i = l.length := by omega
    subst this
    simp [markL_length]
end Go.Proofs.YtdfdabjdfmamgaaGreat

namespace Go.Proofs.YtdfdabjdfmamgaaGreat
open Go.AM
set_option maxRecDepth 20000
theorem toRep_c (x : Rep) (h : nRep x ≤ 2 ^ 40) : PureC Tryz.prog 174 [.agg x.row] (.one (.agg x.res)) := by
  refine PureC.intro' tt_ok Tryz.func174 (by kernel_rfl) rfl rfl rfl (Nat.le_of_ble_eq_true rfl) (fun w0 base => ?_)
  unfold nRep at h
  simp [Rep.row, Rep.res]
  try intros
  refine ACall.pure (toIntS_c x.text (by omega)) (by simp) ?_
  simp
  try intros
  refine ACall.pure (toPartS_c x.sent (by omega)) (by simp) ?_
  simp
  try intros
  refine ACall.pure (toPartS_c x.buf (by omega)) (by simp) ?_
  simp
  try intros

theorem eqRep_c (x y : Rep) (h : nRep x ≤ 2 ^ 40) : PureC Tryz.prog 180 [.agg x.row, .agg y.row] (.one (.c (vb (x = y)) 1)) := by
  refine PureC.intro' tt_ok Tryz.func180 (by kernel_rfl) rfl rfl rfl (Nat.le_of_ble_eq_true rfl) (fun w0 base => ?_)
  unfold nRep at h
  obtain ⟨a0, a1, a2, a3, a4, a5, a6⟩ := x
  obtain ⟨b0, b1, b2, b3, b4, b5, b6⟩ := y
  simp only at h
  simp [Rep.row]
  try intros
  by_cases h0 : a0 = b0
  rotate_left
  · simp [h0]
  subst h0
  try simp
  by_cases h1 : a1 = b1
  rotate_left
  · simp [h1]
  subst h1
  try simp
  by_cases h2 : a2 = b2
  rotate_left
  · simp [h2]
  subst h2
  try simp
  refine ACall.pure (eqIntS_c a3 b3 (by omega)) (by simp) ?_
  simp
  by_cases h3 : a3 = b3
  rotate_left
  · simp [h3]
  subst h3
  try simp
  by_cases h4 : a4 = b4
  rotate_left
  · simp [h4]
  subst h4
  try simp
  refine ACall.pure (eqPartS_c a5 b5 (by omega)) (by simp) ?_
  simp
  by_cases h5 : a5 = b5
  rotate_left
  · simp [h5]
  subst h5
  try simp
  refine ACall.pure (eqPartS_c a6 b6 (by omega)) (by simp) ?_
  simp
  by_cases h6 : a6 = b6
  rotate_left
  · simp [h6]
  subst h6
  try simp

theorem szRep_c (x : Rep) (h : x.fits) (left : Nat) (hf : left ≤ 2 ^ 20) : PureC Tryz.prog 168 [.agg x.row, .c (vi left)] (.one (.c (vi (szR (nRep x) left)) 1)) := by
  refine PureC.intro' tt_ok Tryz.func168 (by kernel_rfl) rfl rfl rfl (Nat.le_of_ble_eq_true rfl) (fun w0 base => ?_)
  obtain ⟨f0, f1, f2, f3, f4, f5, f6⟩ := h
  obtain ⟨r, hr⟩ : ∃ r, szR (nRep x) left = r := ⟨_, rfl⟩
  rw [hr]
  have hn : nRep x = x.text.length + (nL nPart x.sent + (nL nPart x.buf)) := rfl
  simp [Rep.row]
  try intros
  refine ACall.pure (szIntS_c x.text f3.1 left (by omega)) (by simp) ?_
  by_cases k0 : x.text.length ≤ left
  rotate_left
  · have : r = -1 := by rw [← hr]; exact szR_no (by omega)
    rw [szR_no k0]
    simp [this]
  rw [szR_ok k0]
  obtain ⟨m0, hm0⟩ : ∃ m, left - x.text.length = m := ⟨_, rfl⟩
  rw [hm0]
  simp
  refine ACall.pure (szPartS_c x.sent f5.1 f5.2 m0 (by omega)) (by simp) ?_
  by_cases k1 : nL nPart x.sent ≤ m0
  rotate_left
  · have : r = -1 := by rw [← hr]; exact szR_no (by omega)
    rw [szR_no k1]
    simp [this]
  rw [szR_ok k1]
  obtain ⟨m1, hm1⟩ : ∃ m, m0 - nL nPart x.sent = m := ⟨_, rfl⟩
  rw [hm1]
  simp
  refine ACall.pure (szPartS_c x.buf f6.1 f6.2 m1 (by omega)) (by simp) ?_
  by_cases k2 : nL nPart x.buf ≤ m1
  rotate_left
  · have : r = -1 := by rw [← hr]; exact szR_no (by omega)
    rw [szR_no k2]
    simp [this]
  rw [szR_ok k2]
  obtain ⟨m2, hm2⟩ : ∃ m, m1 - nL nPart x.buf = m := ⟨_, rfl⟩
  rw [hm2]
  have : r = (m2 : Int) := by rw [← hr, szR_ok (by omega)]; omega
  simp [this]

theorem toRepS_c (l : List Rep) (hl : nL nRep l ≤ 2 ^ 40) : PureC Tryz.prog 82 [.c (.s (l.map Rep.row))] (.one (.c (.s (l.map Rep.row)) 7)) := by
  refine PureC.intro' tt_ok Tryz.func82 (by kernel_rfl) rfl rfl rfl (Nat.le_of_ble_eq_true rfl) (fun w0 base => ?_)
  have hle := nL_len hl
  simp
  refine ⟨by omega, fun b => ?_⟩
  refine LoopT.intro eok (fun i : Nat => i ≤ l.length) (fun i => ⟨23, 0, [(4, .v (.int .i64 i)), (3, .sl 112 (some (b, 0, l.length)) 7 0 l.length), (0, .ro (l.map Rep.row))],
    [(112, .rows (some (b, 0, l.length)) 7 (fillR Rep.row [.v (.int .i64 0), .v (.int .i64 0), .v (.int .i64 0), .s [], .v (.bool false), .s [], .s []] l i) true)]⟩) (fun i => l.length - i) 0 (by simp) (by simp [fillR_0]) (fun i hi => ?_)
  by_cases h : i < l.length
  · simp [h, Rep.row]
    refine ACall.pure (toRep_c l[i] (nL_at hl h)) (by simp [Rep.row]) ?_
    simp [Rep.res, fillR_length hi, h]
    exact ⟨i + 1, by omega, by omega, i64_suc (by omega), fillR_set (f := Rep.row) h⟩
  · have : i = l.length := by omega
    subst this
    simp [fillR_all, cut]
    try exact fun a _ => rfl

theorem eqRepS_c (a b : List Rep) (hl : nL nRep a ≤ 2 ^ 40) : PureC Tryz.prog 87 [.c (.s (a.map Rep.row)), .c (.s (b.map Rep.row))] (.one (.c (vb (a = b)) 1)) := by
  refine PureC.intro' tt_ok Tryz.func87 (by kernel_rfl) rfl rfl rfl (Nat.le_of_ble_eq_true rfl) (fun w0 base => ?_)
  have hle := nL_len hl
  by_cases h : a.length = b.length
  · simp [h]
    refine LoopT.intro eok (fun i : Nat => i ≤ a.length ∧ a.take i = b.take i) (fun i => ⟨27, 0, [(5, .v (.int .i64 i)), (1, .ro (b.map Rep.row)), (0, .ro (a.map Rep.row))], []⟩) (fun i => a.length - i) 0 (by simp) (by simp) (fun i hi => ?_)
    by_cases hlt : i < a.length
    · simp [hlt]
      have hlt' : i < b.length := by omega
      refine DrawT.quiet eok mix (by kernel_rfl) ?_
      simp [hlt, hlt', Rep.row]
      refine ⟨_, _, eqRep_c a[i] b[i] (nL_at hl hlt), by simp [Rep.row], ?_⟩
      simp
      refine Br.mk (fun h1 => ?_) (fun h1 => ?_)
      · simp
        exact ⟨i + 1, ⟨by omega, take_next hlt hlt' hi.2 (of_yes h1)⟩, by omega, i64_suc (by omega)⟩
      · simp [dc_no]
        exact ne_at hlt hlt' (of_no h1)
    · simp [hlt, dc_yes]
      exact take_all (by omega) (by omega) hi.2
  · have hz : ¬ (a.length : Int) = b.length := by omega
    simp [hz, dc_no]
    exact fun h2 => absurd (by rw [h2]) h

theorem szRepS_c (l : List Rep) (hl : l.length ≤ 9223372036854775807) (hs : ∀ y ∈ l, y.fits) (left : Nat) (hf : left ≤ 2 ^ 20) : PureC Tryz.prog 77 [.c (.s (l.map Rep.row)), .c (vi left)] (.one (.c (vi (szR (nL nRep l) left)) 1)) := by
  refine PureC.intro' tt_ok Tryz.func77 (by kernel_rfl) rfl rfl rfl (Nat.le_of_ble_eq_true rfl) (fun w0 base => ?_)
  have hw : IntKind.i64.wrap ((left : Int) - (l.length : Int)) = (left : Int) - l.length := IntWalk.i64_in _ (by omega)
  have hn : nL nRep l = l.length + sumN nRep l := rfl
  by_cases h : l.length ≤ left
  · obtain ⟨lf, hlf⟩ : ∃ lf : Nat, left - l.length = lf := ⟨_, rfl⟩
    have hlz : (left : Int) - l.length = (lf : Int) := by omega
    have hw2 : IntKind.i64.wrap (lf : Int) = lf := i64_nat (by omega)
    simp [hlz, hw2]
    obtain ⟨r, hr⟩ : ∃ r, szR (nL nRep l) left = r := ⟨_, rfl⟩
    have hr0 : szR (sumN nRep l) lf = r := by rw [← hr]; unfold szR; split <;> split <;> omega
    rw [hr]
    refine LoopT.intro eok (fun x : Nat × Nat => x.1 ≤ l.length ∧ x.2 ≤ 2 ^ 20 ∧ szR (sumN nRep (l.drop x.1)) x.2 = r) (fun x => ⟨27, 0, [(5, .v (.int .i64 x.1)), (1, .v (.int .i64 x.2)), (0, .ro (l.map Rep.row))], []⟩) (fun x => l.length - x.1) (0, lf) (by simp [hr0]; omega) (by simp) ?_
    rintro ⟨i, m⟩ ⟨hi, hm, hx⟩
    simp only at hi hm hx ⊢
    by_cases hlt : i < l.length
    · rw [sumN_drop hlt] at hx
      simp [hlt, Rep.row]
      refine ACall.pure (szRep_c l[i] (hs _ (List.getElem_mem hlt)) m hm) (by simp [Rep.row]) ?_
      by_cases hk : nRep l[i] ≤ m
      · rw [szR_ok hk]
        have hz : ¬ ((m - nRep l[i] : Nat) : Int) < 0 := by omega
        simp [hz]
        refine ⟨i + 1, m - nRep l[i], ⟨by omega, by omega, ?_⟩, by omega, i64_suc (by omega), rfl⟩
        rw [← hx]; unfold szR; split <;> split <;> omega
      · rw [szR_no (show ¬ nRep l[i] + sumN nRep (l.drop (i + 1)) ≤ m by omega)] at hx
        rw [szR_no hk]
        simp [← hx]
    · have : i = l.length := by omega
      subst this
      simp only [List.drop_length, sumN, szR, Nat.zero_le, if_true, Nat.sub_zero] at hx
      simp [hx]
  · have hz : (left : Int) - l.length < 0 := by omega
    simp [hw, hz, szR_no (show ¬ nL nRep l ≤ left by omega)]

theorem markRepS_c (l : List Rep) (k : Int) (h0 : 0 ≤ k) (hk : k + cntL Rep.cnt l ≤ 4611686018427387904) (hl : nL nRep l ≤ 2 ^ 40) : MarkC Tryz.prog 159 (.c (.s (l.map Rep.row)) 7) k (k + cntL Rep.cnt l) (.c (.s ((markL Rep.mark Rep.cnt l k).map Rep.row)) 7) := by
  refine MarkC.intro tt_ok Tryz.func159 (by kernel_rfl) rfl rfl rfl (by decide) (fun w0 base => ?_)
  have hle := nL_len hl
  simp
  intro H
  refine LoopT.introG eok (fun i : Nat => i ≤ l.length) (fun i => ⟨64, 0, [(5, .v (.int .i64 i)), (1, .v (.int .i64 (k + cntL Rep.cnt (l.take i)))), (0, .ml 0 H 7 l.length)], [(0, .rows H 7 (marked Rep.mark Rep.cnt Rep.row l k i) true)]⟩) (fun i => l.length - i) 0 (by simp) (by simp [marked_0, cntL]) (fun i hi => ?_)
  by_cases h : i < l.length
  · have hc := cntL_cell_le (cn := Rep.cnt) h
    have hs := cntL_take_suc (cn := Rep.cnt) h
    have hni := nL_at hl h
    simp only [nRep] at hni
    obtain ⟨q0, hq0⟩ : ∃ q, k + ((cntL Rep.cnt (l.take i) : Nat) : Int) = q := ⟨_, rfl⟩
    have hpc : l[i].cnt = 4 + (l[i].text.length + (cntL Part.cnt l[i].sent + (cntL Part.cnt l[i].buf))) := rfl
    rw [hq0, ← marked_row h]
    have e0 : Go.IntKind.i64.wrap q0 = q0 := Go.IntWalk.i64_in _ (by omega)
    obtain ⟨q1, hq1⟩ : ∃ q, q0 + 1 = q := ⟨_, rfl⟩
    have e1 : Go.IntKind.i64.wrap q1 = q1 := Go.IntWalk.i64_in _ (by omega)
    obtain ⟨q2, hq2⟩ : ∃ q, q1 + 1 = q := ⟨_, rfl⟩
    have e2 : Go.IntKind.i64.wrap q2 = q2 := Go.IntWalk.i64_in _ (by omega)
    obtain ⟨q3, hq3⟩ : ∃ q, q2 + 1 = q := ⟨_, rfl⟩
    have e3 : Go.IntKind.i64.wrap q3 = q3 := Go.IntWalk.i64_in _ (by omega)
    obtain ⟨q4, hq4⟩ : ∃ q, q3 + ((l[i].text.length : Nat) : Int) = q := ⟨_, rfl⟩
    have e4 : Go.IntKind.i64.wrap q4 = q4 := Go.IntWalk.i64_in _ (by omega)
    obtain ⟨q5, hq5⟩ : ∃ q, q4 + 1 = q := ⟨_, rfl⟩
    have e5 : Go.IntKind.i64.wrap q5 = q5 := Go.IntWalk.i64_in _ (by omega)
    obtain ⟨q6, hq6⟩ : ∃ q, q5 + ((cntL Part.cnt l[i].sent : Nat) : Int) = q := ⟨_, rfl⟩
    have e6 : Go.IntKind.i64.wrap q6 = q6 := Go.IntWalk.i64_in _ (by omega)
    obtain ⟨q7, hq7⟩ : ∃ q, q6 + ((cntL Part.cnt l[i].buf : Nat) : Int) = q := ⟨_, rfl⟩
    have e7 : Go.IntKind.i64.wrap q7 = q7 := Go.IntWalk.i64_in _ (by omega)
    have e : Go.IntKind.i64.wrap ((i : Int) + 1) = ((i + 1 : Nat) : Int) := i64_suc (by omega)
    refine Ent.open (fun _ h => h) (k := 0) (i := i) (j := 3) (k' := 903) (sz' := 1) (sz := 7) (H := H) (rows := ((marked Rep.mark Rep.cnt Rep.row l k i).set i l[i].row)) (srows := l[i].text.map intR) (row := l[i].row) (by simp) (by simp [marked_length, h]) rfl (by simp) (by decide) (by simp [intR]) (by simp) (fun H3 => ?_)
    refine Ent.open (fun _ h => h) (k := 0) (i := i) (j := 5) (k' := 905) (sz' := 3) (sz := 7) (H := H) (rows := ((marked Rep.mark Rep.cnt Rep.row l k i).set i [vi l[i].client, vi l[i].seq, vi l[i].rev, .h 903 H3 1 l[i].text.length, .v (.bool l[i].has), .s (l[i].sent.map Part.row), .s (l[i].buf.map Part.row)])) (srows := l[i].sent.map Part.row) (row := [vi l[i].client, vi l[i].seq, vi l[i].rev, .h 903 H3 1 l[i].text.length, .v (.bool l[i].has), .s (l[i].sent.map Part.row), .s (l[i].buf.map Part.row)]) (by simp [setC_set, Rep.row]) (by simp [marked_length, h]) rfl (by simp) (by decide) (by simp [Part.row]) (by simp) (fun H5 => ?_)
    refine Ent.open (fun _ h => h) (k := 0) (i := i) (j := 6) (k' := 906) (sz' := 3) (sz := 7) (H := H) (rows := ((marked Rep.mark Rep.cnt Rep.row l k i).set i [vi l[i].client, vi l[i].seq, vi l[i].rev, .h 903 H3 1 l[i].text.length, .v (.bool l[i].has), .h 905 H5 3 l[i].sent.length, .s (l[i].buf.map Part.row)])) (srows := l[i].buf.map Part.row) (row := [vi l[i].client, vi l[i].seq, vi l[i].rev, .h 903 H3 1 l[i].text.length, .v (.bool l[i].has), .h 905 H5 3 l[i].sent.length, .s (l[i].buf.map Part.row)]) (by simp [setC_set, Rep.row]) (by simp [marked_length, h]) rfl (by simp) (by decide) (by simp [Part.row]) (by simp) (fun H6 => ?_)
    refine Ent.refl ?_
    simp [h, marked_length, Rep.row, setC_set, modify_set, hq1, e1, hq2, e2, hq3, e3]
    refine ACall.mark (markIntS_c l[i].text q3 (by omega) (by omega)) rfl (fun _ h => h) (by simp) ?_
    simp [h, marked_length, modify_set, hq4, hq5, e5]
    refine ACall.mark (markPartS_c l[i].sent q5 (by omega) (by omega) (by omega)) rfl (fun _ h => h) (by simp) ?_
    simp [h, marked_length, hq6]
    refine ACall.mark (markPartS_c l[i].buf q6 (by omega) (by omega) (by omega)) rfl (fun _ h => h) (by simp) ?_
    simp [e, hq7]
    refine Ent.close (k := 0) (i := i) (j := 3) (k' := 903) (sz' := 1) (sz := 7) (H := H) (rows := (marked Rep.mark Rep.cnt Rep.row l k i).set i [vi q0, vi q1, vi q2, .h 903 H3 1 l[i].text.length, .v (.bool (markB q4)), .h 905 H5 3 l[i].sent.length, .h 906 H6 3 l[i].buf.length]) (row := [vi q0, vi q1, vi q2, .h 903 H3 1 l[i].text.length, .v (.bool (markB q4)), .h 905 H5 3 l[i].sent.length, .h 906 H6 3 l[i].buf.length]) (H' := H3) (srows := (markL intM one l[i].text q3).map intR) (by simp [markB]) (by simp [marked_length, h]) (by simp [markL_length]) (by simp) (by decide) (by simp) ?_
    refine Ent.close (k := 0) (i := i) (j := 5) (k' := 905) (sz' := 3) (sz := 7) (H := H) (rows := (marked Rep.mark Rep.cnt Rep.row l k i).set i [vi q0, vi q1, vi q2, .s ((markL intM one l[i].text q3).map intR), .v (.bool (markB q4)), .h 905 H5 3 l[i].sent.length, .h 906 H6 3 l[i].buf.length]) (row := [vi q0, vi q1, vi q2, .s ((markL intM one l[i].text q3).map intR), .v (.bool (markB q4)), .h 905 H5 3 l[i].sent.length, .h 906 H6 3 l[i].buf.length]) (H' := H5) (srows := (markL Part.mark Part.cnt l[i].sent q5).map Part.row) (by simp [setC_set, markB]) (by simp [marked_length, h]) (by simp [markL_length]) (by simp) (by decide) (by simp) ?_
    refine Ent.close (k := 0) (i := i) (j := 6) (k' := 906) (sz' := 3) (sz := 7) (H := H) (rows := (marked Rep.mark Rep.cnt Rep.row l k i).set i [vi q0, vi q1, vi q2, .s ((markL intM one l[i].text q3).map intR), .v (.bool (markB q4)), .s ((markL Part.mark Part.cnt l[i].sent q5).map Part.row), .h 906 H6 3 l[i].buf.length]) (row := [vi q0, vi q1, vi q2, .s ((markL intM one l[i].text q3).map intR), .v (.bool (markB q4)), .s ((markL Part.mark Part.cnt l[i].sent q5).map Part.row), .h 906 H6 3 l[i].buf.length]) (H' := H6) (srows := (markL Part.mark Part.cnt l[i].buf q6).map Part.row) (by simp [setC_set, markB]) (by simp [marked_length, h]) (by simp [markL_length]) (by simp) (by decide) (by simp) ?_
    refine Ent.refl ⟨i + 1, by omega, by omega, ?_⟩
    simp [setC_set, hs, hpc]
    refine ⟨by omega, ?_⟩
    refine marked_set h ?_
    rw [hq0]
    subst hq1 hq2 hq3 hq4 hq5 hq6 hq7
    rfl
  · have : i = l.length := by omega
    subst this
    refine Ent.refl ?_
    simp [marked_all, markL_length, Rep.row]

theorem heldRepS_c (l : List Rep) (k : Int) (h0 : 0 ≤ k) (hk : k + cntL Rep.cnt l ≤ 4611686018427387904) (hl : nL nRep l ≤ 2 ^ 40) : PureC Tryz.prog 161 [.c (.s ((markL Rep.mark Rep.cnt l k).map Rep.row)), .c (vi k)] (.one (.c (vi (k + cntL Rep.cnt l)) 1)) := by
  refine PureC.intro' tt_ok Tryz.func161 (by kernel_rfl) rfl rfl rfl (Nat.le_of_ble_eq_true rfl) (fun w0 base => ?_)
  have hle := nL_len hl
  simp
  refine LoopT.intro eok (fun i : Nat => i ≤ l.length) (fun i => ⟨78, 0, [(5, .v (.int .i64 i)), (1, .v (.int .i64 (k + cntL Rep.cnt (l.take i)))), (0, .ro ((markL Rep.mark Rep.cnt l k).map Rep.row))], []⟩) (fun i => l.length - i) 0 (by simp) (by simp [cntL]) (fun i hi => ?_)
  by_cases h : i < l.length
  · have hc := cntL_cell_le (cn := Rep.cnt) h
    have hs := cntL_take_suc (cn := Rep.cnt) h
    have hni := nL_at hl h
    simp only [nRep] at hni
    have hm := markL_cell (mk := Rep.mark) (cn := Rep.cnt) (k := k) h
    obtain ⟨q0, hq0⟩ : ∃ q, k + ((cntL Rep.cnt (l.take i) : Nat) : Int) = q := ⟨_, rfl⟩
    have hpc : l[i].cnt = 4 + (l[i].text.length + (cntL Part.cnt l[i].sent + (cntL Part.cnt l[i].buf))) := rfl
    rw [hq0] at hm
    rw [hq0]
    have z0 : ¬ q0 < 0 := by omega
    have e0 : Go.IntKind.i64.wrap q0 = q0 := Go.IntWalk.i64_in _ (by omega)
    obtain ⟨q1, hq1⟩ : ∃ q, q0 + 1 = q := ⟨_, rfl⟩
    have e1 : Go.IntKind.i64.wrap q1 = q1 := Go.IntWalk.i64_in _ (by omega)
    have z1 : ¬ q1 < 0 := by omega
    obtain ⟨q2, hq2⟩ : ∃ q, q1 + 1 = q := ⟨_, rfl⟩
    have e2 : Go.IntKind.i64.wrap q2 = q2 := Go.IntWalk.i64_in _ (by omega)
    have z2 : ¬ q2 < 0 := by omega
    obtain ⟨q3, hq3⟩ : ∃ q, q2 + 1 = q := ⟨_, rfl⟩
    have e3 : Go.IntKind.i64.wrap q3 = q3 := Go.IntWalk.i64_in _ (by omega)
    have z3 : ¬ q3 < 0 := by omega
    obtain ⟨q4, hq4⟩ : ∃ q, q3 + ((l[i].text.length : Nat) : Int) = q := ⟨_, rfl⟩
    have e4 : Go.IntKind.i64.wrap q4 = q4 := Go.IntWalk.i64_in _ (by omega)
    have z4 : ¬ q4 < 0 := by omega
    obtain ⟨q5, hq5⟩ : ∃ q, q4 + 1 = q := ⟨_, rfl⟩
    have e5 : Go.IntKind.i64.wrap q5 = q5 := Go.IntWalk.i64_in _ (by omega)
    have z5 : ¬ q5 < 0 := by omega
    obtain ⟨q6, hq6⟩ : ∃ q, q5 + ((cntL Part.cnt l[i].sent : Nat) : Int) = q := ⟨_, rfl⟩
    have e6 : Go.IntKind.i64.wrap q6 = q6 := Go.IntWalk.i64_in _ (by omega)
    have z6 : ¬ q6 < 0 := by omega
    obtain ⟨q7, hq7⟩ : ∃ q, q6 + ((cntL Part.cnt l[i].buf : Nat) : Int) = q := ⟨_, rfl⟩
    have e7 : Go.IntKind.i64.wrap q7 = q7 := Go.IntWalk.i64_in _ (by omega)
    have z7 : ¬ q7 < 0 := by omega
    have e : Go.IntKind.i64.wrap ((i : Int) + 1) = ((i + 1 : Nat) : Int) := i64_suc (by omega)
    simp [h, markL_length, hm, Rep.row, Rep.mark, hq1, e1, hq2, e2, hq3, e3, hq4, hq5, hq6, markB]
    refine ACall.pure (heldIntS_c l[i].text q3 (by omega) (by omega)) (by simp) ?_
    simp [h, markL_length, hm, Rep.row, Rep.mark, hq1, hq2, hq3, hq4, z4, hq5, e5, hq6, markB]
    refine ACall.pure (heldPartS_c l[i].sent q5 (by omega) (by omega) (by omega)) (by simp) ?_
    simp [h, markL_length, hm, Rep.row, Rep.mark, hq1, hq2, hq3, hq4, hq5, hq6, z6, markB]
    refine ACall.pure (heldPartS_c l[i].buf q6 (by omega) (by omega) (by omega)) (by simp) ?_
    simp [hq7, z7]
    refine ⟨i + 1, by omega, by omega, ?_⟩
    simp [e, hs, hpc]
    omega
  · have : i = l.length := by omega
    subst this
    simp [markL_length]
end Go.Proofs.YtdfdabjdfmamgaaGreat

namespace Go.Proofs.YtdfdabjdfmamgaaGreat
open Go.AM
set_option maxRecDepth 20000
theorem toEntry_c (x : Entry) (h : nEntry x ≤ 2 ^ 40) : PureC Tryz.prog 259 [.agg x.row] (.one (.agg x.res)) := by
  refine PureC.intro' tt_ok Tryz.func259 (by kernel_rfl) rfl rfl rfl (Nat.le_of_ble_eq_true rfl) (fun w0 base => ?_)
  unfold nEntry at h
  simp [Entry.row, Entry.res]
  try intros
  refine ACall.pure (toPartS_c x.o (by omega)) (by simp) ?_
  simp
  try intros

theorem eqEntry_c (x y : Entry) (h : nEntry x ≤ 2 ^ 40) : PureC Tryz.prog 265 [.agg x.row, .agg y.row] (.one (.c (vb (x = y)) 1)) := by
  refine PureC.intro' tt_ok Tryz.func265 (by kernel_rfl) rfl rfl rfl (Nat.le_of_ble_eq_true rfl) (fun w0 base => ?_)
  unfold nEntry at h
  obtain ⟨a0, a1, a2⟩ := x
  obtain ⟨b0, b1, b2⟩ := y
  simp only at h
  simp [Entry.row]
  try intros
  by_cases h0 : a0 = b0
  rotate_left
  · simp [h0]
  subst h0
  try simp
  by_cases h1 : a1 = b1
  rotate_left
  · simp [h1]
  subst h1
  try simp
  refine ACall.pure (eqPartS_c a2 b2 (by omega)) (by simp) ?_
  simp
  by_cases h2 : a2 = b2
  rotate_left
  · simp [h2]
  subst h2
  try simp

theorem szEntry_c (x : Entry) (h : x.fits) (left : Nat) (hf : left ≤ 2 ^ 20) : PureC Tryz.prog 255 [.agg x.row, .c (vi left)] (.one (.c (vi (szR (nEntry x) left)) 1)) := by
  refine PureC.intro' tt_ok Tryz.func255 (by kernel_rfl) rfl rfl rfl (Nat.le_of_ble_eq_true rfl) (fun w0 base => ?_)
  obtain ⟨f0, f1, f2⟩ := h
  obtain ⟨r, hr⟩ : ∃ r, szR (nEntry x) left = r := ⟨_, rfl⟩
  rw [hr]
  have hn : nEntry x = nL nPart x.o := rfl
  simp [Entry.row]
  try intros
  refine ACall.pure (szPartS_c x.o f2.1 f2.2 left (by omega)) (by simp) ?_
  by_cases k0 : nL nPart x.o ≤ left
  rotate_left
  · have : r = -1 := by rw [← hr]; exact szR_no (by omega)
    rw [szR_no k0]
    simp [this]
  rw [szR_ok k0]
  obtain ⟨m0, hm0⟩ : ∃ m, left - nL nPart x.o = m := ⟨_, rfl⟩
  rw [hm0]
  have : r = (m0 : Int) := by rw [← hr, szR_ok (by omega)]; omega
  simp [this]

theorem toEntryS_c (l : List Entry) (hl : nL nEntry l ≤ 2 ^ 40) : PureC Tryz.prog 172 [.c (.s (l.map Entry.row))] (.one (.c (.s (l.map Entry.row)) 3)) := by
  refine PureC.intro' tt_ok Tryz.func172 (by kernel_rfl) rfl rfl rfl (Nat.le_of_ble_eq_true rfl) (fun w0 base => ?_)
  have hle := nL_len hl
  simp
  refine ⟨by omega, fun b => ?_⟩
  refine LoopT.intro eok (fun i : Nat => i ≤ l.length) (fun i => ⟨23, 0, [(4, .v (.int .i64 i)), (3, .sl 112 (some (b, 0, l.length)) 3 0 l.length), (0, .ro (l.map Entry.row))],
    [(112, .rows (some (b, 0, l.length)) 3 (fillR Entry.row [.v (.int .i64 0), .v (.int .i64 0), .s []] l i) true)]⟩) (fun i => l.length - i) 0 (by simp) (by simp [fillR_0]) (fun i hi => ?_)
  by_cases h : i < l.length
  · simp [h, Entry.row]
    refine ACall.pure (toEntry_c l[i] (nL_at hl h)) (by simp [Entry.row]) ?_
    simp [Entry.res, fillR_length hi, h]
    exact ⟨i + 1, by omega, by omega, i64_suc (by omega), fillR_set (f := Entry.row) h⟩
  · have : i = l.length := by omega
    subst this
    simp [fillR_all, cut]
    try exact fun a _ => rfl

theorem eqEntryS_c (a b : List Entry) (hl : nL nEntry a ≤ 2 ^ 40) : PureC Tryz.prog 178 [.c (.s (a.map Entry.row)), .c (.s (b.map Entry.row))] (.one (.c (vb (a = b)) 1)) := by
  refine PureC.intro' tt_ok Tryz.func178 (by kernel_rfl) rfl rfl rfl (Nat.le_of_ble_eq_true rfl) (fun w0 base => ?_)
  have hle := nL_len hl
  by_cases h : a.length = b.length
  · simp [h]
    refine LoopT.intro eok (fun i : Nat => i ≤ a.length ∧ a.take i = b.take i) (fun i => ⟨27, 0, [(5, .v (.int .i64 i)), (1, .ro (b.map Entry.row)), (0, .ro (a.map Entry.row))], []⟩) (fun i => a.length - i) 0 (by simp) (by simp) (fun i hi => ?_)
    by_cases hlt : i < a.length
    · simp [hlt]
      have hlt' : i < b.length := by omega
      refine DrawT.quiet eok mix (by kernel_rfl) ?_
      simp [hlt, hlt', Entry.row]
      refine ⟨_, _, eqEntry_c a[i] b[i] (nL_at hl hlt), by simp [Entry.row], ?_⟩
      simp
      refine Br.mk (fun h1 => ?_) (fun h1 => ?_)
      · simp
        exact ⟨i + 1, ⟨by omega, take_next hlt hlt' hi.2 (of_yes h1)⟩, by omega, i64_suc (by omega)⟩
      · simp [dc_no]
        exact ne_at hlt hlt' (of_no h1)
    · simp [hlt, dc_yes]
      exact take_all (by omega) (by omega) hi.2
  · have hz : ¬ (a.length : Int) = b.length := by omega
    simp [hz, dc_no]
    exact fun h2 => absurd (by rw [h2]) h

theorem szEntryS_c (l : List Entry) (hl : l.length ≤ 9223372036854775807) (hs : ∀ y ∈ l, y.fits) (left : Nat) (hf : left ≤ 2 ^ 20) : PureC Tryz.prog 166 [.c (.s (l.map Entry.row)), .c (vi left)] (.one (.c (vi (szR (nL nEntry l) left)) 1)) := by
  refine PureC.intro' tt_ok Tryz.func166 (by kernel_rfl) rfl rfl rfl (Nat.le_of_ble_eq_true rfl) (fun w0 base => ?_)
  have hw : IntKind.i64.wrap ((left : Int) - (l.length : Int)) = (left : Int) - l.length := IntWalk.i64_in _ (by omega)
  have hn : nL nEntry l = l.length + sumN nEntry l := rfl
  by_cases h : l.length ≤ left
  · obtain ⟨lf, hlf⟩ : ∃ lf : Nat, left - l.length = lf := ⟨_, rfl⟩
    have hlz : (left : Int) - l.length = (lf : Int) := by omega
    have hw2 : IntKind.i64.wrap (lf : Int) = lf := i64_nat (by omega)
    simp [hlz, hw2]
    obtain ⟨r, hr⟩ : ∃ r, szR (nL nEntry l) left = r := ⟨_, rfl⟩
    have hr0 : szR (sumN nEntry l) lf = r := by rw [← hr]; unfold szR; split <;> split <;> omega
    rw [hr]
    refine LoopT.intro eok (fun x : Nat × Nat => x.1 ≤ l.length ∧ x.2 ≤ 2 ^ 20 ∧ szR (sumN nEntry (l.drop x.1)) x.2 = r) (fun x => ⟨27, 0, [(5, .v (.int .i64 x.1)), (1, .v (.int .i64 x.2)), (0, .ro (l.map Entry.row))], []⟩) (fun x => l.length - x.1) (0, lf) (by simp [hr0]; omega) (by simp) ?_
    rintro ⟨i, m⟩ ⟨hi, hm, hx⟩
    simp only at hi hm hx ⊢
    by_cases hlt : i < l.length
    · rw [sumN_drop hlt] at hx
      simp [hlt, Entry.row]
      refine ACall.pure (szEntry_c l[i] (hs _ (List.getElem_mem hlt)) m hm) (by simp [Entry.row]) ?_
      by_cases hk : nEntry l[i] ≤ m
      · rw [szR_ok hk]
        have hz : ¬ ((m - nEntry l[i] : Nat) : Int) < 0 := by omega
        simp [hz]
        refine ⟨i + 1, m - nEntry l[i], ⟨by omega, by omega, ?_⟩, by omega, i64_suc (by omega), rfl⟩
        rw [← hx]; unfold szR; split <;> split <;> omega
      · rw [szR_no (show ¬ nEntry l[i] + sumN nEntry (l.drop (i + 1)) ≤ m by omega)] at hx
        rw [szR_no hk]
        simp [← hx]
    · have : i = l.length := by omega
      subst this
      simp only [List.drop_length, sumN, szR, Nat.zero_le, if_true, Nat.sub_zero] at hx
      simp [hx]
  · have hz : (left : Int) - l.length < 0 := by omega
    simp [hw, hz, szR_no (show ¬ nL nEntry l ≤ left by omega)]

theorem markEntryS_c (l : List Entry) (k : Int) (h0 : 0 ≤ k) (hk : k + cntL Entry.cnt l ≤ 4611686018427387904) (hl : nL nEntry l ≤ 2 ^ 40) : MarkC Tryz.prog 211 (.c (.s (l.map Entry.row)) 3) k (k + cntL Entry.cnt l) (.c (.s ((markL Entry.mark Entry.cnt l k).map Entry.row)) 3) := by
  refine MarkC.intro tt_ok Tryz.func211 (by kernel_rfl) rfl rfl rfl (by decide) (fun w0 base => ?_)
  have hle := nL_len hl
  simp
  intro H
  refine LoopT.introG eok (fun i : Nat => i ≤ l.length) (fun i => ⟨34, 0, [(5, .v (.int .i64 i)), (1, .v (.int .i64 (k + cntL Entry.cnt (l.take i)))), (0, .ml 0 H 3 l.length)], [(0, .rows H 3 (marked Entry.mark Entry.cnt Entry.row l k i) true)]⟩) (fun i => l.length - i) 0 (by simp) (by simp [marked_0, cntL]) (fun i hi => ?_)
  by_cases h : i < l.length
  · have hc := cntL_cell_le (cn := Entry.cnt) h
    have hs := cntL_take_suc (cn := Entry.cnt) h
    have hni := nL_at hl h
    simp only [nEntry] at hni
    obtain ⟨q0, hq0⟩ : ∃ q, k + ((cntL Entry.cnt (l.take i) : Nat) : Int) = q := ⟨_, rfl⟩
    have hpc : l[i].cnt = 2 + (cntL Part.cnt l[i].o) := rfl
    rw [hq0, ← marked_row h]
    have e0 : Go.IntKind.i64.wrap q0 = q0 := Go.IntWalk.i64_in _ (by omega)
    obtain ⟨q1, hq1⟩ : ∃ q, q0 + 1 = q := ⟨_, rfl⟩
    have e1 : Go.IntKind.i64.wrap q1 = q1 := Go.IntWalk.i64_in _ (by omega)
    obtain ⟨q2, hq2⟩ : ∃ q, q1 + 1 = q := ⟨_, rfl⟩
    have e2 : Go.IntKind.i64.wrap q2 = q2 := Go.IntWalk.i64_in _ (by omega)
    obtain ⟨q3, hq3⟩ : ∃ q, q2 + ((cntL Part.cnt l[i].o : Nat) : Int) = q := ⟨_, rfl⟩
    have e3 : Go.IntKind.i64.wrap q3 = q3 := Go.IntWalk.i64_in _ (by omega)
    have e : Go.IntKind.i64.wrap ((i : Int) + 1) = ((i + 1 : Nat) : Int) := i64_suc (by omega)
    refine Ent.open (fun _ h => h) (k := 0) (i := i) (j := 2) (k' := 902) (sz' := 3) (sz := 3) (H := H) (rows := ((marked Entry.mark Entry.cnt Entry.row l k i).set i l[i].row)) (srows := l[i].o.map Part.row) (row := l[i].row) (by simp) (by simp [marked_length, h]) rfl (by simp) (by decide) (by simp [Part.row]) (by simp) (fun H2 => ?_)
    refine Ent.refl ?_
    simp [h, marked_length, Entry.row, setC_set, modify_set, hq1, e1, hq2, e2]
    refine ACall.mark (markPartS_c l[i].o q2 (by omega) (by omega) (by omega)) rfl (fun _ h => h) (by simp) ?_
    simp [e, hq3]
    refine Ent.close (k := 0) (i := i) (j := 2) (k' := 902) (sz' := 3) (sz := 3) (H := H) (rows := (marked Entry.mark Entry.cnt Entry.row l k i).set i [vi q0, vi q1, .h 902 H2 3 l[i].o.length]) (row := [vi q0, vi q1, .h 902 H2 3 l[i].o.length]) (H' := H2) (srows := (markL Part.mark Part.cnt l[i].o q2).map Part.row) (by simp) (by simp [marked_length, h]) (by simp [markL_length]) (by simp) (by decide) (by simp) ?_
    refine Ent.refl ⟨i + 1, by omega, by omega, ?_⟩
    simp [setC_set, hs, hpc]
    refine ⟨by omega, ?_⟩
    refine marked_set h ?_
    rw [hq0]
    subst hq1 hq2 hq3
    rfl
  · have : i = l.length := by omega
    subst this
    refine Ent.refl ?_
    simp [marked_all, markL_length, Entry.row]

theorem heldEntryS_c (l : List Entry) (k : Int) (h0 : 0 ≤ k) (hk : k + cntL Entry.cnt l ≤ 4611686018427387904) (hl : nL nEntry l ≤ 2 ^ 40) : PureC Tryz.prog 214 [.c (.s ((markL Entry.mark Entry.cnt l k).map Entry.row)), .c (vi k)] (.one (.c (vi (k + cntL Entry.cnt l)) 1)) := by
  refine PureC.intro' tt_ok Tryz.func214 (by kernel_rfl) rfl rfl rfl (Nat.le_of_ble_eq_true rfl) (fun w0 base => ?_)
  have hle := nL_len hl
  simp
  refine LoopT.intro eok (fun i : Nat => i ≤ l.length) (fun i => ⟨40, 0, [(5, .v (.int .i64 i)), (1, .v (.int .i64 (k + cntL Entry.cnt (l.take i)))), (0, .ro ((markL Entry.mark Entry.cnt l k).map Entry.row))], []⟩) (fun i => l.length - i) 0 (by simp) (by simp [cntL]) (fun i hi => ?_)
  by_cases h : i < l.length
  · have hc := cntL_cell_le (cn := Entry.cnt) h
    have hs := cntL_take_suc (cn := Entry.cnt) h
    have hni := nL_at hl h
    simp only [nEntry] at hni
    have hm := markL_cell (mk := Entry.mark) (cn := Entry.cnt) (k := k) h
    obtain ⟨q0, hq0⟩ : ∃ q, k + ((cntL Entry.cnt (l.take i) : Nat) : Int) = q := ⟨_, rfl⟩
    have hpc : l[i].cnt = 2 + (cntL Part.cnt l[i].o) := rfl
    rw [hq0] at hm
    rw [hq0]
    have z0 : ¬ q0 < 0 := by omega
    have e0 : Go.IntKind.i64.wrap q0 = q0 := Go.IntWalk.i64_in _ (by omega)
    obtain ⟨q1, hq1⟩ : ∃ q, q0 + 1 = q := ⟨_, rfl⟩
    have e1 : Go.IntKind.i64.wrap q1 = q1 := Go.IntWalk.i64_in _ (by omega)
    have z1 : ¬ q1 < 0 := by omega
    obtain ⟨q2, hq2⟩ : ∃ q, q1 + 1 = q := ⟨_, rfl⟩
    have e2 : Go.IntKind.i64.wrap q2 = q2 := Go.IntWalk.i64_in _ (by omega)
    have z2 : ¬ q2 < 0 := by omega
    obtain ⟨q3, hq3⟩ : ∃ q, q2 + ((cntL Part.cnt l[i].o : Nat) : Int) = q := ⟨_, rfl⟩
    have e3 : Go.IntKind.i64.wrap q3 = q3 := Go.IntWalk.i64_in _ (by omega)
    have z3 : ¬ q3 < 0 := by omega
    have e : Go.IntKind.i64.wrap ((i : Int) + 1) = ((i + 1 : Nat) : Int) := i64_suc (by omega)
    simp [h, markL_length, hm, Entry.row, Entry.mark, hq1, e1, hq2, e2]
    refine ACall.pure (heldPartS_c l[i].o q2 (by omega) (by omega) (by omega)) (by simp) ?_
    simp [hq3, z3]
    refine ⟨i + 1, by omega, by omega, ?_⟩
    simp [e, hs, hpc]
    omega
  · have : i = l.length := by omega
    subst this
    simp [markL_length]
end Go.Proofs.YtdfdabjdfmamgaaGreat

namespace Go.Proofs.YtdfdabjdfmamgaaGreat
open Go.AM
set_option maxRecDepth 20000
end Go.Proofs.YtdfdabjdfmamgaaGreat

namespace Go.Proofs.YtdfdabjdfmamgaaGreat
open Go.AM
set_option maxRecDepth 20000
theorem toSeen_c (x : Seen) : PureC Tryz.prog 260 [.agg x.row] (.one (.agg x.res)) := by
  refine PureC.intro' tt_ok Tryz.func260 (by kernel_rfl) rfl rfl rfl (Nat.le_of_ble_eq_true rfl) (fun w0 base => ?_)
  simp [Seen.row, Seen.res]
  try intros

theorem eqSeen_c (x y : Seen) : PureC Tryz.prog 266 [.agg x.row, .agg y.row] (.one (.c (vb (x = y)) 1)) := by
  refine PureC.intro' tt_ok Tryz.func266 (by kernel_rfl) rfl rfl rfl (Nat.le_of_ble_eq_true rfl) (fun w0 base => ?_)
  obtain ⟨a0, a1, a2⟩ := x
  obtain ⟨b0, b1, b2⟩ := y
  simp [Seen.row]
  try intros
  by_cases h0 : a0 = b0
  rotate_left
  · simp [h0]
  subst h0
  try simp
  by_cases h1 : a1 = b1
  rotate_left
  · simp [h1]
  subst h1
  try simp
  by_cases h2 : a2 = b2
  rotate_left
  · simp [h2]
  subst h2
  try simp

theorem toSeenS_c (l : List Seen) (hl : l.length ≤ 2 ^ 40) : PureC Tryz.prog 173 [.c (.s (l.map Seen.row))] (.one (.c (.s (l.map Seen.row)) 3)) := by
  refine PureC.intro' tt_ok Tryz.func173 (by kernel_rfl) rfl rfl rfl (Nat.le_of_ble_eq_true rfl) (fun w0 base => ?_)
  simp
  refine ⟨by omega, fun b => ?_⟩
  refine LoopT.intro eok (fun i : Nat => i ≤ l.length) (fun i => ⟨23, 0, [(4, .v (.int .i64 i)), (3, .sl 112 (some (b, 0, l.length)) 3 0 l.length), (0, .ro (l.map Seen.row))],
    [(112, .rows (some (b, 0, l.length)) 3 (fillR Seen.row [.v (.int .i64 0), .v (.int .i64 0), .v (.int .i64 0)] l i) true)]⟩) (fun i => l.length - i) 0 (by simp) (by simp [fillR_0]) (fun i hi => ?_)
  by_cases h : i < l.length
  · simp [h, Seen.row]
    refine ACall.pure (toSeen_c l[i]) (by simp [Seen.row]) ?_
    simp [Seen.res, fillR_length hi, h]
    exact ⟨i + 1, by omega, by omega, i64_suc (by omega), fillR_set (f := Seen.row) h⟩
  · have : i = l.length := by omega
    subst this
    simp [fillR_all, cut]
    try exact fun a _ => rfl

theorem eqSeenS_c (a b : List Seen) (hl : a.length ≤ 2 ^ 40) : PureC Tryz.prog 179 [.c (.s (a.map Seen.row)), .c (.s (b.map Seen.row))] (.one (.c (vb (a = b)) 1)) := by
  refine PureC.intro' tt_ok Tryz.func179 (by kernel_rfl) rfl rfl rfl (Nat.le_of_ble_eq_true rfl) (fun w0 base => ?_)
  by_cases h : a.length = b.length
  · simp [h]
    refine LoopT.intro eok (fun i : Nat => i ≤ a.length ∧ a.take i = b.take i) (fun i => ⟨27, 0, [(5, .v (.int .i64 i)), (1, .ro (b.map Seen.row)), (0, .ro (a.map Seen.row))], []⟩) (fun i => a.length - i) 0 (by simp) (by simp) (fun i hi => ?_)
    by_cases hlt : i < a.length
    · simp [hlt]
      have hlt' : i < b.length := by omega
      refine DrawT.quiet eok mix (by kernel_rfl) ?_
      simp [hlt, hlt', Seen.row]
      refine ⟨_, _, eqSeen_c a[i] b[i], by simp [Seen.row], ?_⟩
      simp
      refine Br.mk (fun h1 => ?_) (fun h1 => ?_)
      · simp
        exact ⟨i + 1, ⟨by omega, take_next hlt hlt' hi.2 (of_yes h1)⟩, by omega, i64_suc (by omega)⟩
      · simp [dc_no]
        exact ne_at hlt hlt' (of_no h1)
    · simp [hlt, dc_yes]
      exact take_all (by omega) (by omega) hi.2
  · have hz : ¬ (a.length : Int) = b.length := by omega
    simp [hz, dc_no]
    exact fun h2 => absurd (by rw [h2]) h

theorem szSeenS_c (l : List Seen) (hl : l.length ≤ 9223372036854775807) (left : Nat) (hf : left ≤ 2 ^ 20) : PureC Tryz.prog 167 [.c (.s (l.map Seen.row)), .c (vi left)] (.one (.c (vi (szR l.length left)) 1)) := by
  refine PureC.intro' tt_ok Tryz.func167 (by kernel_rfl) rfl rfl rfl (Nat.le_of_ble_eq_true rfl) (fun w0 base => ?_)
  have hw : IntKind.i64.wrap ((left : Int) - (l.length : Int)) = (left : Int) - l.length := IntWalk.i64_in _ (by omega)
  simp [hw]
  by_cases h : l.length ≤ left
  · have hz : ¬ (left : Int) - l.length < 0 := by omega
    simp [hz, szR_ok h]
    omega
  · have hz : (left : Int) - l.length < 0 := by omega
    simp [hz, szR_no h]

theorem markSeenS_c (l : List Seen) (k : Int) (h0 : 0 ≤ k) (hk : k + cntL Seen.cnt l ≤ 4611686018427387904) (hl : l.length ≤ 2 ^ 40) : MarkC Tryz.prog 212 (.c (.s (l.map Seen.row)) 3) k (k + cntL Seen.cnt l) (.c (.s ((markL Seen.mark Seen.cnt l k).map Seen.row)) 3) := by
  refine MarkC.intro tt_ok Tryz.func212 (by kernel_rfl) rfl rfl rfl (by decide) (fun w0 base => ?_)
  simp
  intro H
  refine LoopT.introG eok (fun i : Nat => i ≤ l.length) (fun i => ⟨34, 0, [(5, .v (.int .i64 i)), (1, .v (.int .i64 (k + cntL Seen.cnt (l.take i)))), (0, .ml 0 H 3 l.length)], [(0, .rows H 3 (marked Seen.mark Seen.cnt Seen.row l k i) true)]⟩) (fun i => l.length - i) 0 (by simp) (by simp [marked_0, cntL]) (fun i hi => ?_)
  by_cases h : i < l.length
  · have hc := cntL_cell_le (cn := Seen.cnt) h
    have hs := cntL_take_suc (cn := Seen.cnt) h
    obtain ⟨q0, hq0⟩ : ∃ q, k + ((cntL Seen.cnt (l.take i) : Nat) : Int) = q := ⟨_, rfl⟩
    have hpc : l[i].cnt = 3 := rfl
    rw [hq0, ← marked_row h]
    have e0 : Go.IntKind.i64.wrap q0 = q0 := Go.IntWalk.i64_in _ (by omega)
    obtain ⟨q1, hq1⟩ : ∃ q, q0 + 1 = q := ⟨_, rfl⟩
    have e1 : Go.IntKind.i64.wrap q1 = q1 := Go.IntWalk.i64_in _ (by omega)
    obtain ⟨q2, hq2⟩ : ∃ q, q1 + 1 = q := ⟨_, rfl⟩
    have e2 : Go.IntKind.i64.wrap q2 = q2 := Go.IntWalk.i64_in _ (by omega)
    obtain ⟨q3, hq3⟩ : ∃ q, q2 + 1 = q := ⟨_, rfl⟩
    have e3 : Go.IntKind.i64.wrap q3 = q3 := Go.IntWalk.i64_in _ (by omega)
    have e : Go.IntKind.i64.wrap ((i : Int) + 1) = ((i + 1 : Nat) : Int) := i64_suc (by omega)
    refine Ent.refl ?_
    simp [h, marked_length, Seen.row, modify_set, hq1, e1, hq2, e2, hq3, e3]
    refine Ent.refl ⟨i + 1, by omega, by omega, ?_⟩
    simp [hs, hpc, e]
    refine ⟨by omega, ?_⟩
    refine marked_set h ?_
    rw [hq0]
    subst hq1 hq2 hq3
    rfl
  · have : i = l.length := by omega
    subst this
    refine Ent.refl ?_
    simp [marked_all, markL_length, Seen.row]

theorem heldSeenS_c (l : List Seen) (k : Int) (h0 : 0 ≤ k) (hk : k + cntL Seen.cnt l ≤ 4611686018427387904) (hl : l.length ≤ 2 ^ 40) : PureC Tryz.prog 250 [.c (.s ((markL Seen.mark Seen.cnt l k).map Seen.row)), .c (vi k)] (.one (.c (vi (k + cntL Seen.cnt l)) 1)) := by
  refine PureC.intro' tt_ok Tryz.func250 (by kernel_rfl) rfl rfl rfl (Nat.le_of_ble_eq_true rfl) (fun w0 base => ?_)
  simp
  refine LoopT.intro eok (fun i : Nat => i ≤ l.length) (fun i => ⟨40, 0, [(5, .v (.int .i64 i)), (1, .v (.int .i64 (k + cntL Seen.cnt (l.take i)))), (0, .ro ((markL Seen.mark Seen.cnt l k).map Seen.row))], []⟩) (fun i => l.length - i) 0 (by simp) (by simp [cntL]) (fun i hi => ?_)
  by_cases h : i < l.length
  · have hc := cntL_cell_le (cn := Seen.cnt) h
    have hs := cntL_take_suc (cn := Seen.cnt) h
    have hm := markL_cell (mk := Seen.mark) (cn := Seen.cnt) (k := k) h
    obtain ⟨q0, hq0⟩ : ∃ q, k + ((cntL Seen.cnt (l.take i) : Nat) : Int) = q := ⟨_, rfl⟩
    have hpc : l[i].cnt = 3 := rfl
    rw [hq0] at hm
    rw [hq0]
    have z0 : ¬ q0 < 0 := by omega
    have e0 : Go.IntKind.i64.wrap q0 = q0 := Go.IntWalk.i64_in _ (by omega)
    obtain ⟨q1, hq1⟩ : ∃ q, q0 + 1 = q := ⟨_, rfl⟩
    have e1 : Go.IntKind.i64.wrap q1 = q1 := Go.IntWalk.i64_in _ (by omega)
    have z1 : ¬ q1 < 0 := by omega
    obtain ⟨q2, hq2⟩ : ∃ q, q1 + 1 = q := ⟨_, rfl⟩
    have e2 : Go.IntKind.i64.wrap q2 = q2 := Go.IntWalk.i64_in _ (by omega)
    have z2 : ¬ q2 < 0 := by omega
    obtain ⟨q3, hq3⟩ : ∃ q, q2 + 1 = q := ⟨_, rfl⟩
    have e3 : Go.IntKind.i64.wrap q3 = q3 := Go.IntWalk.i64_in _ (by omega)
    have z3 : ¬ q3 < 0 := by omega
    have e : Go.IntKind.i64.wrap ((i : Int) + 1) = ((i + 1 : Nat) : Int) := i64_suc (by omega)
    simp [h, markL_length, hm, Seen.row, Seen.mark, hq1, e1, hq2, e2, hq3, e3]
    refine ⟨i + 1, by omega, by omega, ?_⟩
    simp [e, hs, hpc]
    omega
  · have : i = l.length := by omega
    subst this
    simp [markL_length]
end Go.Proofs.YtdfdabjdfmamgaaGreat

namespace Go.Proofs.YtdfdabjdfmamgaaGreat
open Go.AM
set_option maxRecDepth 20000
theorem toDoc_c (x : Doc) (h : nDoc x ≤ 2 ^ 40) : PureC Tryz.prog 81 [.agg x.row] (.one (.agg x.res)) := by
  refine PureC.intro' tt_ok Tryz.func81 (by kernel_rfl) rfl rfl rfl (Nat.le_of_ble_eq_true rfl) (fun w0 base => ?_)
  unfold nDoc at h
  simp [Doc.row, Doc.res]
  try intros
  refine ACall.pure (toIntS_c x.text (by omega)) (by simp) ?_
  simp
  try intros
  refine ACall.pure (toEntryS_c x.list (by omega)) (by simp) ?_
  simp
  try intros
  refine ACall.pure (toSeenS_c x.seen (by omega)) (by simp) ?_
  simp
  try intros
theorem eqDoc_c (x y : Doc) (h : nDoc x ≤ 2 ^ 40) : PureC Tryz.prog 86 [.agg x.row, .agg y.row] (.one (.c (vb (x = y)) 1)) := by
  refine PureC.intro' tt_ok Tryz.func86 (by kernel_rfl) rfl rfl rfl (Nat.le_of_ble_eq_true rfl) (fun w0 base => ?_)
  unfold nDoc at h
  obtain ⟨a0, a1, a2, a3, a4⟩ := x
  obtain ⟨b0, b1, b2, b3, b4⟩ := y
  simp only at h
  simp [Doc.row]
  try intros
  by_cases h0 : a0 = b0
  rotate_left
  · simp [h0]
  subst h0
  try simp
  by_cases h1 : a1 = b1
  rotate_left
  · simp [h1]
  subst h1
  try simp
  refine ACall.pure (eqIntS_c a2 b2 (by omega)) (by simp) ?_
  simp
  by_cases h2 : a2 = b2
  rotate_left
  · simp [h2]
  subst h2
  try simp
  refine ACall.pure (eqEntryS_c a3 b3 (by omega)) (by simp) ?_
  simp
  by_cases h3 : a3 = b3
  rotate_left
  · simp [h3]
  subst h3
  try simp
  refine ACall.pure (eqSeenS_c a4 b4 (by omega)) (by simp) ?_
  simp
  by_cases h4 : a4 = b4
  rotate_left
  · simp [h4]
  subst h4
  try simp
theorem szDoc_c (x : Doc) (h : x.fits) (left : Nat) (hf : left ≤ 2 ^ 20) : PureC Tryz.prog 76 [.agg x.row, .c (vi left)] (.one (.c (vi (szR (nDoc x) left)) 1)) := by
  refine PureC.intro' tt_ok Tryz.func76 (by kernel_rfl) rfl rfl rfl (Nat.le_of_ble_eq_true rfl) (fun w0 base => ?_)
  obtain ⟨f0, f1, f2, f3, f4⟩ := h
  obtain ⟨r, hr⟩ : ∃ r, szR (nDoc x) left = r := ⟨_, rfl⟩
  rw [hr]
  have hn : nDoc x = x.name.size + (x.text.length + (nL nEntry x.list + (x.seen.length))) := rfl
  simp [Doc.row]
  try intros
  by_cases k0 : x.name.size ≤ left
  rotate_left
  · have hw : IntKind.i64.wrap ((left : Int) - (x.name.size : Int)) = (left : Int) - x.name.size := IntWalk.i64_in _ (by omega)
    have hz : (left : Int) - x.name.size < 0 := by omega
    have : r = -1 := by rw [← hr]; exact szR_no (by omega)
    simp [hw, hz, this]
  obtain ⟨m0, hm0⟩ : ∃ m, left - x.name.size = m := ⟨_, rfl⟩
  have w0 : IntKind.i64.wrap ((left : Int) - (x.name.size : Int)) = (m0 : Int) := by rw [IntWalk.i64_in _ (by omega)]; omega
  simp [w0]
  refine ACall.pure (szIntS_c x.text f2.1 m0 (by omega)) (by simp) ?_
  by_cases k1 : x.text.length ≤ m0
  rotate_left
  · have : r = -1 := by rw [← hr]; exact szR_no (by omega)
    rw [szR_no k1]
    simp [this]
  rw [szR_ok k1]
  obtain ⟨m1, hm1⟩ : ∃ m, m0 - x.text.length = m := ⟨_, rfl⟩
  rw [hm1]
  simp
  refine ACall.pure (szEntryS_c x.list f3.1 f3.2 m1 (by omega)) (by simp) ?_
  by_cases k2 : nL nEntry x.list ≤ m1
  rotate_left
  · have : r = -1 := by rw [← hr]; exact szR_no (by omega)
    rw [szR_no k2]
    simp [this]
  rw [szR_ok k2]
  obtain ⟨m2, hm2⟩ : ∃ m, m1 - nL nEntry x.list = m := ⟨_, rfl⟩
  rw [hm2]
  simp
  refine ACall.pure (szSeenS_c x.seen f4.1 m2 (by omega)) (by simp) ?_
  by_cases k3 : x.seen.length ≤ m2
  rotate_left
  · have : r = -1 := by rw [← hr]; exact szR_no (by omega)
    rw [szR_no k3]
    simp [this]
  rw [szR_ok k3]
  obtain ⟨m3, hm3⟩ : ∃ m, m2 - x.seen.length = m := ⟨_, rfl⟩
  rw [hm3]
  have : r = (m3 : Int) := by rw [← hr, szR_ok (by omega)]; omega
  simp [this]
theorem markDoc_c (x : Doc) (k : Int) (h0 : 0 ≤ k) (hk : k + x.cntT ≤ 4611686018427387904) (hl : nDoc x ≤ 2 ^ 40) : MarkC Tryz.prog 158 (.agg x.res) k (k + x.cntT) (.agg (x.markT k).res) := by
  refine MarkC.intro tt_ok Tryz.func158 (by kernel_rfl) rfl rfl rfl (by decide) (fun w0 base => ?_)
  simp only [Doc.cntT] at hk
  unfold nDoc at hl
  simp [Doc.res]
  try intros
  refine ACall.mark (markIntS_c x.text (k) (by omega) (by omega)) rfl (fun _ h => h) (by simp) ?_
  simp
  refine ACall.mark (markEntryS_c x.list (k + ((x.text.length : Nat) : Int)) (by omega) (by omega) (by omega)) rfl (fun _ h => h) (by simp) ?_
  simp
  refine ACall.mark (markSeenS_c x.seen (k + ((x.text.length : Nat) : Int) + ((cntL Entry.cnt x.list : Nat) : Int)) (by omega) (by omega) (by omega)) rfl (fun _ h => h) (by simp) ?_
  simp
  simp [Doc.markT, Doc.cntT, markL_length]
  try omega
theorem heldDoc_c (x : Doc) (k : Int) (h0 : 0 ≤ k) (hk : k + x.cntT ≤ 4611686018427387904) (hl : nDoc x ≤ 2 ^ 40) : PureC Tryz.prog 160 [.agg (x.markT k).row, .c (vi k)] (.one (.c (vi (k + x.cntT)) 1)) := by
  refine PureC.intro' tt_ok Tryz.func160 (by kernel_rfl) rfl rfl rfl (Nat.le_of_ble_eq_true rfl) (fun w0 base => ?_)
  simp only [Doc.cntT] at hk
  unfold nDoc at hl
  simp [Doc.row, Doc.markT]
  try intros
  refine ACall.pure (heldIntS_c x.text k (by omega) (by omega)) (by simp) ?_
  obtain ⟨q2, hq2⟩ : ∃ q, k + ((x.text.length : Nat) : Int) = q := ⟨_, rfl⟩
  rw [hq2]
  have z2 : ¬ q2 < 0 := by omega
  simp [z2]
  refine ACall.pure (heldEntryS_c x.list q2 (by omega) (by omega) (by omega)) (by simp) ?_
  obtain ⟨q3, hq3⟩ : ∃ q, q2 + ((cntL Entry.cnt x.list : Nat) : Int) = q := ⟨_, rfl⟩
  rw [hq3]
  have z3 : ¬ q3 < 0 := by omega
  simp [z3]
  refine ACall.pure (heldSeenS_c x.seen q3 (by omega) (by omega) (by omega)) (by simp) ?_
  obtain ⟨q4, hq4⟩ : ∃ q, q3 + ((cntL Seen.cnt x.seen : Nat) : Int) = q := ⟨_, rfl⟩
  rw [hq4]
  have z4 : ¬ q4 < 0 := by omega
  simp [z4]
  try (simp only [Doc.cntT]; omega)
end Go.Proofs.YtdfdabjdfmamgaaGreat

namespace Go.Proofs.YtdfdabjdfmamgaaGreat
open Go.AM
set_option maxRecDepth 20000
theorem toNet_c (x : Net) (h : nNet x ≤ 2 ^ 40) : PureC Tryz.prog 17 [.agg x.row] (.one (.agg x.res)) := by
  refine PureC.intro' tt_ok Tryz.func17 (by kernel_rfl) rfl rfl rfl (Nat.le_of_ble_eq_true rfl) (fun w0 base => ?_)
  unfold nNet at h
  simp [Net.row, Net.res]
  try intros
  refine ACall.pure (toDoc_c x.d (by omega)) (by simp [Doc.row]) ?_
  simp [Doc.res]
  try intros
  refine ACall.pure (toRepS_c x.reps (by omega)) (by simp) ?_
  simp
  try intros

theorem eqNet_c (x y : Net) (h : nNet x ≤ 2 ^ 40) : PureC Tryz.prog 19 [.agg x.row, .agg y.row] (.one (.c (vb (x = y)) 1)) := by
  refine PureC.intro' tt_ok Tryz.func19 (by kernel_rfl) rfl rfl rfl (Nat.le_of_ble_eq_true rfl) (fun w0 base => ?_)
  unfold nNet at h
  obtain ⟨a0, a1⟩ := x
  obtain ⟨b0, b1⟩ := y
  simp only at h
  simp [Net.row]
  try intros
  refine ACall.pure (eqDoc_c a0 b0 (by omega)) (by simp [Doc.row]) ?_
  simp
  by_cases h0 : a0 = b0
  rotate_left
  · simp [h0]
  subst h0
  try simp
  refine ACall.pure (eqRepS_c a1 b1 (by omega)) (by simp) ?_
  simp
  by_cases h1 : a1 = b1
  rotate_left
  · simp [h1]
  subst h1
  try simp

theorem szNet_c (x : Net) (h : x.fits) (left : Nat) (hf : left ≤ 2 ^ 20) : PureC Tryz.prog 15 [.agg x.row, .c (vi left)] (.one (.c (vi (szR (nNet x) left)) 1)) := by
  refine PureC.intro' tt_ok Tryz.func15 (by kernel_rfl) rfl rfl rfl (Nat.le_of_ble_eq_true rfl) (fun w0 base => ?_)
  obtain ⟨f0, f1⟩ := h
  obtain ⟨r, hr⟩ : ∃ r, szR (nNet x) left = r := ⟨_, rfl⟩
  rw [hr]
  have hn : nNet x = nDoc x.d + (nL nRep x.reps) := rfl
  simp [Net.row]
  try intros
  refine ACall.pure (szDoc_c x.d f0 left (by omega)) (by simp [Doc.row]) ?_
  by_cases k0 : nDoc x.d ≤ left
  rotate_left
  · have : r = -1 := by rw [← hr]; exact szR_no (by omega)
    rw [szR_no k0]
    simp [this]
  rw [szR_ok k0]
  obtain ⟨m0, hm0⟩ : ∃ m, left - nDoc x.d = m := ⟨_, rfl⟩
  rw [hm0]
  simp
  refine ACall.pure (szRepS_c x.reps f1.1 f1.2 m0 (by omega)) (by simp) ?_
  by_cases k1 : nL nRep x.reps ≤ m0
  rotate_left
  · have : r = -1 := by rw [← hr]; exact szR_no (by omega)
    rw [szR_no k1]
    simp [this]
  rw [szR_ok k1]
  obtain ⟨m1, hm1⟩ : ∃ m, m0 - nL nRep x.reps = m := ⟨_, rfl⟩
  rw [hm1]
  have : r = (m1 : Int) := by rw [← hr, szR_ok (by omega)]; omega
  simp [this]

theorem markNet_c (x : Net) (k : Int) (h0 : 0 ≤ k) (hk : k + x.cntT ≤ 4611686018427387904) (hl : nNet x ≤ 2 ^ 40) : MarkC Tryz.prog 60 (.agg x.res) k (k + x.cntT) (.agg (x.markT k).res) := by
  refine MarkC.intro tt_ok Tryz.func60 (by kernel_rfl) rfl rfl rfl (by decide) (fun w0 base => ?_)
  simp only [Net.cntT] at hk
  unfold nNet at hl
  have hs_d : x.d.cntT = x.d.text.length + (cntL Entry.cnt x.d.list + (cntL Seen.cnt x.d.seen)) := rfl
  simp [Net.res]
  try intros
  refine ACall.mark (markDoc_c x.d (k) (by omega) (by omega) (by omega)) rfl (fun _ h => h) (by simp) ?_
  simp [Doc.res, Doc.markT]
  refine ACall.mark (markRepS_c x.reps (k + ((x.d.cntT : Nat) : Int)) (by omega) (by omega) (by omega)) rfl (fun _ h => h) (by simp) ?_
  simp
  simp [Net.markT, Net.cntT, markL_length, Doc.cntT, Int.add_assoc]
  try omega

theorem heldNet_c (x : Net) (k : Int) (h0 : 0 ≤ k) (hk : k + x.cntT ≤ 4611686018427387904) (hl : nNet x ≤ 2 ^ 40) : PureC Tryz.prog 62 [.agg (x.markT k).row, .c (vi k)] (.one (.c (vi (k + x.cntT)) 1)) := by
  refine PureC.intro' tt_ok Tryz.func62 (by kernel_rfl) rfl rfl rfl (Nat.le_of_ble_eq_true rfl) (fun w0 base => ?_)
  simp only [Net.cntT] at hk
  unfold nNet at hl
  have hs_d : x.d.cntT = x.d.text.length + (cntL Entry.cnt x.d.list + (cntL Seen.cnt x.d.seen)) := rfl
  simp [Net.row, Net.markT]
  try intros
  refine ACall.pure (heldDoc_c x.d k (by omega) (by omega) (by omega)) (by simp [Doc.row, Doc.markT]) ?_
  obtain ⟨q0, hq0⟩ : ∃ q, k + ((x.d.cntT : Nat) : Int) = q := ⟨_, rfl⟩
  rw [hq0]
  have z0 : ¬ q0 < 0 := by omega
  simp [z0]
  refine ACall.pure (heldRepS_c x.reps q0 (by omega) (by omega) (by omega)) (by simp [← hq0, hs_d, Int.add_assoc]) ?_
  obtain ⟨q1, hq1⟩ : ∃ q, q0 + ((cntL Rep.cnt x.reps : Nat) : Int) = q := ⟨_, rfl⟩
  rw [hq1]
  have z1 : ¬ q1 < 0 := by omega
  simp [z1]
  try (simp only [Net.cntT]; omega)
end Go.Proofs.YtdfdabjdfmamgaaGreat

namespace Go.Proofs.YtdfdabjdfmamgaaGreat
open Go.AM
set_option maxRecDepth 20000
theorem toEvent_c (x : Event) (h : nEvent x ≤ 2 ^ 40) : PureC Tryz.prog 57 [.agg x.row] (.one (.agg x.res)) := by
  refine PureC.intro' tt_ok Tryz.func57 (by kernel_rfl) rfl rfl rfl (Nat.le_of_ble_eq_true rfl) (fun w0 base => ?_)
  unfold nEvent at h
  simp [Event.row, Event.res]
  try intros
  refine ACall.pure (toPartS_c x.o (by omega)) (by simp) ?_
  simp
  try intros
theorem eqEvent_c (x y : Event) (h : nEvent x ≤ 2 ^ 40) : PureC Tryz.prog 59 [.agg x.row, .agg y.row] (.one (.c (vb (x = y)) 1)) := by
  refine PureC.intro' tt_ok Tryz.func59 (by kernel_rfl) rfl rfl rfl (Nat.le_of_ble_eq_true rfl) (fun w0 base => ?_)
  unfold nEvent at h
  obtain ⟨a0, a1, a2, a3⟩ := x
  obtain ⟨b0, b1, b2, b3⟩ := y
  simp only at h
  simp [Event.row]
  try intros
  by_cases h0 : a0 = b0
  rotate_left
  · simp [h0]
  subst h0
  try simp
  by_cases h1 : a1 = b1
  rotate_left
  · simp [h1]
  subst h1
  try simp
  by_cases h2 : a2 = b2
  rotate_left
  · simp [h2]
  subst h2
  try simp
  refine ACall.pure (eqPartS_c a3 b3 (by omega)) (by simp) ?_
  simp
  by_cases h3 : a3 = b3
  rotate_left
  · simp [h3]
  subst h3
  try simp
theorem szEvent_c (x : Event) (h : x.fits) (left : Nat) (hf : left ≤ 2 ^ 20) : PureC Tryz.prog 55 [.agg x.row, .c (vi left)] (.one (.c (vi (szR (nEvent x) left)) 1)) := by
  refine PureC.intro' tt_ok Tryz.func55 (by kernel_rfl) rfl rfl rfl (Nat.le_of_ble_eq_true rfl) (fun w0 base => ?_)
  obtain ⟨f0, f1, f2, f3⟩ := h
  obtain ⟨r, hr⟩ : ∃ r, szR (nEvent x) left = r := ⟨_, rfl⟩
  rw [hr]
  have hn : nEvent x = nL nPart x.o := rfl
  simp [Event.row]
  try intros
  refine ACall.pure (szPartS_c x.o f3.1 f3.2 left (by omega)) (by simp) ?_
  by_cases k0 : nL nPart x.o ≤ left
  rotate_left
  · have : r = -1 := by rw [← hr]; exact szR_no (by omega)
    rw [szR_no k0]
    simp [this]
  rw [szR_ok k0]
  obtain ⟨m0, hm0⟩ : ∃ m, left - nL nPart x.o = m := ⟨_, rfl⟩
  rw [hm0]
  have : r = (m0 : Int) := by rw [← hr, szR_ok (by omega)]; omega
  simp [this]
theorem toEventS_c (l : List Event) (hl : nL nEvent l ≤ 2 ^ 40) : PureC Tryz.prog 67 [.c (.s (l.map Event.row))] (.one (.c (.s (l.map Event.row)) 4)) := by
  refine PureC.intro' tt_ok Tryz.func67 (by kernel_rfl) rfl rfl rfl (Nat.le_of_ble_eq_true rfl) (fun w0 base => ?_)
  have hle := nL_len hl
  simp
  refine ⟨by omega, fun b => ?_⟩
  refine LoopT.intro eok (fun i : Nat => i ≤ l.length) (fun i => ⟨23, 0, [(4, .v (.int .i64 i)), (3, .sl 112 (some (b, 0, l.length)) 4 0 l.length), (0, .ro (l.map Event.row))],
    [(112, .rows (some (b, 0, l.length)) 4 (fillR Event.row [.v (.int .i64 0), .v (.int .i64 0), .v (.int .i64 0), .s []] l i) true)]⟩) (fun i => l.length - i) 0 (by simp) (by simp [fillR_0]) (fun i hi => ?_)
  by_cases h : i < l.length
  · simp [h, Event.row]
    refine ACall.pure (toEvent_c l[i] (nL_at hl h)) (by simp [Event.row]) ?_
    simp [Event.res, fillR_length hi, h]
    exact ⟨i + 1, by omega, by omega, i64_suc (by omega), fillR_set (f := Event.row) h⟩
  · have : i = l.length := by omega
    subst this
    simp [fillR_all, cut]
    try exact fun a _ => rfl
theorem eqEventS_c (a b : List Event) (hl : nL nEvent a ≤ 2 ^ 40) : PureC Tryz.prog 70 [.c (.s (a.map Event.row)), .c (.s (b.map Event.row))] (.one (.c (vb (a = b)) 1)) := by
  refine PureC.intro' tt_ok Tryz.func70 (by kernel_rfl) rfl rfl rfl (Nat.le_of_ble_eq_true rfl) (fun w0 base => ?_)
  have hle := nL_len hl
  by_cases h : a.length = b.length
  · simp [h]
    refine LoopT.intro eok (fun i : Nat => i ≤ a.length ∧ a.take i = b.take i) (fun i => ⟨27, 0, [(5, .v (.int .i64 i)), (1, .ro (b.map Event.row)), (0, .ro (a.map Event.row))], []⟩) (fun i => a.length - i) 0 (by simp) (by simp) (fun i hi => ?_)
    by_cases hlt : i < a.length
    · simp [hlt]
      have hlt' : i < b.length := by omega
      refine DrawT.quiet eok mix (by kernel_rfl) ?_
      simp [hlt, hlt', Event.row]
      refine ⟨_, _, eqEvent_c a[i] b[i] (nL_at hl hlt), by simp [Event.row], ?_⟩
      simp
      refine Br.mk (fun h1 => ?_) (fun h1 => ?_)
      · simp
        exact ⟨i + 1, ⟨by omega, take_next hlt hlt' hi.2 (of_yes h1)⟩, by omega, i64_suc (by omega)⟩
      · simp [dc_no]
        exact ne_at hlt hlt' (of_no h1)
    · simp [hlt, dc_yes]
      exact take_all (by omega) (by omega) hi.2
  · have hz : ¬ (a.length : Int) = b.length := by omega
    simp [hz, dc_no]
    exact fun h2 => absurd (by rw [h2]) h
theorem szEventS_c (l : List Event) (hl : l.length ≤ 9223372036854775807) (hs : ∀ y ∈ l, y.fits) (left : Nat) (hf : left ≤ 2 ^ 20) : PureC Tryz.prog 65 [.c (.s (l.map Event.row)), .c (vi left)] (.one (.c (vi (szR (nL nEvent l) left)) 1)) := by
  refine PureC.intro' tt_ok Tryz.func65 (by kernel_rfl) rfl rfl rfl (Nat.le_of_ble_eq_true rfl) (fun w0 base => ?_)
  have hw : IntKind.i64.wrap ((left : Int) - (l.length : Int)) = (left : Int) - l.length := IntWalk.i64_in _ (by omega)
  have hn : nL nEvent l = l.length + sumN nEvent l := rfl
  by_cases h : l.length ≤ left
  · obtain ⟨lf, hlf⟩ : ∃ lf : Nat, left - l.length = lf := ⟨_, rfl⟩
    have hlz : (left : Int) - l.length = (lf : Int) := by omega
    have hw2 : IntKind.i64.wrap (lf : Int) = lf := i64_nat (by omega)
    simp [hlz, hw2]
    obtain ⟨r, hr⟩ : ∃ r, szR (nL nEvent l) left = r := ⟨_, rfl⟩
    have hr0 : szR (sumN nEvent l) lf = r := by rw [← hr]; unfold szR; split <;> split <;> omega
    rw [hr]
    refine LoopT.intro eok (fun x : Nat × Nat => x.1 ≤ l.length ∧ x.2 ≤ 2 ^ 20 ∧ szR (sumN nEvent (l.drop x.1)) x.2 = r) (fun x => ⟨27, 0, [(5, .v (.int .i64 x.1)), (1, .v (.int .i64 x.2)), (0, .ro (l.map Event.row))], []⟩) (fun x => l.length - x.1) (0, lf) (by simp [hr0]; omega) (by simp) ?_
    rintro ⟨i, m⟩ ⟨hi, hm, hx⟩
    simp only at hi hm hx ⊢
    by_cases hlt : i < l.length
    · rw [sumN_drop hlt] at hx
      simp [hlt, Event.row]
      refine ACall.pure (szEvent_c l[i] (hs _ (List.getElem_mem hlt)) m hm) (by simp [Event.row]) ?_
      by_cases hk : nEvent l[i] ≤ m
      · rw [szR_ok hk]
        have hz : ¬ ((m - nEvent l[i] : Nat) : Int) < 0 := by omega
        simp [hz]
        refine ⟨i + 1, m - nEvent l[i], ⟨by omega, by omega, ?_⟩, by omega, i64_suc (by omega), rfl⟩
        rw [← hx]; unfold szR; split <;> split <;> omega
      · rw [szR_no (show ¬ nEvent l[i] + sumN nEvent (l.drop (i + 1)) ≤ m by omega)] at hx
        rw [szR_no hk]
        simp [← hx]
    · have : i = l.length := by omega
      subst this
      simp only [List.drop_length, sumN, szR, Nat.zero_le, if_true, Nat.sub_zero] at hx
      simp [hx]
  · have hz : (left : Int) - l.length < 0 := by omega
    simp [hw, hz, szR_no (show ¬ nL nEvent l ≤ left by omega)]
theorem markEventS_c (l : List Event) (k : Int) (h0 : 0 ≤ k) (hk : k + cntL Event.cnt l ≤ 4611686018427387904) (hl : nL nEvent l ≤ 2 ^ 40) : MarkC Tryz.prog 71 (.c (.s (l.map Event.row)) 4) k (k + cntL Event.cnt l) (.c (.s ((markL Event.mark Event.cnt l k).map Event.row)) 4) := by
  refine MarkC.intro tt_ok Tryz.func71 (by kernel_rfl) rfl rfl rfl (by decide) (fun w0 base => ?_)
  have hle := nL_len hl
  simp
  intro H
  refine LoopT.introG eok (fun i : Nat => i ≤ l.length) (fun i => ⟨41, 0, [(5, .v (.int .i64 i)), (1, .v (.int .i64 (k + cntL Event.cnt (l.take i)))), (0, .ml 0 H 4 l.length)], [(0, .rows H 4 (marked Event.mark Event.cnt Event.row l k i) true)]⟩) (fun i => l.length - i) 0 (by simp) (by simp [marked_0, cntL]) (fun i hi => ?_)
  by_cases h : i < l.length
  · have hc := cntL_cell_le (cn := Event.cnt) h
    have hs := cntL_take_suc (cn := Event.cnt) h
    have hni := nL_at hl h
    simp only [nEvent] at hni
    obtain ⟨q0, hq0⟩ : ∃ q, k + ((cntL Event.cnt (l.take i) : Nat) : Int) = q := ⟨_, rfl⟩
    have hpc : l[i].cnt = 3 + (cntL Part.cnt l[i].o) := rfl
    rw [hq0, ← marked_row h]
    have e0 : Go.IntKind.i64.wrap q0 = q0 := Go.IntWalk.i64_in _ (by omega)
    obtain ⟨q1, hq1⟩ : ∃ q, q0 + 1 = q := ⟨_, rfl⟩
    have e1 : Go.IntKind.i64.wrap q1 = q1 := Go.IntWalk.i64_in _ (by omega)
    obtain ⟨q2, hq2⟩ : ∃ q, q1 + 1 = q := ⟨_, rfl⟩
    have e2 : Go.IntKind.i64.wrap q2 = q2 := Go.IntWalk.i64_in _ (by omega)
    obtain ⟨q3, hq3⟩ : ∃ q, q2 + 1 = q := ⟨_, rfl⟩
    have e3 : Go.IntKind.i64.wrap q3 = q3 := Go.IntWalk.i64_in _ (by omega)
    obtain ⟨q4, hq4⟩ : ∃ q, q3 + ((cntL Part.cnt l[i].o : Nat) : Int) = q := ⟨_, rfl⟩
    have e4 : Go.IntKind.i64.wrap q4 = q4 := Go.IntWalk.i64_in _ (by omega)
    have e : Go.IntKind.i64.wrap ((i : Int) + 1) = ((i + 1 : Nat) : Int) := i64_suc (by omega)
    refine Ent.open (fun _ h => h) (k := 0) (i := i) (j := 3) (k' := 903) (sz' := 3) (sz := 4) (H := H) (rows := ((marked Event.mark Event.cnt Event.row l k i).set i l[i].row)) (srows := l[i].o.map Part.row) (row := l[i].row) (by simp) (by simp [marked_length, h]) rfl (by simp) (by decide) (by simp [Part.row]) (by simp) (fun H3 => ?_)
    refine Ent.refl ?_
    simp [h, marked_length, Event.row, setC_set, modify_set, hq1, e1, hq2, e2, hq3, e3]
    refine ACall.mark (markPartS_c l[i].o q3 (by omega) (by omega) (by omega)) rfl (fun _ h => h) (by simp) ?_
    simp [e, hq4]
    refine Ent.close (k := 0) (i := i) (j := 3) (k' := 903) (sz' := 3) (sz := 4) (H := H) (rows := (marked Event.mark Event.cnt Event.row l k i).set i [vi q0, vi q1, vi q2, .h 903 H3 3 l[i].o.length]) (row := [vi q0, vi q1, vi q2, .h 903 H3 3 l[i].o.length]) (H' := H3) (srows := (markL Part.mark Part.cnt l[i].o q3).map Part.row) (by simp) (by simp [marked_length, h]) (by simp [markL_length]) (by simp) (by decide) (by simp) ?_
    refine Ent.refl ⟨i + 1, by omega, by omega, ?_⟩
    simp [setC_set, hs, hpc]
    refine ⟨by omega, ?_⟩
    refine marked_set h ?_
    rw [hq0]
    subst hq1 hq2 hq3 hq4
    rfl
  · have : i = l.length := by omega
    subst this
    refine Ent.refl ?_
    simp [marked_all, markL_length, Event.row]
end Go.Proofs.YtdfdabjdfmamgaaGreat

namespace Go.Proofs.YtdfdabjdfmamgaaGreat
open Go.AM Go.ChangeShapes Go.WideShapes Go.ChangeAt Go.RowKit
set_option maxRecDepth 20000
theorem own : ownKnob Tryz.prog.godebug = none := by kernel_rfl
theorem laid : laidOutB Tryz.prog = true := by kernel_rfl
theorem fits_i64 {D : Nat} {ds : List CD} (h : Fits Tryz.prog D 3 ds) : ∃ n : Int, ds = [vi n] ∧ i64r n := by
  obtain ⟨n, h1, h2⟩ := fits_int Tryz.underlying3 h
  exact ⟨n, h1, wf_i64 h2⟩
theorem mL : maxLen = 9223372036854775807 := rfl
theorem fits_ints {D : Nat} {ds : List CD} (h : Fits Tryz.prog D 22 ds) : ∃ l : List Int, ds = [.s (l.map intR)] ∧ l.length ≤ 9223372036854775807 ∧ ∀ n ∈ l, i64r n := by
  obtain ⟨rows, rfl, h1, D', h2⟩ := fits_slice Tryz.underlying22 h
  obtain ⟨l, rfl, hl⟩ := rows_map (f := intR) (ok := i64r) rows (fun row hrow => fits_i64 (h2 row hrow).2)
  exact ⟨l, rfl, by simpa [mL] using h1, hl⟩
theorem cells254 : Tryz.prog.cellsOf 254 = 3 := by kernel_rfl
theorem len3 {α : Type} {l : List α} (h : l.length = 3) : ∃ x0 x1 x2, l = [x0, x1, x2] := by
  match l, h with
  | [x0, x1, x2], _ => exact ⟨x0, x1, x2, rfl⟩
theorem cells3 : Tryz.prog.cellsOf 3 = 1 := by kernel_rfl
theorem cells22 : Tryz.prog.cellsOf 22 = 1 := by kernel_rfl
theorem fits_Part {D : Nat} {ds : List CD} (h : Fits Tryz.prog D 254 ds) : ∃ x : Part, ds = x.row ∧ x.fits := by
  obtain ⟨hl, D', hf⟩ := fits_struct Tryz.underlying254 h
  rw [cells254] at hl
  obtain ⟨d0, d1, d2, rfl⟩ := len3 hl
  simp [cells3, cells22] at hf
  obtain ⟨h0, h1, h2⟩ := hf
  obtain ⟨n0, e0, k0⟩ := fits_i64 h0
  simp at e0
  subst e0
  obtain ⟨n1, e1, k1⟩ := fits_i64 h1
  simp at e1
  subst e1
  obtain ⟨n2, e2, k2⟩ := fits_ints h2
  simp at e2
  subst e2
  exact ⟨⟨n0, n1, n2⟩, rfl, k0, k1, k2⟩
theorem fits_PartS {D : Nat} {ds : List CD} (h : Fits Tryz.prog D 88 ds) : ∃ l : List Part, ds = [.s (l.map Part.row)] ∧ l.length ≤ 9223372036854775807 ∧ ∀ y ∈ l, y.fits := by
  obtain ⟨rows, rfl, h1, D', h2⟩ := fits_slice Tryz.underlying88 h
  obtain ⟨l, rfl, hl⟩ := rows_map (f := Part.row) (ok := Part.fits) rows (fun row hrow => fits_Part (h2 row hrow).2)
  exact ⟨l, rfl, by simpa [mL] using h1, hl⟩
theorem cells280 : Tryz.prog.cellsOf 280 = 3 := by kernel_rfl
theorem cells88 : Tryz.prog.cellsOf 88 = 1 := by kernel_rfl
theorem fits_Entry {D : Nat} {ds : List CD} (h : Fits Tryz.prog D 280 ds) : ∃ x : Entry, ds = x.row ∧ x.fits := by
  obtain ⟨hl, D', hf⟩ := fits_struct Tryz.underlying280 h
  rw [cells280] at hl
  obtain ⟨d0, d1, d2, rfl⟩ := len3 hl
  simp [cells3, cells88] at hf
  obtain ⟨h0, h1, h2⟩ := hf
  obtain ⟨n0, e0, k0⟩ := fits_i64 h0
  simp at e0
  subst e0
  obtain ⟨n1, e1, k1⟩ := fits_i64 h1
  simp at e1
  subst e1
  obtain ⟨n2, e2, k2⟩ := fits_PartS h2
  simp at e2
  subst e2
  exact ⟨⟨n0, n1, n2⟩, rfl, k0, k1, k2⟩
theorem fits_EntryS {D : Nat} {ds : List CD} (h : Fits Tryz.prog D 23 ds) : ∃ l : List Entry, ds = [.s (l.map Entry.row)] ∧ l.length ≤ 9223372036854775807 ∧ ∀ y ∈ l, y.fits := by
  obtain ⟨rows, rfl, h1, D', h2⟩ := fits_slice Tryz.underlying23 h
  obtain ⟨l, rfl, hl⟩ := rows_map (f := Entry.row) (ok := Entry.fits) rows (fun row hrow => fits_Entry (h2 row hrow).2)
  exact ⟨l, rfl, by simpa [mL] using h1, hl⟩
theorem cells286 : Tryz.prog.cellsOf 286 = 3 := by kernel_rfl
theorem fits_Seen {D : Nat} {ds : List CD} (h : Fits Tryz.prog D 286 ds) : ∃ x : Seen, ds = x.row ∧ x.fits := by
  obtain ⟨hl, D', hf⟩ := fits_struct Tryz.underlying286 h
  rw [cells286] at hl
  obtain ⟨d0, d1, d2, rfl⟩ := len3 hl
  simp [cells3] at hf
  obtain ⟨h0, h1, h2⟩ := hf
  obtain ⟨n0, e0, k0⟩ := fits_i64 h0
  simp at e0
  subst e0
  obtain ⟨n1, e1, k1⟩ := fits_i64 h1
  simp at e1
  subst e1
  obtain ⟨n2, e2, k2⟩ := fits_i64 h2
  simp at e2
  subst e2
  exact ⟨⟨n0, n1, n2⟩, rfl, k0, k1, k2⟩
theorem fits_SeenS {D : Nat} {ds : List CD} (h : Fits Tryz.prog D 24 ds) : ∃ l : List Seen, ds = [.s (l.map Seen.row)] ∧ l.length ≤ 9223372036854775807 ∧ ∀ y ∈ l, y.fits := by
  obtain ⟨rows, rfl, h1, D', h2⟩ := fits_slice Tryz.underlying24 h
  obtain ⟨l, rfl, hl⟩ := rows_map (f := Seen.row) (ok := Seen.fits) rows (fun row hrow => fits_Seen (h2 row hrow).2)
  exact ⟨l, rfl, by simpa [mL] using h1, hl⟩
theorem cells26 : Tryz.prog.cellsOf 26 = 5 := by kernel_rfl
theorem len5 {α : Type} {l : List α} (h : l.length = 5) : ∃ x0 x1 x2 x3 x4, l = [x0, x1, x2, x3, x4] := by
  match l, h with
  | [x0, x1, x2, x3, x4], _ => exact ⟨x0, x1, x2, x3, x4, rfl⟩
theorem cells9 : Tryz.prog.cellsOf 9 = 1 := by kernel_rfl
theorem cells23 : Tryz.prog.cellsOf 23 = 1 := by kernel_rfl
theorem cells24 : Tryz.prog.cellsOf 24 = 1 := by kernel_rfl
theorem fits_Doc {D : Nat} {ds : List CD} (h : Fits Tryz.prog D 26 ds) : ∃ x : Doc, ds = x.row ∧ x.fits := by
  obtain ⟨hl, D', hf⟩ := fits_struct Tryz.underlying26 h
  rw [cells26] at hl
  obtain ⟨d0, d1, d2, d3, d4, rfl⟩ := len5 hl
  simp [cells3, cells9, cells22, cells23, cells24] at hf
  obtain ⟨h0, h1, h2, h3, h4⟩ := hf
  obtain ⟨n0, e0, k0⟩ := fits_string Tryz.underlying9 h0
  simp at e0
  subst e0
  obtain ⟨n1, e1, k1⟩ := fits_i64 h1
  simp at e1
  subst e1
  obtain ⟨n2, e2, k2⟩ := fits_ints h2
  simp at e2
  subst e2
  obtain ⟨n3, e3, k3⟩ := fits_EntryS h3
  simp at e3
  subst e3
  obtain ⟨n4, e4, k4⟩ := fits_SeenS h4
  simp at e4
  subst e4
  exact ⟨⟨n0, n1, n2, n3, n4⟩, rfl, (by rw [mL] at k0; exact k0), k1, k2, k3, k4⟩
theorem len4 {α : Type} {l : List α} (h : l.length = 4) : ∃ x0 x1 x2 x3, l = [x0, x1, x2, x3] := by
  match l, h with
  | [x0, x1, x2, x3], _ => exact ⟨x0, x1, x2, x3, rfl⟩
theorem cells4 : Tryz.prog.cellsOf 4 = 1 := by kernel_rfl
theorem len6 {α : Type} {l : List α} (h : l.length = 6) : ∃ x0 x1 x2 x3 x4 x5, l = [x0, x1, x2, x3, x4, x5] := by
  match l, h with
  | [x0, x1, x2, x3, x4, x5], _ => exact ⟨x0, x1, x2, x3, x4, x5, rfl⟩
theorem len7 {α : Type} {l : List α} (h : l.length = 7) : ∃ x0 x1 x2 x3 x4 x5 x6, l = [x0, x1, x2, x3, x4, x5, x6] := by
  match l, h with
  | [x0, x1, x2, x3, x4, x5, x6], _ => exact ⟨x0, x1, x2, x3, x4, x5, x6, rfl⟩
theorem cells204 : Tryz.prog.cellsOf 204 = 7 := by kernel_rfl
theorem fits_Rep {D : Nat} {ds : List CD} (h : Fits Tryz.prog D 204 ds) : ∃ x : Rep, ds = x.row ∧ x.fits := by
  obtain ⟨hl, D', hf⟩ := fits_struct Tryz.underlying204 h
  rw [cells204] at hl
  obtain ⟨d0, d1, d2, d3, d4, d5, d6, rfl⟩ := len7 hl
  simp [cells3, cells4, cells22, cells88] at hf
  obtain ⟨h0, h1, h2, h3, h4, h5, h6⟩ := hf
  obtain ⟨n0, e0, k0⟩ := fits_i64 h0
  simp at e0
  subst e0
  obtain ⟨n1, e1, k1⟩ := fits_i64 h1
  simp at e1
  subst e1
  obtain ⟨n2, e2, k2⟩ := fits_i64 h2
  simp at e2
  subst e2
  obtain ⟨n3, e3, k3⟩ := fits_ints h3
  simp at e3
  subst e3
  obtain ⟨n4, e4⟩ := fits_bool Tryz.underlying4 h4
  simp at e4
  subst e4
  obtain ⟨n5, e5, k5⟩ := fits_PartS h5
  simp at e5
  subst e5
  obtain ⟨n6, e6, k6⟩ := fits_PartS h6
  simp at e6
  subst e6
  exact ⟨⟨n0, n1, n2, n3, n4, n5, n6⟩, rfl, k0, k1, k2, k3, trivial, k5, k6⟩
theorem fits_RepS {D : Nat} {ds : List CD} (h : Fits Tryz.prog D 27 ds) : ∃ l : List Rep, ds = [.s (l.map Rep.row)] ∧ l.length ≤ 9223372036854775807 ∧ ∀ y ∈ l, y.fits := by
  obtain ⟨rows, rfl, h1, D', h2⟩ := fits_slice Tryz.underlying27 h
  obtain ⟨l, rfl, hl⟩ := rows_map (f := Rep.row) (ok := Rep.fits) rows (fun row hrow => fits_Rep (h2 row hrow).2)
  exact ⟨l, rfl, by simpa [mL] using h1, hl⟩
theorem cells29 : Tryz.prog.cellsOf 29 = 6 := by kernel_rfl
theorem cells27 : Tryz.prog.cellsOf 27 = 1 := by kernel_rfl
theorem fits_Net {D : Nat} {ds : List CD} (h : Fits Tryz.prog D 29 ds) : ∃ x : Net, ds = x.row ∧ x.fits := by
  obtain ⟨hl, D', hf⟩ := fits_struct Tryz.underlying29 h
  rw [cells29] at hl
  obtain ⟨d0, d1, d2, d3, d4, d5, rfl⟩ := len6 hl
  simp [cells26, cells27] at hf
  obtain ⟨h0, h1⟩ := hf
  obtain ⟨n0, e0, k0⟩ := fits_Doc h0
  simp [Doc.row] at e0
  obtain ⟨e0_0, e0_1, e0_2, e0_3, e0_4⟩ := e0
  subst e0_0 e0_1 e0_2 e0_3 e0_4
  obtain ⟨n1, e1, k1⟩ := fits_RepS h1
  simp at e1
  subst e1
  exact ⟨⟨n0, n1⟩, rfl, k0, k1⟩
theorem cells101 : Tryz.prog.cellsOf 101 = 4 := by kernel_rfl
theorem fits_Event {D : Nat} {ds : List CD} (h : Fits Tryz.prog D 101 ds) : ∃ x : Event, ds = x.row ∧ x.fits := by
  obtain ⟨hl, D', hf⟩ := fits_struct Tryz.underlying101 h
  rw [cells101] at hl
  obtain ⟨d0, d1, d2, d3, rfl⟩ := len4 hl
  simp [cells3, cells88] at hf
  obtain ⟨h0, h1, h2, h3⟩ := hf
  obtain ⟨n0, e0, k0⟩ := fits_i64 h0
  simp at e0
  subst e0
  obtain ⟨n1, e1, k1⟩ := fits_i64 h1
  simp at e1
  subst e1
  obtain ⟨n2, e2, k2⟩ := fits_i64 h2
  simp at e2
  subst e2
  obtain ⟨n3, e3, k3⟩ := fits_PartS h3
  simp at e3
  subst e3
  exact ⟨⟨n0, n1, n2, n3⟩, rfl, k0, k1, k2, k3⟩
theorem fits_EventS {D : Nat} {ds : List CD} (h : Fits Tryz.prog D 114 ds) : ∃ l : List Event, ds = [.s (l.map Event.row)] ∧ l.length ≤ 9223372036854775807 ∧ ∀ y ∈ l, y.fits := by
  obtain ⟨rows, rfl, h1, D', h2⟩ := fits_slice Tryz.underlying114 h
  obtain ⟨l, rfl, hl⟩ := rows_map (f := Event.row) (ok := Event.fits) rows (fun row hrow => fits_Event (h2 row hrow).2)
  exact ⟨l, rfl, by simpa [mL] using h1, hl⟩
theorem fitsV_struct {D : Nat} {t : TypeId} {vd : VD} {fs : Array Field} (hu : Tryz.prog.underlying t = some (.struct fs)) (hc : Tryz.prog.cellsOf t ≠ 1) (h : FitsV Tryz.prog D t vd) : ∃ ds, vd = .agg ds ∧ Fits Tryz.prog D t ds := by
  cases vd with
  | c d =>
    have := (fits_struct hu h).1
    exact absurd this.symm hc
  | agg ds => exact ⟨ds, rfl, h.2⟩
theorem fitsV_sl {D : Nat} {t e : TypeId} {vd : VD} (hu : Tryz.prog.underlying t = some (.slice e)) (h : FitsV Tryz.prog D t vd) : ∃ d, vd = .c d ∧ Fits Tryz.prog D t [d] := fitsV_c hu (by simp) h
end Go.Proofs.YtdfdabjdfmamgaaGreat

