import Derived.Test.YtljhopjmmcmioaaDInt
namespace Go.Proofs.Ytljhopjmmcmioaa
open Go.AM
set_option maxRecDepth 20000
theorem toPart_c (x : Part) (h : nPart x ≤ 2 ^ 40) : PureC Try.prog 87 [.agg x.row] (.one (.agg x.res)) := by
  refine PureC.intro' tt_ok Try.func87 (by kernel_rfl) rfl rfl rfl (Nat.le_of_ble_eq_true rfl) (fun w0 base => ?_)
  unfold nPart at h
  simp [Part.row, Part.res]
  try intros
  refine ACall.pure (toIntS_c x.signs (by omega)) (by simp) ?_
  simp
  try intros

theorem eqPart_c (x y : Part) (h : nPart x ≤ 2 ^ 40) : PureC Try.prog 90 [.agg x.row, .agg y.row] (.one (.c (vb (x = y)) 1)) := by
  refine PureC.intro' tt_ok Try.func90 (by kernel_rfl) rfl rfl rfl (Nat.le_of_ble_eq_true rfl) (fun w0 base => ?_)
  unfold nPart at h
  obtain ⟨a0, a1, a2⟩ := x
  obtain ⟨b0, b1, b2⟩ := y
  simp only at h
  simp [Part.row]
  try intros
  by_cases h0 : a0 = b0
  rotate_left
  · simp [h0]
  subst h0
  try simp
  by_cases h1 : a1 = b1
  rotate_left
  · simp [h1]
  subst h1
  try simp
  refine ACall.pure (eqIntS_c a2 b2 (by omega)) (by simp) ?_
  simp
  by_cases h2 : a2 = b2
  rotate_left
  · simp [h2]
  subst h2
  try simp

theorem szPart_c (x : Part) (h : x.fits) (left : Nat) (hf : left ≤ 2 ^ 20) : PureC Try.prog 84 [.agg x.row, .c (vi left)] (.one (.c (vi (szR (nPart x) left)) 1)) := by
  refine PureC.intro' tt_ok Try.func84 (by kernel_rfl) rfl rfl rfl (Nat.le_of_ble_eq_true rfl) (fun w0 base => ?_)
  obtain ⟨f0, f1, f2⟩ := h
  obtain ⟨r, hr⟩ : ∃ r, szR (nPart x) left = r := ⟨_, rfl⟩
  rw [hr]
  have hn : nPart x = x.signs.length := rfl
  simp [Part.row]
  try intros
  refine ACall.pure (szIntS_c x.signs f2.1 left (by omega)) (by simp) ?_
  by_cases k0 : x.signs.length ≤ left
  rotate_left
  · have : r = -1 := by rw [← hr]; exact szR_no (by omega)
    rw [szR_no k0]
    simp [this]
  rw [szR_ok k0]
  obtain ⟨m0, hm0⟩ : ∃ m, left - x.signs.length = m := ⟨_, rfl⟩
  rw [hm0]
  have : r = (m0 : Int) := by rw [← hr, szR_ok (by omega)]; omega
  simp [this]

theorem toPartS_c (l : List Part) (hl : nL nPart l ≤ 2 ^ 40) : PureC Try.prog 28 [.c (.s (l.map Part.row))] (.one (.c (.s (l.map Part.row)) 3)) := by
  refine PureC.intro' tt_ok Try.func28 (by kernel_rfl) rfl rfl rfl (Nat.le_of_ble_eq_true rfl) (fun w0 base => ?_)
  have hle := nL_len hl
  simp
  refine ⟨by omega, fun b => ?_⟩
  refine LoopT.intro eok (fun i : Nat => i ≤ l.length) (fun i => ⟨23, 0, [(4, .v (.int .i64 i)), (3, .sl 112 (some (b, 0, l.length)) 3 0 l.length), (0, .ro (l.map Part.row))],
    [(112, .rows (some (b, 0, l.length)) 3 (fillR Part.row [.v (.int .i64 0), .v (.int .i64 0), .s []] l i) true)]⟩) (fun i => l.length - i) 0 (by simp) (by simp [fillR_0]) (fun i hi => ?_)
  by_cases h : i < l.length
  · simp [h, Part.row]
    refine ACall.pure (toPart_c l[i] (nL_at hl h)) (by simp [Part.row]) ?_
    simp [Part.res, fillR_length hi, h]
    exact ⟨i + 1, by omega, by omega, i64_suc (by omega), fillR_set (f := Part.row) h⟩
  · have : i = l.length := by omega
    subst this
    simp [fillR_all, cut]
    try exact fun a _ => rfl

theorem eqPartS_c (a b : List Part) (hl : nL nPart a ≤ 2 ^ 40) : PureC Try.prog 30 [.c (.s (a.map Part.row)), .c (.s (b.map Part.row))] (.one (.c (vb (a = b)) 1)) := by
  refine PureC.intro' tt_ok Try.func30 (by kernel_rfl) rfl rfl rfl (Nat.le_of_ble_eq_true rfl) (fun w0 base => ?_)
  have hle := nL_len hl
  by_cases h : a.length = b.length
  · simp [h]
    refine LoopT.intro eok (fun i : Nat => i ≤ a.length ∧ a.take i = b.take i) (fun i => ⟨27, 0, [(5, .v (.int .i64 i)), (1, .ro (b.map Part.row)), (0, .ro (a.map Part.row))], []⟩) (fun i => a.length - i) 0 (by simp) (by simp) (fun i hi => ?_)
    by_cases hlt : i < a.length
    · simp [hlt]
      have hlt' : i < b.length := by omega
      refine DrawT.quiet eok mix (by kernel_rfl) ?_
      simp [hlt, hlt', Part.row]
      refine ⟨_, _, eqPart_c a[i] b[i] (nL_at hl hlt), by simp [Part.row], ?_⟩
      simp
      refine Br.mk (fun h1 => ?_) (fun h1 => ?_)
      · simp
        exact ⟨i + 1, ⟨by omega, take_next hlt hlt' hi.2 (of_yes h1)⟩, by omega, i64_suc (by omega)⟩
      · simp [dc_no]
        exact ne_at hlt hlt' (of_no h1)
    · simp [hlt, dc_yes]
      exact take_all (by omega) (by omega) hi.2
  · have hz : ¬ (a.length : Int) = b.length := by omega
    simp [hz, dc_no]
    exact fun h2 => absurd (by rw [h2]) h

theorem szPartS_c (l : List Part) (hl : l.length ≤ 9223372036854775807) (hs : ∀ y ∈ l, y.fits) (left : Nat) (hf : left ≤ 2 ^ 20) : PureC Try.prog 26 [.c (.s (l.map Part.row)), .c (vi left)] (.one (.c (vi (szR (nL nPart l) left)) 1)) := by
  refine PureC.intro' tt_ok Try.func26 (by kernel_rfl) rfl rfl rfl (Nat.le_of_ble_eq_true rfl) (fun w0 base => ?_)
  have hw : IntKind.i64.wrap ((left : Int) - (l.length : Int)) = (left : Int) - l.length := IntWalk.i64_in _ (by omega)
  have hn : nL nPart l = l.length + sumN nPart l := rfl
  by_cases h : l.length ≤ left
  · obtain ⟨lf, hlf⟩ : ∃ lf : Nat, left - l.length = lf := ⟨_, rfl⟩
    have hlz : (left : Int) - l.length = (lf : Int) := by omega
    have hw2 : IntKind.i64.wrap (lf : Int) = lf := i64_nat (by omega)
    simp [hlz, hw2]
    obtain ⟨r, hr⟩ : ∃ r, szR (nL nPart l) left = r := ⟨_, rfl⟩
    have hr0 : szR (sumN nPart l) lf = r := by rw [← hr]; unfold szR; split <;> split <;> omega
    rw [hr]
    refine LoopT.intro eok (fun x : Nat × Nat => x.1 ≤ l.length ∧ x.2 ≤ 2 ^ 20 ∧ szR (sumN nPart (l.drop x.1)) x.2 = r) (fun x => ⟨27, 0, [(5, .v (.int .i64 x.1)), (1, .v (.int .i64 x.2)), (0, .ro (l.map Part.row))], []⟩) (fun x => l.length - x.1) (0, lf) (by simp [hr0]; omega) (by simp) ?_
    rintro ⟨i, m⟩ ⟨hi, hm, hx⟩
    simp only at hi hm hx ⊢
    by_cases hlt : i < l.length
    · rw [sumN_drop hlt] at hx
      simp [hlt, Part.row]
      refine ACall.pure (szPart_c l[i] (hs _ (List.getElem_mem hlt)) m hm) (by simp [Part.row]) ?_
      by_cases hk : nPart l[i] ≤ m
      · rw [szR_ok hk]
        have hz : ¬ ((m - nPart l[i] : Nat) : Int) < 0 := by omega
        simp [hz]
        refine ⟨i + 1, m - nPart l[i], ⟨by omega, by omega, ?_⟩, by omega, i64_suc (by omega), rfl⟩
        rw [← hx]; unfold szR; split <;> split <;> omega
      · rw [szR_no (show ¬ nPart l[i] + sumN nPart (l.drop (i + 1)) ≤ m by omega)] at hx
        rw [szR_no hk]
        simp [← hx]
    · have : i = l.length := by omega
      subst this
      simp only [List.drop_length, sumN, szR, Nat.zero_le, if_true, Nat.sub_zero] at hx
      simp [hx]
  · have hz : (left : Int) - l.length < 0 := by omega
    simp [hw, hz, szR_no (show ¬ nL nPart l ≤ left by omega)]

theorem markPartS_c (l : List Part) (k : Int) (h0 : 0 ≤ k) (hk : k + cntL Part.cnt l ≤ 4611686018427387904) (hl : nL nPart l ≤ 2 ^ 40) : MarkC Try.prog 31 (.c (.s (l.map Part.row)) 3) k (k + cntL Part.cnt l) (.c (.s ((markL Part.mark Part.cnt l k).map Part.row)) 3) := by
  refine MarkC.intro tt_ok Try.func31 (by kernel_rfl) rfl rfl rfl (by decide) (fun w0 base => ?_)
  have hle := nL_len hl
  simp
  intro H
  refine LoopT.introG eok (fun i : Nat => i ≤ l.length) (fun i => ⟨34, 0, [(5, .v (.int .i64 i)), (1, .v (.int .i64 (k + cntL Part.cnt (l.take i)))), (0, .ml 0 H 3 l.length)], [(0, .rows H 3 (marked Part.mark Part.cnt Part.row l k i) true)]⟩) (fun i => l.length - i) 0 (by simp) (by simp [marked_0, cntL]) (fun i hi => ?_)
  by_cases h : i < l.length
  · have hc := cntL_cell_le (cn := Part.cnt) h
    have hs := cntL_take_suc (cn := Part.cnt) h
    have hni := nL_at hl h
    simp only [nPart] at hni
    obtain ⟨q0, hq0⟩ : ∃ q, k + ((cntL Part.cnt (l.take i) : Nat) : Int) = q := ⟨_, rfl⟩
    have hpc : l[i].cnt = 2 + (l[i].signs.length) := rfl
    rw [hq0, ← marked_row h]
    have e0 : Go.IntKind.i64.wrap q0 = q0 := Go.IntWalk.i64_in _ (by omega)
    obtain ⟨q1, hq1⟩ : ∃ q, q0 + 1 = q := ⟨_, rfl⟩
    have e1 : Go.IntKind.i64.wrap q1 = q1 := Go.IntWalk.i64_in _ (by omega)
    obtain ⟨q2, hq2⟩ : ∃ q, q1 + 1 = q := ⟨_, rfl⟩
    have e2 : Go.IntKind.i64.wrap q2 = q2 := Go.IntWalk.i64_in _ (by omega)
    obtain ⟨q3, hq3⟩ : ∃ q, q2 + ((l[i].signs.length : Nat) : Int) = q := ⟨_, rfl⟩
    have e3 : Go.IntKind.i64.wrap q3 = q3 := Go.IntWalk.i64_in _ (by omega)
    have e : Go.IntKind.i64.wrap ((i : Int) + 1) = ((i + 1 : Nat) : Int) := i64_suc (by omega)
    refine Ent.open (fun _ h => h) (k := 0) (i := i) (j := 2) (k' := 902) (sz' := 1) (sz := 3) (H := H) (rows := ((marked Part.mark Part.cnt Part.row l k i).set i l[i].row)) (srows := l[i].signs.map intR) (row := l[i].row) (by simp) (by simp [marked_length, h]) rfl (by simp) (by decide) (by simp [intR]) (by simp) (fun H2 => ?_)
    refine Ent.refl ?_
    simp [h, marked_length, Part.row, setC_set, modify_set, hq1, e1, hq2, e2]
    refine ACall.mark (markIntS_c l[i].signs q2 (by omega) (by omega)) rfl (fun _ h => h) (by simp) ?_
    simp [e, hq3]
    refine Ent.close (k := 0) (i := i) (j := 2) (k' := 902) (sz' := 1) (sz := 3) (H := H) (rows := (marked Part.mark Part.cnt Part.row l k i).set i [vi q0, vi q1, .h 902 H2 1 l[i].signs.length]) (row := [vi q0, vi q1, .h 902 H2 1 l[i].signs.length]) (H' := H2) (srows := (markL intM one l[i].signs q2).map intR) (by simp) (by simp [marked_length, h]) (by simp [markL_length]) (by simp) (by decide) (by simp) ?_
    refine Ent.refl ⟨i + 1, by omega, by omega, ?_⟩
    simp [setC_set, hs, hpc]
    refine ⟨by omega, ?_⟩
    refine marked_set h ?_
    rw [hq0]
    subst hq1 hq2 hq3
    rfl
  · have : i = l.length := by omega
    subst this
    refine Ent.refl ?_
    simp [marked_all, markL_length, Part.row]

theorem heldPartS_c (l : List Part) (k : Int) (h0 : 0 ≤ k) (hk : k + cntL Part.cnt l ≤ 4611686018427387904) (hl : nL nPart l ≤ 2 ^ 40) : PureC Try.prog 73 [.c (.s ((markL Part.mark Part.cnt l k).map Part.row)), .c (vi k)] (.one (.c (vi (k + cntL Part.cnt l)) 1)) := by
  refine PureC.intro' tt_ok Try.func73 (by kernel_rfl) rfl rfl rfl (Nat.le_of_ble_eq_true rfl) (fun w0 base => ?_)
  have hle := nL_len hl
  simp
  refine LoopT.intro eok (fun i : Nat => i ≤ l.length) (fun i => ⟨40, 0, [(5, .v (.int .i64 i)), (1, .v (.int .i64 (k + cntL Part.cnt (l.take i)))), (0, .ro ((markL Part.mark Part.cnt l k).map Part.row))], []⟩) (fun i => l.length - i) 0 (by simp) (by simp [cntL]) (fun i hi => ?_)
  by_cases h : i < l.length
  · have hc := cntL_cell_le (cn := Part.cnt) h
    have hs := cntL_take_suc (cn := Part.cnt) h
    have hni := nL_at hl h
    simp only [nPart] at hni
    have hm := markL_cell (mk := Part.mark) (cn := Part.cnt) (k := k) h
    obtain ⟨q0, hq0⟩ : ∃ q, k + ((cntL Part.cnt (l.take i) : Nat) : Int) = q := ⟨_, rfl⟩
    have hpc : l[i].cnt = 2 + (l[i].signs.length) := rfl
    rw [hq0] at hm
    rw [hq0]
    have z0 : ¬ q0 < 0 := by omega
    have e0 : Go.IntKind.i64.wrap q0 = q0 := Go.IntWalk.i64_in _ (by omega)
    obtain ⟨q1, hq1⟩ : ∃ q, q0 + 1 = q := ⟨_, rfl⟩
    have e1 : Go.IntKind.i64.wrap q1 = q1 := Go.IntWalk.i64_in _ (by omega)
    have z1 : ¬ q1 < 0 := by omega
    obtain ⟨q2, hq2⟩ : ∃ q, q1 + 1 = q := ⟨_, rfl⟩
    have e2 : Go.IntKind.i64.wrap q2 = q2 := Go.IntWalk.i64_in _ (by omega)
    have z2 : ¬ q2 < 0 := by omega
    obtain ⟨q3, hq3⟩ : ∃ q, q2 + ((l[i].signs.length : Nat) : Int) = q := ⟨_, rfl⟩
    have e3 : Go.IntKind.i64.wrap q3 = q3 := Go.IntWalk.i64_in _ (by omega)
    have z3 : ¬ q3 < 0 := by omega
    have e : Go.IntKind.i64.wrap ((i : Int) + 1) = ((i + 1 : Nat) : Int) := i64_suc (by omega)
    simp [h, markL_length, hm, Part.row, Part.mark, hq1, e1, hq2, e2]
    refine ACall.pure (heldIntS_c l[i].signs q2 (by omega) (by omega)) (by simp) ?_
    simp [hq3, z3]
    refine ⟨i + 1, by omega, by omega, ?_⟩
    simp [e, hs, hpc]
    omega
  · have : i = l.length := by omega
    subst this
    simp [markL_length]
end Go.Proofs.Ytljhopjmmcmioaa
