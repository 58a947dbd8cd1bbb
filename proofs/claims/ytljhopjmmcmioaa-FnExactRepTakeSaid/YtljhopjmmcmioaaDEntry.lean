import Derived.Test.YtljhopjmmcmioaaDInt
import Derived.Test.YtljhopjmmcmioaaDPart
namespace Go.Proofs.Ytljhopjmmcmioaa
open Go.AM
set_option maxRecDepth 20000
theorem toEntry_c (x : Entry) (h : nEntry x ≤ 2 ^ 40) : PureC Try.prog 34 [.agg x.row] (.one (.agg x.res)) := by
  refine PureC.intro' tt_ok Try.func34 (by kernel_rfl) rfl rfl rfl (Nat.le_of_ble_eq_true rfl) (fun w0 base => ?_)
  unfold nEntry at h
  simp [Entry.row, Entry.res]
  try intros
  refine ACall.pure (toPartS_c x.o (by omega)) (by simp) ?_
  simp
  try intros

theorem eqEntry_c (x y : Entry) (h : nEntry x ≤ 2 ^ 40) : PureC Try.prog 36 [.agg x.row, .agg y.row] (.one (.c (vb (x = y)) 1)) := by
  refine PureC.intro' tt_ok Try.func36 (by kernel_rfl) rfl rfl rfl (Nat.le_of_ble_eq_true rfl) (fun w0 base => ?_)
  unfold nEntry at h
  obtain ⟨a0, a1, a2⟩ := x
  obtain ⟨b0, b1, b2⟩ := y
  simp only at h
  simp [Entry.row]
  try intros
  by_cases h0 : a0 = b0
  rotate_left
  · simp [h0]
  subst h0
  try simp
  by_cases h1 : a1 = b1
  rotate_left
  · simp [h1]
  subst h1
  try simp
  refine ACall.pure (eqPartS_c a2 b2 (by omega)) (by simp) ?_
  simp
  by_cases h2 : a2 = b2
  rotate_left
  · simp [h2]
  subst h2
  try simp

theorem szEntry_c (x : Entry) (h : x.fits) (left : Nat) (hf : left ≤ 2 ^ 20) : PureC Try.prog 32 [.agg x.row, .c (vi left)] (.one (.c (vi (szR (nEntry x) left)) 1)) := by
  refine PureC.intro' tt_ok Try.func32 (by kernel_rfl) rfl rfl rfl (Nat.le_of_ble_eq_true rfl) (fun w0 base => ?_)
  obtain ⟨f0, f1, f2⟩ := h
  obtain ⟨r, hr⟩ : ∃ r, szR (nEntry x) left = r := ⟨_, rfl⟩
  rw [hr]
  have hn : nEntry x = nL nPart x.o := rfl
  simp [Entry.row]
  try intros
  refine ACall.pure (szPartS_c x.o f2.1 f2.2 left (by omega)) (by simp) ?_
  by_cases k0 : nL nPart x.o ≤ left
  rotate_left
  · have : r = -1 := by rw [← hr]; exact szR_no (by omega)
    rw [szR_no k0]
    simp [this]
  rw [szR_ok k0]
  obtain ⟨m0, hm0⟩ : ∃ m, left - nL nPart x.o = m := ⟨_, rfl⟩
  rw [hm0]
  have : r = (m0 : Int) := by rw [← hr, szR_ok (by omega)]; omega
  simp [this]

theorem markEntry_c (x : Entry) (k : Int) (h0 : 0 ≤ k) (hk : k + x.cntT ≤ 4611686018427387904) (hl : nEntry x ≤ 2 ^ 40) : MarkC Try.prog 37 (.agg x.res) k (k + x.cntT) (.agg (x.markT k).res) := by
  refine MarkC.intro tt_ok Try.func37 (by kernel_rfl) rfl rfl rfl (by decide) (fun w0 base => ?_)
  simp only [Entry.cntT] at hk
  unfold nEntry at hl
  simp [Entry.res]
  try intros
  refine ACall.mark (markPartS_c x.o (k) (by omega) (by omega) (by omega)) rfl (fun _ h => h) (by simp) ?_
  simp
  simp [Entry.markT, Entry.cntT, markL_length]
  try omega

theorem toEntryS_c (l : List Entry) (hl : nL nEntry l ≤ 2 ^ 40) : PureC Try.prog 49 [.c (.s (l.map Entry.row))] (.one (.c (.s (l.map Entry.row)) 3)) := by
  refine PureC.intro' tt_ok Try.func49 (by kernel_rfl) rfl rfl rfl (Nat.le_of_ble_eq_true rfl) (fun w0 base => ?_)
  have hle := nL_len hl
  simp
  refine ⟨by omega, fun b => ?_⟩
  refine LoopT.intro eok (fun i : Nat => i ≤ l.length) (fun i => ⟨23, 0, [(4, .v (.int .i64 i)), (3, .sl 112 (some (b, 0, l.length)) 3 0 l.length), (0, .ro (l.map Entry.row))],
    [(112, .rows (some (b, 0, l.length)) 3 (fillR Entry.row [.v (.int .i64 0), .v (.int .i64 0), .s []] l i) true)]⟩) (fun i => l.length - i) 0 (by simp) (by simp [fillR_0]) (fun i hi => ?_)
  by_cases h : i < l.length
  · simp [h, Entry.row]
    refine ACall.pure (toEntry_c l[i] (nL_at hl h)) (by simp [Entry.row]) ?_
    simp [Entry.res, fillR_length hi, h]
    exact ⟨i + 1, by omega, by omega, i64_suc (by omega), fillR_set (f := Entry.row) h⟩
  · have : i = l.length := by omega
    subst this
    simp [fillR_all, cut]
    try exact fun a _ => rfl

theorem eqEntryS_c (a b : List Entry) (hl : nL nEntry a ≤ 2 ^ 40) : PureC Try.prog 51 [.c (.s (a.map Entry.row)), .c (.s (b.map Entry.row))] (.one (.c (vb (a = b)) 1)) := by
  refine PureC.intro' tt_ok Try.func51 (by kernel_rfl) rfl rfl rfl (Nat.le_of_ble_eq_true rfl) (fun w0 base => ?_)
  have hle := nL_len hl
  by_cases h : a.length = b.length
  · simp [h]
    refine LoopT.intro eok (fun i : Nat => i ≤ a.length ∧ a.take i = b.take i) (fun i => ⟨27, 0, [(5, .v (.int .i64 i)), (1, .ro (b.map Entry.row)), (0, .ro (a.map Entry.row))], []⟩) (fun i => a.length - i) 0 (by simp) (by simp) (fun i hi => ?_)
    by_cases hlt : i < a.length
    · simp [hlt]
      have hlt' : i < b.length := by omega
      refine DrawT.quiet eok mix (by kernel_rfl) ?_
      simp [hlt, hlt', Entry.row]
      refine ⟨_, _, eqEntry_c a[i] b[i] (nL_at hl hlt), by simp [Entry.row], ?_⟩
      simp
      refine Br.mk (fun h1 => ?_) (fun h1 => ?_)
      · simp
        exact ⟨i + 1, ⟨by omega, take_next hlt hlt' hi.2 (of_yes h1)⟩, by omega, i64_suc (by omega)⟩
      · simp [dc_no]
        exact ne_at hlt hlt' (of_no h1)
    · simp [hlt, dc_yes]
      exact take_all (by omega) (by omega) hi.2
  · have hz : ¬ (a.length : Int) = b.length := by omega
    simp [hz, dc_no]
    exact fun h2 => absurd (by rw [h2]) h

theorem szEntryS_c (l : List Entry) (hl : l.length ≤ 9223372036854775807) (hs : ∀ y ∈ l, y.fits) (left : Nat) (hf : left ≤ 2 ^ 20) : PureC Try.prog 47 [.c (.s (l.map Entry.row)), .c (vi left)] (.one (.c (vi (szR (nL nEntry l) left)) 1)) := by
  refine PureC.intro' tt_ok Try.func47 (by kernel_rfl) rfl rfl rfl (Nat.le_of_ble_eq_true rfl) (fun w0 base => ?_)
  have hw : IntKind.i64.wrap ((left : Int) - (l.length : Int)) = (left : Int) - l.length := IntWalk.i64_in _ (by omega)
  have hn : nL nEntry l = l.length + sumN nEntry l := rfl
  by_cases h : l.length ≤ left
  · obtain ⟨lf, hlf⟩ : ∃ lf : Nat, left - l.length = lf := ⟨_, rfl⟩
    have hlz : (left : Int) - l.length = (lf : Int) := by omega
    have hw2 : IntKind.i64.wrap (lf : Int) = lf := i64_nat (by omega)
    simp [hlz, hw2]
    obtain ⟨r, hr⟩ : ∃ r, szR (nL nEntry l) left = r := ⟨_, rfl⟩
    have hr0 : szR (sumN nEntry l) lf = r := by rw [← hr]; unfold szR; split <;> split <;> omega
    rw [hr]
    refine LoopT.intro eok (fun x : Nat × Nat => x.1 ≤ l.length ∧ x.2 ≤ 2 ^ 20 ∧ szR (sumN nEntry (l.drop x.1)) x.2 = r) (fun x => ⟨27, 0, [(5, .v (.int .i64 x.1)), (1, .v (.int .i64 x.2)), (0, .ro (l.map Entry.row))], []⟩) (fun x => l.length - x.1) (0, lf) (by simp [hr0]; omega) (by simp) ?_
    rintro ⟨i, m⟩ ⟨hi, hm, hx⟩
    simp only at hi hm hx ⊢
    by_cases hlt : i < l.length
    · rw [sumN_drop hlt] at hx
      simp [hlt, Entry.row]
      refine ACall.pure (szEntry_c l[i] (hs _ (List.getElem_mem hlt)) m hm) (by simp [Entry.row]) ?_
      by_cases hk : nEntry l[i] ≤ m
      · rw [szR_ok hk]
        have hz : ¬ ((m - nEntry l[i] : Nat) : Int) < 0 := by omega
        simp [hz]
        refine ⟨i + 1, m - nEntry l[i], ⟨by omega, by omega, ?_⟩, by omega, i64_suc (by omega), rfl⟩
        rw [← hx]; unfold szR; split <;> split <;> omega
      · rw [szR_no (show ¬ nEntry l[i] + sumN nEntry (l.drop (i + 1)) ≤ m by omega)] at hx
        rw [szR_no hk]
        simp [← hx]
    · have : i = l.length := by omega
      subst this
      simp only [List.drop_length, sumN, szR, Nat.zero_le, if_true, Nat.sub_zero] at hx
      simp [hx]
  · have hz : (left : Int) - l.length < 0 := by omega
    simp [hw, hz, szR_no (show ¬ nL nEntry l ≤ left by omega)]

theorem markEntryS_c (l : List Entry) (k : Int) (h0 : 0 ≤ k) (hk : k + cntL Entry.cnt l ≤ 4611686018427387904) (hl : nL nEntry l ≤ 2 ^ 40) : MarkC Try.prog 52 (.c (.s (l.map Entry.row)) 3) k (k + cntL Entry.cnt l) (.c (.s ((markL Entry.mark Entry.cnt l k).map Entry.row)) 3) := by
  refine MarkC.intro tt_ok Try.func52 (by kernel_rfl) rfl rfl rfl (by decide) (fun w0 base => ?_)
  have hle := nL_len hl
  simp
  intro H
  refine LoopT.introG eok (fun i : Nat => i ≤ l.length) (fun i => ⟨34, 0, [(5, .v (.int .i64 i)), (1, .v (.int .i64 (k + cntL Entry.cnt (l.take i)))), (0, .ml 0 H 3 l.length)], [(0, .rows H 3 (marked Entry.mark Entry.cnt Entry.row l k i) true)]⟩) (fun i => l.length - i) 0 (by simp) (by simp [marked_0, cntL]) (fun i hi => ?_)
  by_cases h : i < l.length
  · have hc := cntL_cell_le (cn := Entry.cnt) h
    have hs := cntL_take_suc (cn := Entry.cnt) h
    have hni := nL_at hl h
    simp only [nEntry] at hni
    obtain ⟨q0, hq0⟩ : ∃ q, k + ((cntL Entry.cnt (l.take i) : Nat) : Int) = q := ⟨_, rfl⟩
    have hpc : l[i].cnt = 2 + (cntL Part.cnt l[i].o) := rfl
    rw [hq0, ← marked_row h]
    have e0 : Go.IntKind.i64.wrap q0 = q0 := Go.IntWalk.i64_in _ (by omega)
    obtain ⟨q1, hq1⟩ : ∃ q, q0 + 1 = q := ⟨_, rfl⟩
    have e1 : Go.IntKind.i64.wrap q1 = q1 := Go.IntWalk.i64_in _ (by omega)
    obtain ⟨q2, hq2⟩ : ∃ q, q1 + 1 = q := ⟨_, rfl⟩
    have e2 : Go.IntKind.i64.wrap q2 = q2 := Go.IntWalk.i64_in _ (by omega)
    obtain ⟨q3, hq3⟩ : ∃ q, q2 + ((cntL Part.cnt l[i].o : Nat) : Int) = q := ⟨_, rfl⟩
    have e3 : Go.IntKind.i64.wrap q3 = q3 := Go.IntWalk.i64_in _ (by omega)
    have e : Go.IntKind.i64.wrap ((i : Int) + 1) = ((i + 1 : Nat) : Int) := i64_suc (by omega)
    refine Ent.open (fun _ h => h) (k := 0) (i := i) (j := 2) (k' := 902) (sz' := 3) (sz := 3) (H := H) (rows := ((marked Entry.mark Entry.cnt Entry.row l k i).set i l[i].row)) (srows := l[i].o.map Part.row) (row := l[i].row) (by simp) (by simp [marked_length, h]) rfl (by simp) (by decide) (by simp [Part.row]) (by simp) (fun H2 => ?_)
    refine Ent.refl ?_
    simp [h, marked_length, Entry.row, setC_set, modify_set, hq1, e1, hq2, e2]
    refine ACall.mark (markPartS_c l[i].o q2 (by omega) (by omega) (by omega)) rfl (fun _ h => h) (by simp) ?_
    simp [e, hq3]
    refine Ent.close (k := 0) (i := i) (j := 2) (k' := 902) (sz' := 3) (sz := 3) (H := H) (rows := (marked Entry.mark Entry.cnt Entry.row l k i).set i [vi q0, vi q1, .h 902 H2 3 l[i].o.length]) (row := [vi q0, vi q1, .h 902 H2 3 l[i].o.length]) (H' := H2) (srows := (markL Part.mark Part.cnt l[i].o q2).map Part.row) (by simp) (by simp [marked_length, h]) (by simp [markL_length]) (by simp) (by decide) (by simp) ?_
    refine Ent.refl ⟨i + 1, by omega, by omega, ?_⟩
    simp [setC_set, hs, hpc]
    refine ⟨by omega, ?_⟩
    refine marked_set h ?_
    rw [hq0]
    subst hq1 hq2 hq3
    rfl
  · have : i = l.length := by omega
    subst this
    refine Ent.refl ?_
    simp [marked_all, markL_length, Entry.row]

theorem heldEntryS_c (l : List Entry) (k : Int) (h0 : 0 ≤ k) (hk : k + cntL Entry.cnt l ≤ 4611686018427387904) (hl : nL nEntry l ≤ 2 ^ 40) : PureC Try.prog 162 [.c (.s ((markL Entry.mark Entry.cnt l k).map Entry.row)), .c (vi k)] (.one (.c (vi (k + cntL Entry.cnt l)) 1)) := by
  refine PureC.intro' tt_ok Try.func162 (by kernel_rfl) rfl rfl rfl (Nat.le_of_ble_eq_true rfl) (fun w0 base => ?_)
  have hle := nL_len hl
  simp
  refine LoopT.intro eok (fun i : Nat => i ≤ l.length) (fun i => ⟨40, 0, [(5, .v (.int .i64 i)), (1, .v (.int .i64 (k + cntL Entry.cnt (l.take i)))), (0, .ro ((markL Entry.mark Entry.cnt l k).map Entry.row))], []⟩) (fun i => l.length - i) 0 (by simp) (by simp [cntL]) (fun i hi => ?_)
  by_cases h : i < l.length
  · have hc := cntL_cell_le (cn := Entry.cnt) h
    have hs := cntL_take_suc (cn := Entry.cnt) h
    have hni := nL_at hl h
    simp only [nEntry] at hni
    have hm := markL_cell (mk := Entry.mark) (cn := Entry.cnt) (k := k) h
    obtain ⟨q0, hq0⟩ : ∃ q, k + ((cntL Entry.cnt (l.take i) : Nat) : Int) = q := ⟨_, rfl⟩
    have hpc : l[i].cnt = 2 + (cntL Part.cnt l[i].o) := rfl
    rw [hq0] at hm
    rw [hq0]
    have z0 : ¬ q0 < 0 := by omega
    have e0 : Go.IntKind.i64.wrap q0 = q0 := Go.IntWalk.i64_in _ (by omega)
    obtain ⟨q1, hq1⟩ : ∃ q, q0 + 1 = q := ⟨_, rfl⟩
    have e1 : Go.IntKind.i64.wrap q1 = q1 := Go.IntWalk.i64_in _ (by omega)
    have z1 : ¬ q1 < 0 := by omega
    obtain ⟨q2, hq2⟩ : ∃ q, q1 + 1 = q := ⟨_, rfl⟩
    have e2 : Go.IntKind.i64.wrap q2 = q2 := Go.IntWalk.i64_in _ (by omega)
    have z2 : ¬ q2 < 0 := by omega
    obtain ⟨q3, hq3⟩ : ∃ q, q2 + ((cntL Part.cnt l[i].o : Nat) : Int) = q := ⟨_, rfl⟩
    have e3 : Go.IntKind.i64.wrap q3 = q3 := Go.IntWalk.i64_in _ (by omega)
    have z3 : ¬ q3 < 0 := by omega
    have e : Go.IntKind.i64.wrap ((i : Int) + 1) = ((i + 1 : Nat) : Int) := i64_suc (by omega)
    simp [h, markL_length, hm, Entry.row, Entry.mark, hq1, e1, hq2, e2]
    refine ACall.pure (heldPartS_c l[i].o q2 (by omega) (by omega) (by omega)) (by simp) ?_
    simp [hq3, z3]
    refine ⟨i + 1, by omega, by omega, ?_⟩
    simp [e, hs, hpc]
    omega
  · have : i = l.length := by omega
    subst this
    simp [markL_length]
end Go.Proofs.Ytljhopjmmcmioaa
