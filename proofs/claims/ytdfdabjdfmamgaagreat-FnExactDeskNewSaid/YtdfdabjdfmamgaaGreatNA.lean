import Derived.Test.YtdfdabjdfmamgaaGreatMG
namespace Go.Proofs.YtdfdabjdfmamgaaGreat
open Go.AM
set_option maxRecDepth 20000
theorem eqPart_c (x y : Part) (h : nPart x ≤ 2 ^ 40) : PureC Tryz.prog 229 [.agg x.row, .agg y.row] (.one (.c (vb (x = y)) 1)) := by
  refine PureC.intro' tt_ok Tryz.func229 (by kernel_rfl) rfl rfl rfl (Nat.le_of_ble_eq_true rfl) (fun w0 base => ?_)
  unfold nPart at h
  obtain ⟨a0, a1, a2⟩ := x
  obtain ⟨b0, b1, b2⟩ := y
  simp only at h
  simp [Part.row]
  try intros
  by_cases h0 : a0 = b0
  rotate_left
  · simp [h0]
  subst h0
  try simp
  by_cases h1 : a1 = b1
  rotate_left
  · simp [h1]
  subst h1
  try simp
  refine ACall.pure (eqIntS_c a2 b2 (by omega)) (by simp) ?_
  simp
  by_cases h2 : a2 = b2
  rotate_left
  · simp [h2]
  subst h2
  try simp
theorem eqPartS_c (a b : List Part) (hl : nL nPart a ≤ 2 ^ 40) : PureC Tryz.prog 138 [.c (.s (a.map Part.row)), .c (.s (b.map Part.row))] (.one (.c (vb (a = b)) 1)) := by
  refine PureC.intro' tt_ok Tryz.func138 (by kernel_rfl) rfl rfl rfl (Nat.le_of_ble_eq_true rfl) (fun w0 base => ?_)
  have hle := nL_len hl
  by_cases h : a.length = b.length
  · simp [h]
    refine LoopT.intro eok (fun i : Nat => i ≤ a.length ∧ a.take i = b.take i) (fun i => ⟨27, 0, [(5, .v (.int .i64 i)), (1, .ro (b.map Part.row)), (0, .ro (a.map Part.row))], []⟩) (fun i => a.length - i) 0 (by simp) (by simp) (fun i hi => ?_)
    by_cases hlt : i < a.length
    · simp [hlt]
      have hlt' : i < b.length := by omega
      refine DrawT.quiet eok mix (by kernel_rfl) ?_
      simp [hlt, hlt', Part.row]
      refine ⟨_, _, eqPart_c a[i] b[i] (nL_at hl hlt), by simp [Part.row], ?_⟩
      simp
      refine Br.mk (fun h1 => ?_) (fun h1 => ?_)
      · simp
        exact ⟨i + 1, ⟨by omega, take_next hlt hlt' hi.2 (of_yes h1)⟩, by omega, i64_suc (by omega)⟩
      · simp [dc_no]
        exact ne_at hlt hlt' (of_no h1)
    · simp [hlt, dc_yes]
      exact take_all (by omega) (by omega) hi.2
  · have hz : ¬ (a.length : Int) = b.length := by omega
    simp [hz, dc_no]
    exact fun h2 => absurd (by rw [h2]) h
theorem markPartS_c (l : List Part) (k : Int) (h0 : 0 ≤ k) (hk : k + cntL Part.cnt l ≤ 4611686018427387904) (hl : nL nPart l ≤ 2 ^ 40) : MarkC Tryz.prog 139 (.c (.s (l.map Part.row)) 3) k (k + cntL Part.cnt l) (.c (.s ((markL Part.mark Part.cnt l k).map Part.row)) 3) := by
  refine MarkC.intro tt_ok Tryz.func139 (by kernel_rfl) rfl rfl rfl (by decide) (fun w0 base => ?_)
  have hle := nL_len hl
  simp
  intro H
  refine LoopT.introG eok (fun i : Nat => i ≤ l.length) (fun i => ⟨34, 0, [(5, .v (.int .i64 i)), (1, .v (.int .i64 (k + cntL Part.cnt (l.take i)))), (0, .ml 0 H 3 l.length)], [(0, .rows H 3 (marked Part.mark Part.cnt Part.row l k i) true)]⟩) (fun i => l.length - i) 0 (by simp) (by simp [marked_0, cntL]) (fun i hi => ?_)
  by_cases h : i < l.length
  · have hc := cntL_cell_le (cn := Part.cnt) h
    have hs := cntL_take_suc (cn := Part.cnt) h
    have hni := nL_at hl h
    simp only [nPart] at hni
    obtain ⟨q0, hq0⟩ : ∃ q, k + ((cntL Part.cnt (l.take i) : Nat) : Int) = q := ⟨_, rfl⟩
    have hpc : l[i].cnt = 2 + (l[i].signs.length) := rfl
    rw [hq0, ← marked_row h]
    have e0 : Go.IntKind.i64.wrap q0 = q0 := Go.IntWalk.i64_in _ (by omega)
    obtain ⟨q1, hq1⟩ : ∃ q, q0 + 1 = q := ⟨_, rfl⟩
    have e1 : Go.IntKind.i64.wrap q1 = q1 := Go.IntWalk.i64_in _ (by omega)
    obtain ⟨q2, hq2⟩ : ∃ q, q1 + 1 = q := ⟨_, rfl⟩
    have e2 : Go.IntKind.i64.wrap q2 = q2 := Go.IntWalk.i64_in _ (by omega)
    obtain ⟨q3, hq3⟩ : ∃ q, q2 + ((l[i].signs.length : Nat) : Int) = q := ⟨_, rfl⟩
    have e3 : Go.IntKind.i64.wrap q3 = q3 := Go.IntWalk.i64_in _ (by omega)
    have e : Go.IntKind.i64.wrap ((i : Int) + 1) = ((i + 1 : Nat) : Int) := i64_suc (by omega)
    refine Ent.open (fun _ h => h) (k := 0) (i := i) (j := 2) (k' := 902) (sz' := 1) (sz := 3) (H := H) (rows := ((marked Part.mark Part.cnt Part.row l k i).set i l[i].row)) (srows := l[i].signs.map intR) (row := l[i].row) (by simp) (by simp [marked_length, h]) rfl (by simp) (by decide) (by simp [intR]) (by simp) (fun H2 => ?_)
    refine Ent.refl ?_
    simp [h, marked_length, Part.row, setC_set, modify_set, hq1, e1, hq2, e2]
    refine ACall.mark (markIntS_c l[i].signs q2 (by omega) (by omega)) rfl (fun _ h => h) (by simp) ?_
    simp [e, hq3]
    refine Ent.close (k := 0) (i := i) (j := 2) (k' := 902) (sz' := 1) (sz := 3) (H := H) (rows := (marked Part.mark Part.cnt Part.row l k i).set i [vi q0, vi q1, .h 902 H2 1 l[i].signs.length]) (row := [vi q0, vi q1, .h 902 H2 1 l[i].signs.length]) (H' := H2) (srows := (markL intM one l[i].signs q2).map intR) (by simp) (by simp [marked_length, h]) (by simp [markL_length]) (by simp) (by decide) (by simp) ?_
    refine Ent.refl ⟨i + 1, by omega, by omega, ?_⟩
    simp [setC_set, hs, hpc]
    refine ⟨by omega, ?_⟩
    refine marked_set h ?_
    rw [hq0]
    subst hq1 hq2 hq3
    rfl
  · have : i = l.length := by omega
    subst this
    refine Ent.refl ?_
    simp [marked_all, markL_length, Part.row]
theorem heldPartS_c (l : List Part) (k : Int) (h0 : 0 ≤ k) (hk : k + cntL Part.cnt l ≤ 4611686018427387904) (hl : nL nPart l ≤ 2 ^ 40) : PureC Tryz.prog 213 [.c (.s ((markL Part.mark Part.cnt l k).map Part.row)), .c (vi k)] (.one (.c (vi (k + cntL Part.cnt l)) 1)) := by
  refine PureC.intro' tt_ok Tryz.func213 (by kernel_rfl) rfl rfl rfl (Nat.le_of_ble_eq_true rfl) (fun w0 base => ?_)
  have hle := nL_len hl
  simp
  refine LoopT.intro eok (fun i : Nat => i ≤ l.length) (fun i => ⟨40, 0, [(5, .v (.int .i64 i)), (1, .v (.int .i64 (k + cntL Part.cnt (l.take i)))), (0, .ro ((markL Part.mark Part.cnt l k).map Part.row))], []⟩) (fun i => l.length - i) 0 (by simp) (by simp [cntL]) (fun i hi => ?_)
  by_cases h : i < l.length
  · have hc := cntL_cell_le (cn := Part.cnt) h
    have hs := cntL_take_suc (cn := Part.cnt) h
    have hni := nL_at hl h
    simp only [nPart] at hni
    have hm := markL_cell (mk := Part.mark) (cn := Part.cnt) (k := k) h
    obtain ⟨q0, hq0⟩ : ∃ q, k + ((cntL Part.cnt (l.take i) : Nat) : Int) = q := ⟨_, rfl⟩
    have hpc : l[i].cnt = 2 + (l[i].signs.length) := rfl
    rw [hq0] at hm
    rw [hq0]
    have z0 : ¬ q0 < 0 := by omega
    have e0 : Go.IntKind.i64.wrap q0 = q0 := Go.IntWalk.i64_in _ (by omega)
    obtain ⟨q1, hq1⟩ : ∃ q, q0 + 1 = q := ⟨_, rfl⟩
    have e1 : Go.IntKind.i64.wrap q1 = q1 := Go.IntWalk.i64_in _ (by omega)
    have z1 : ¬ q1 < 0 := by omega
    obtain ⟨q2, hq2⟩ : ∃ q, q1 + 1 = q := ⟨_, rfl⟩
    have e2 : Go.IntKind.i64.wrap q2 = q2 := Go.IntWalk.i64_in _ (by omega)
    have z2 : ¬ q2 < 0 := by omega
    obtain ⟨q3, hq3⟩ : ∃ q, q2 + ((l[i].signs.length : Nat) : Int) = q := ⟨_, rfl⟩
    have e3 : Go.IntKind.i64.wrap q3 = q3 := Go.IntWalk.i64_in _ (by omega)
    have z3 : ¬ q3 < 0 := by omega
    have e : Go.IntKind.i64.wrap ((i : Int) + 1) = ((i + 1 : Nat) : Int) := i64_suc (by omega)
    simp [h, markL_length, hm, Part.row, Part.mark, hq1, e1, hq2, e2]
    refine ACall.pure (heldIntS_c l[i].signs q2 (by omega) (by omega)) (by simp) ?_
    simp [hq3, z3]
    refine ⟨i + 1, by omega, by omega, ?_⟩
    simp [e, hs, hpc]
    omega
  · have : i = l.length := by omega
    subst this
    simp [markL_length]
end Go.Proofs.YtdfdabjdfmamgaaGreat

namespace Go.Proofs.YtdfdabjdfmamgaaGreat
open Go.AM
set_option maxRecDepth 20000
theorem eqRep_c (x y : Rep) (h : nRep x ≤ 2 ^ 40) : PureC Tryz.prog 180 [.agg x.row, .agg y.row] (.one (.c (vb (x = y)) 1)) := by
  refine PureC.intro' tt_ok Tryz.func180 (by kernel_rfl) rfl rfl rfl (Nat.le_of_ble_eq_true rfl) (fun w0 base => ?_)
  unfold nRep at h
  obtain ⟨a0, a1, a2, a3, a4, a5, a6⟩ := x
  obtain ⟨b0, b1, b2, b3, b4, b5, b6⟩ := y
  simp only at h
  simp [Rep.row]
  try intros
  by_cases h0 : a0 = b0
  rotate_left
  · simp [h0]
  subst h0
  try simp
  by_cases h1 : a1 = b1
  rotate_left
  · simp [h1]
  subst h1
  try simp
  by_cases h2 : a2 = b2
  rotate_left
  · simp [h2]
  subst h2
  try simp
  refine ACall.pure (eqIntS_c a3 b3 (by omega)) (by simp) ?_
  simp
  by_cases h3 : a3 = b3
  rotate_left
  · simp [h3]
  subst h3
  try simp
  by_cases h4 : a4 = b4
  rotate_left
  · simp [h4]
  subst h4
  try simp
  refine ACall.pure (eqPartS_c a5 b5 (by omega)) (by simp) ?_
  simp
  by_cases h5 : a5 = b5
  rotate_left
  · simp [h5]
  subst h5
  try simp
  refine ACall.pure (eqPartS_c a6 b6 (by omega)) (by simp) ?_
  simp
  by_cases h6 : a6 = b6
  rotate_left
  · simp [h6]
  subst h6
  try simp
theorem eqRepS_c (a b : List Rep) (hl : nL nRep a ≤ 2 ^ 40) : PureC Tryz.prog 87 [.c (.s (a.map Rep.row)), .c (.s (b.map Rep.row))] (.one (.c (vb (a = b)) 1)) := by
  refine PureC.intro' tt_ok Tryz.func87 (by kernel_rfl) rfl rfl rfl (Nat.le_of_ble_eq_true rfl) (fun w0 base => ?_)
  have hle := nL_len hl
  by_cases h : a.length = b.length
  · simp [h]
    refine LoopT.intro eok (fun i : Nat => i ≤ a.length ∧ a.take i = b.take i) (fun i => ⟨27, 0, [(5, .v (.int .i64 i)), (1, .ro (b.map Rep.row)), (0, .ro (a.map Rep.row))], []⟩) (fun i => a.length - i) 0 (by simp) (by simp) (fun i hi => ?_)
    by_cases hlt : i < a.length
    · simp [hlt]
      have hlt' : i < b.length := by omega
      refine DrawT.quiet eok mix (by kernel_rfl) ?_
      simp [hlt, hlt', Rep.row]
      refine ⟨_, _, eqRep_c a[i] b[i] (nL_at hl hlt), by simp [Rep.row], ?_⟩
      simp
      refine Br.mk (fun h1 => ?_) (fun h1 => ?_)
      · simp
        exact ⟨i + 1, ⟨by omega, take_next hlt hlt' hi.2 (of_yes h1)⟩, by omega, i64_suc (by omega)⟩
      · simp [dc_no]
        exact ne_at hlt hlt' (of_no h1)
    · simp [hlt, dc_yes]
      exact take_all (by omega) (by omega) hi.2
  · have hz : ¬ (a.length : Int) = b.length := by omega
    simp [hz, dc_no]
    exact fun h2 => absurd (by rw [h2]) h
theorem markRepS_c (l : List Rep) (k : Int) (h0 : 0 ≤ k) (hk : k + cntL Rep.cnt l ≤ 4611686018427387904) (hl : nL nRep l ≤ 2 ^ 40) : MarkC Tryz.prog 159 (.c (.s (l.map Rep.row)) 7) k (k + cntL Rep.cnt l) (.c (.s ((markL Rep.mark Rep.cnt l k).map Rep.row)) 7) := by
  refine MarkC.intro tt_ok Tryz.func159 (by kernel_rfl) rfl rfl rfl (by decide) (fun w0 base => ?_)
  have hle := nL_len hl
  simp
  intro H
  refine LoopT.introG eok (fun i : Nat => i ≤ l.length) (fun i => ⟨64, 0, [(5, .v (.int .i64 i)), (1, .v (.int .i64 (k + cntL Rep.cnt (l.take i)))), (0, .ml 0 H 7 l.length)], [(0, .rows H 7 (marked Rep.mark Rep.cnt Rep.row l k i) true)]⟩) (fun i => l.length - i) 0 (by simp) (by simp [marked_0, cntL]) (fun i hi => ?_)
  by_cases h : i < l.length
  · have hc := cntL_cell_le (cn := Rep.cnt) h
    have hs := cntL_take_suc (cn := Rep.cnt) h
    have hni := nL_at hl h
    simp only [nRep] at hni
    obtain ⟨q0, hq0⟩ : ∃ q, k + ((cntL Rep.cnt (l.take i) : Nat) : Int) = q := ⟨_, rfl⟩
    have hpc : l[i].cnt = 4 + (l[i].text.length + (cntL Part.cnt l[i].sent + (cntL Part.cnt l[i].buf))) := rfl
    rw [hq0, ← marked_row h]
    have e0 : Go.IntKind.i64.wrap q0 = q0 := Go.IntWalk.i64_in _ (by omega)
    obtain ⟨q1, hq1⟩ : ∃ q, q0 + 1 = q := ⟨_, rfl⟩
    have e1 : Go.IntKind.i64.wrap q1 = q1 := Go.IntWalk.i64_in _ (by omega)
    obtain ⟨q2, hq2⟩ : ∃ q, q1 + 1 = q := ⟨_, rfl⟩
    have e2 : Go.IntKind.i64.wrap q2 = q2 := Go.IntWalk.i64_in _ (by omega)
    obtain ⟨q3, hq3⟩ : ∃ q, q2 + 1 = q := ⟨_, rfl⟩
    have e3 : Go.IntKind.i64.wrap q3 = q3 := Go.IntWalk.i64_in _ (by omega)
    obtain ⟨q4, hq4⟩ : ∃ q, q3 + ((l[i].text.length : Nat) : Int) = q := ⟨_, rfl⟩
    have e4 : Go.IntKind.i64.wrap q4 = q4 := Go.IntWalk.i64_in _ (by omega)
    obtain ⟨q5, hq5⟩ : ∃ q, q4 + 1 = q := ⟨_, rfl⟩
    have e5 : Go.IntKind.i64.wrap q5 = q5 := Go.IntWalk.i64_in _ (by omega)
    obtain ⟨q6, hq6⟩ : ∃ q, q5 + ((cntL Part.cnt l[i].sent : Nat) : Int) = q := ⟨_, rfl⟩
    have e6 : Go.IntKind.i64.wrap q6 = q6 := Go.IntWalk.i64_in _ (by omega)
    obtain ⟨q7, hq7⟩ : ∃ q, q6 + ((cntL Part.cnt l[i].buf : Nat) : Int) = q := ⟨_, rfl⟩
    have e7 : Go.IntKind.i64.wrap q7 = q7 := Go.IntWalk.i64_in _ (by omega)
    have e : Go.IntKind.i64.wrap ((i : Int) + 1) = ((i + 1 : Nat) : Int) := i64_suc (by omega)
    refine Ent.open (fun _ h => h) (k := 0) (i := i) (j := 3) (k' := 903) (sz' := 1) (sz := 7) (H := H) (rows := ((marked Rep.mark Rep.cnt Rep.row l k i).set i l[i].row)) (srows := l[i].text.map intR) (row := l[i].row) (by simp) (by simp [marked_length, h]) rfl (by simp) (by decide) (by simp [intR]) (by simp) (fun H3 => ?_)
    refine Ent.open (fun _ h => h) (k := 0) (i := i) (j := 5) (k' := 905) (sz' := 3) (sz := 7) (H := H) (rows := ((marked Rep.mark Rep.cnt Rep.row l k i).set i [vi l[i].client, vi l[i].seq, vi l[i].rev, .h 903 H3 1 l[i].text.length, .v (.bool l[i].has), .s (l[i].sent.map Part.row), .s (l[i].buf.map Part.row)])) (srows := l[i].sent.map Part.row) (row := [vi l[i].client, vi l[i].seq, vi l[i].rev, .h 903 H3 1 l[i].text.length, .v (.bool l[i].has), .s (l[i].sent.map Part.row), .s (l[i].buf.map Part.row)]) (by simp [setC_set, Rep.row]) (by simp [marked_length, h]) rfl (by simp) (by decide) (by simp [Part.row]) (by simp) (fun H5 => ?_)
    refine Ent.open (fun _ h => h) (k := 0) (i := i) (j := 6) (k' := 906) (sz' := 3) (sz := 7) (H := H) (rows := ((marked Rep.mark Rep.cnt Rep.row l k i).set i [vi l[i].client, vi l[i].seq, vi l[i].rev, .h 903 H3 1 l[i].text.length, .v (.bool l[i].has), .h 905 H5 3 l[i].sent.length, .s (l[i].buf.map Part.row)])) (srows := l[i].buf.map Part.row) (row := [vi l[i].client, vi l[i].seq, vi l[i].rev, .h 903 H3 1 l[i].text.length, .v (.bool l[i].has), .h 905 H5 3 l[i].sent.length, .s (l[i].buf.map Part.row)]) (by simp [setC_set, Rep.row]) (by simp [marked_length, h]) rfl (by simp) (by decide) (by simp [Part.row]) (by simp) (fun H6 => ?_)
    refine Ent.refl ?_
    simp [h, marked_length, Rep.row, setC_set, modify_set, hq1, e1, hq2, e2, hq3, e3]
    refine ACall.mark (markIntS_c l[i].text q3 (by omega) (by omega)) rfl (fun _ h => h) (by simp) ?_
    simp [h, marked_length, modify_set, hq4, hq5, e5]
    refine ACall.mark (markPartS_c l[i].sent q5 (by omega) (by omega) (by omega)) rfl (fun _ h => h) (by simp) ?_
    simp [h, marked_length, hq6]
    refine ACall.mark (markPartS_c l[i].buf q6 (by omega) (by omega) (by omega)) rfl (fun _ h => h) (by simp) ?_
    simp [e, hq7]
    refine Ent.close (k := 0) (i := i) (j := 3) (k' := 903) (sz' := 1) (sz := 7) (H := H) (rows := (marked Rep.mark Rep.cnt Rep.row l k i).set i [vi q0, vi q1, vi q2, .h 903 H3 1 l[i].text.length, .v (.bool (markB q4)), .h 905 H5 3 l[i].sent.length, .h 906 H6 3 l[i].buf.length]) (row := [vi q0, vi q1, vi q2, .h 903 H3 1 l[i].text.length, .v (.bool (markB q4)), .h 905 H5 3 l[i].sent.length, .h 906 H6 3 l[i].buf.length]) (H' := H3) (srows := (markL intM one l[i].text q3).map intR) (by simp [markB]) (by simp [marked_length, h]) (by simp [markL_length]) (by simp) (by decide) (by simp) ?_
    refine Ent.close (k := 0) (i := i) (j := 5) (k' := 905) (sz' := 3) (sz := 7) (H := H) (rows := (marked Rep.mark Rep.cnt Rep.row l k i).set i [vi q0, vi q1, vi q2, .s ((markL intM one l[i].text q3).map intR), .v (.bool (markB q4)), .h 905 H5 3 l[i].sent.length, .h 906 H6 3 l[i].buf.length]) (row := [vi q0, vi q1, vi q2, .s ((markL intM one l[i].text q3).map intR), .v (.bool (markB q4)), .h 905 H5 3 l[i].sent.length, .h 906 H6 3 l[i].buf.length]) (H' := H5) (srows := (markL Part.mark Part.cnt l[i].sent q5).map Part.row) (by simp [setC_set, markB]) (by simp [marked_length, h]) (by simp [markL_length]) (by simp) (by decide) (by simp) ?_
    refine Ent.close (k := 0) (i := i) (j := 6) (k' := 906) (sz' := 3) (sz := 7) (H := H) (rows := (marked Rep.mark Rep.cnt Rep.row l k i).set i [vi q0, vi q1, vi q2, .s ((markL intM one l[i].text q3).map intR), .v (.bool (markB q4)), .s ((markL Part.mark Part.cnt l[i].sent q5).map Part.row), .h 906 H6 3 l[i].buf.length]) (row := [vi q0, vi q1, vi q2, .s ((markL intM one l[i].text q3).map intR), .v (.bool (markB q4)), .s ((markL Part.mark Part.cnt l[i].sent q5).map Part.row), .h 906 H6 3 l[i].buf.length]) (H' := H6) (srows := (markL Part.mark Part.cnt l[i].buf q6).map Part.row) (by simp [setC_set, markB]) (by simp [marked_length, h]) (by simp [markL_length]) (by simp) (by decide) (by simp) ?_
    refine Ent.refl ⟨i + 1, by omega, by omega, ?_⟩
    simp [setC_set, hs, hpc]
    refine ⟨by omega, ?_⟩
    refine marked_set h ?_
    rw [hq0]
    subst hq1 hq2 hq3 hq4 hq5 hq6 hq7
    rfl
  · have : i = l.length := by omega
    subst this
    refine Ent.refl ?_
    simp [marked_all, markL_length, Rep.row]
theorem heldRepS_c (l : List Rep) (k : Int) (h0 : 0 ≤ k) (hk : k + cntL Rep.cnt l ≤ 4611686018427387904) (hl : nL nRep l ≤ 2 ^ 40) : PureC Tryz.prog 161 [.c (.s ((markL Rep.mark Rep.cnt l k).map Rep.row)), .c (vi k)] (.one (.c (vi (k + cntL Rep.cnt l)) 1)) := by
  refine PureC.intro' tt_ok Tryz.func161 (by kernel_rfl) rfl rfl rfl (Nat.le_of_ble_eq_true rfl) (fun w0 base => ?_)
  have hle := nL_len hl
  simp
  refine LoopT.intro eok (fun i : Nat => i ≤ l.length) (fun i => ⟨78, 0, [(5, .v (.int .i64 i)), (1, .v (.int .i64 (k + cntL Rep.cnt (l.take i)))), (0, .ro ((markL Rep.mark Rep.cnt l k).map Rep.row))], []⟩) (fun i => l.length - i) 0 (by simp) (by simp [cntL]) (fun i hi => ?_)
  by_cases h : i < l.length
  · have hc := cntL_cell_le (cn := Rep.cnt) h
    have hs := cntL_take_suc (cn := Rep.cnt) h
    have hni := nL_at hl h
    simp only [nRep] at hni
    have hm := markL_cell (mk := Rep.mark) (cn := Rep.cnt) (k := k) h
    obtain ⟨q0, hq0⟩ : ∃ q, k + ((cntL Rep.cnt (l.take i) : Nat) : Int) = q := ⟨_, rfl⟩
    have hpc : l[i].cnt = 4 + (l[i].text.length + (cntL Part.cnt l[i].sent + (cntL Part.cnt l[i].buf))) := rfl
    rw [hq0] at hm
    rw [hq0]
    have z0 : ¬ q0 < 0 := by omega
    have e0 : Go.IntKind.i64.wrap q0 = q0 := Go.IntWalk.i64_in _ (by omega)
    obtain ⟨q1, hq1⟩ : ∃ q, q0 + 1 = q := ⟨_, rfl⟩
    have e1 : Go.IntKind.i64.wrap q1 = q1 := Go.IntWalk.i64_in _ (by omega)
    have z1 : ¬ q1 < 0 := by omega
    obtain ⟨q2, hq2⟩ : ∃ q, q1 + 1 = q := ⟨_, rfl⟩
    have e2 : Go.IntKind.i64.wrap q2 = q2 := Go.IntWalk.i64_in _ (by omega)
    have z2 : ¬ q2 < 0 := by omega
    obtain ⟨q3, hq3⟩ : ∃ q, q2 + 1 = q := ⟨_, rfl⟩
    have e3 : Go.IntKind.i64.wrap q3 = q3 := Go.IntWalk.i64_in _ (by omega)
    have z3 : ¬ q3 < 0 := by omega
    obtain ⟨q4, hq4⟩ : ∃ q, q3 + ((l[i].text.length : Nat) : Int) = q := ⟨_, rfl⟩
    have e4 : Go.IntKind.i64.wrap q4 = q4 := Go.IntWalk.i64_in _ (by omega)
    have z4 : ¬ q4 < 0 := by omega
    obtain ⟨q5, hq5⟩ : ∃ q, q4 + 1 = q := ⟨_, rfl⟩
    have e5 : Go.IntKind.i64.wrap q5 = q5 := Go.IntWalk.i64_in _ (by omega)
    have z5 : ¬ q5 < 0 := by omega
    obtain ⟨q6, hq6⟩ : ∃ q, q5 + ((cntL Part.cnt l[i].sent : Nat) : Int) = q := ⟨_, rfl⟩
    have e6 : Go.IntKind.i64.wrap q6 = q6 := Go.IntWalk.i64_in _ (by omega)
    have z6 : ¬ q6 < 0 := by omega
    obtain ⟨q7, hq7⟩ : ∃ q, q6 + ((cntL Part.cnt l[i].buf : Nat) : Int) = q := ⟨_, rfl⟩
    have e7 : Go.IntKind.i64.wrap q7 = q7 := Go.IntWalk.i64_in _ (by omega)
    have z7 : ¬ q7 < 0 := by omega
    have e : Go.IntKind.i64.wrap ((i : Int) + 1) = ((i + 1 : Nat) : Int) := i64_suc (by omega)
    simp [h, markL_length, hm, Rep.row, Rep.mark, hq1, e1, hq2, e2, hq3, e3, hq4, hq5, hq6, markB]
    refine ACall.pure (heldIntS_c l[i].text q3 (by omega) (by omega)) (by simp) ?_
    simp [h, markL_length, hm, Rep.row, Rep.mark, hq1, hq2, hq3, hq4, z4, hq5, e5, hq6, markB]
    refine ACall.pure (heldPartS_c l[i].sent q5 (by omega) (by omega) (by omega)) (by simp) ?_
    simp [h, markL_length, hm, Rep.row, Rep.mark, hq1, hq2, hq3, hq4, hq5, hq6, z6, markB]
    refine ACall.pure (heldPartS_c l[i].buf q6 (by omega) (by omega) (by omega)) (by simp) ?_
    simp [hq7, z7]
    refine ⟨i + 1, by omega, by omega, ?_⟩
    simp [e, hs, hpc]
    omega
  · have : i = l.length := by omega
    subst this
    simp [markL_length]
end Go.Proofs.YtdfdabjdfmamgaaGreat

namespace Go.Proofs.YtdfdabjdfmamgaaGreat
open Go.AM
set_option maxRecDepth 20000
theorem eqEntry_c (x y : Entry) (h : nEntry x ≤ 2 ^ 40) : PureC Tryz.prog 265 [.agg x.row, .agg y.row] (.one (.c (vb (x = y)) 1)) := by
  refine PureC.intro' tt_ok Tryz.func265 (by kernel_rfl) rfl rfl rfl (Nat.le_of_ble_eq_true rfl) (fun w0 base => ?_)
  unfold nEntry at h
  obtain ⟨a0, a1, a2⟩ := x
  obtain ⟨b0, b1, b2⟩ := y
  simp only at h
  simp [Entry.row]
  try intros
  by_cases h0 : a0 = b0
  rotate_left
  · simp [h0]
  subst h0
  try simp
  by_cases h1 : a1 = b1
  rotate_left
  · simp [h1]
  subst h1
  try simp
  refine ACall.pure (eqPartS_c a2 b2 (by omega)) (by simp) ?_
  simp
  by_cases h2 : a2 = b2
  rotate_left
  · simp [h2]
  subst h2
  try simp
theorem eqEntryS_c (a b : List Entry) (hl : nL nEntry a ≤ 2 ^ 40) : PureC Tryz.prog 178 [.c (.s (a.map Entry.row)), .c (.s (b.map Entry.row))] (.one (.c (vb (a = b)) 1)) := by
  refine PureC.intro' tt_ok Tryz.func178 (by kernel_rfl) rfl rfl rfl (Nat.le_of_ble_eq_true rfl) (fun w0 base => ?_)
  have hle := nL_len hl
  by_cases h : a.length = b.length
  · simp [h]
    refine LoopT.intro eok (fun i : Nat => i ≤ a.length ∧ a.take i = b.take i) (fun i => ⟨27, 0, [(5, .v (.int .i64 i)), (1, .ro (b.map Entry.row)), (0, .ro (a.map Entry.row))], []⟩) (fun i => a.length - i) 0 (by simp) (by simp) (fun i hi => ?_)
    by_cases hlt : i < a.length
    · simp [hlt]
      have hlt' : i < b.length := by omega
      refine DrawT.quiet eok mix (by kernel_rfl) ?_
      simp [hlt, hlt', Entry.row]
      refine ⟨_, _, eqEntry_c a[i] b[i] (nL_at hl hlt), by simp [Entry.row], ?_⟩
      simp
      refine Br.mk (fun h1 => ?_) (fun h1 => ?_)
      · simp
        exact ⟨i + 1, ⟨by omega, take_next hlt hlt' hi.2 (of_yes h1)⟩, by omega, i64_suc (by omega)⟩
      · simp [dc_no]
        exact ne_at hlt hlt' (of_no h1)
    · simp [hlt, dc_yes]
      exact take_all (by omega) (by omega) hi.2
  · have hz : ¬ (a.length : Int) = b.length := by omega
    simp [hz, dc_no]
    exact fun h2 => absurd (by rw [h2]) h
theorem markEntryS_c (l : List Entry) (k : Int) (h0 : 0 ≤ k) (hk : k + cntL Entry.cnt l ≤ 4611686018427387904) (hl : nL nEntry l ≤ 2 ^ 40) : MarkC Tryz.prog 211 (.c (.s (l.map Entry.row)) 3) k (k + cntL Entry.cnt l) (.c (.s ((markL Entry.mark Entry.cnt l k).map Entry.row)) 3) := by
  refine MarkC.intro tt_ok Tryz.func211 (by kernel_rfl) rfl rfl rfl (by decide) (fun w0 base => ?_)
  have hle := nL_len hl
  simp
  intro H
  refine LoopT.introG eok (fun i : Nat => i ≤ l.length) (fun i => ⟨34, 0, [(5, .v (.int .i64 i)), (1, .v (.int .i64 (k + cntL Entry.cnt (l.take i)))), (0, .ml 0 H 3 l.length)], [(0, .rows H 3 (marked Entry.mark Entry.cnt Entry.row l k i) true)]⟩) (fun i => l.length - i) 0 (by simp) (by simp [marked_0, cntL]) (fun i hi => ?_)
  by_cases h : i < l.length
  · have hc := cntL_cell_le (cn := Entry.cnt) h
    have hs := cntL_take_suc (cn := Entry.cnt) h
    have hni := nL_at hl h
    simp only [nEntry] at hni
    obtain ⟨q0, hq0⟩ : ∃ q, k + ((cntL Entry.cnt (l.take i) : Nat) : Int) = q := ⟨_, rfl⟩
    have hpc : l[i].cnt = 2 + (cntL Part.cnt l[i].o) := rfl
    rw [hq0, ← marked_row h]
    have e0 : Go.IntKind.i64.wrap q0 = q0 := Go.IntWalk.i64_in _ (by omega)
    obtain ⟨q1, hq1⟩ : ∃ q, q0 + 1 = q := ⟨_, rfl⟩
    have e1 : Go.IntKind.i64.wrap q1 = q1 := Go.IntWalk.i64_in _ (by omega)
    obtain ⟨q2, hq2⟩ : ∃ q, q1 + 1 = q := ⟨_, rfl⟩
    have e2 : Go.IntKind.i64.wrap q2 = q2 := Go.IntWalk.i64_in _ (by omega)
    obtain ⟨q3, hq3⟩ : ∃ q, q2 + ((cntL Part.cnt l[i].o : Nat) : Int) = q := ⟨_, rfl⟩
    have e3 : Go.IntKind.i64.wrap q3 = q3 := Go.IntWalk.i64_in _ (by omega)
    have e : Go.IntKind.i64.wrap ((i : Int) + 1) = ((i + 1 : Nat) : Int) := i64_suc (by omega)
    refine Ent.open (fun _ h => h) (k := 0) (i := i) (j := 2) (k' := 902) (sz' := 3) (sz := 3) (H := H) (rows := ((marked Entry.mark Entry.cnt Entry.row l k i).set i l[i].row)) (srows := l[i].o.map Part.row) (row := l[i].row) (by simp) (by simp [marked_length, h]) rfl (by simp) (by decide) (by simp [Part.row]) (by simp) (fun H2 => ?_)
    refine Ent.refl ?_
    simp [h, marked_length, Entry.row, setC_set, modify_set, hq1, e1, hq2, e2]
    refine ACall.mark (markPartS_c l[i].o q2 (by omega) (by omega) (by omega)) rfl (fun _ h => h) (by simp) ?_
    simp [e, hq3]
    refine Ent.close (k := 0) (i := i) (j := 2) (k' := 902) (sz' := 3) (sz := 3) (H := H) (rows := (marked Entry.mark Entry.cnt Entry.row l k i).set i [vi q0, vi q1, .h 902 H2 3 l[i].o.length]) (row := [vi q0, vi q1, .h 902 H2 3 l[i].o.length]) (H' := H2) (srows := (markL Part.mark Part.cnt l[i].o q2).map Part.row) (by simp) (by simp [marked_length, h]) (by simp [markL_length]) (by simp) (by decide) (by simp) ?_
    refine Ent.refl ⟨i + 1, by omega, by omega, ?_⟩
    simp [setC_set, hs, hpc]
    refine ⟨by omega, ?_⟩
    refine marked_set h ?_
    rw [hq0]
    subst hq1 hq2 hq3
    rfl
  · have : i = l.length := by omega
    subst this
    refine Ent.refl ?_
    simp [marked_all, markL_length, Entry.row]
theorem heldEntryS_c (l : List Entry) (k : Int) (h0 : 0 ≤ k) (hk : k + cntL Entry.cnt l ≤ 4611686018427387904) (hl : nL nEntry l ≤ 2 ^ 40) : PureC Tryz.prog 214 [.c (.s ((markL Entry.mark Entry.cnt l k).map Entry.row)), .c (vi k)] (.one (.c (vi (k + cntL Entry.cnt l)) 1)) := by
  refine PureC.intro' tt_ok Tryz.func214 (by kernel_rfl) rfl rfl rfl (Nat.le_of_ble_eq_true rfl) (fun w0 base => ?_)
  have hle := nL_len hl
  simp
  refine LoopT.intro eok (fun i : Nat => i ≤ l.length) (fun i => ⟨40, 0, [(5, .v (.int .i64 i)), (1, .v (.int .i64 (k + cntL Entry.cnt (l.take i)))), (0, .ro ((markL Entry.mark Entry.cnt l k).map Entry.row))], []⟩) (fun i => l.length - i) 0 (by simp) (by simp [cntL]) (fun i hi => ?_)
  by_cases h : i < l.length
  · have hc := cntL_cell_le (cn := Entry.cnt) h
    have hs := cntL_take_suc (cn := Entry.cnt) h
    have hni := nL_at hl h
    simp only [nEntry] at hni
    have hm := markL_cell (mk := Entry.mark) (cn := Entry.cnt) (k := k) h
    obtain ⟨q0, hq0⟩ : ∃ q, k + ((cntL Entry.cnt (l.take i) : Nat) : Int) = q := ⟨_, rfl⟩
    have hpc : l[i].cnt = 2 + (cntL Part.cnt l[i].o) := rfl
    rw [hq0] at hm
    rw [hq0]
    have z0 : ¬ q0 < 0 := by omega
    have e0 : Go.IntKind.i64.wrap q0 = q0 := Go.IntWalk.i64_in _ (by omega)
    obtain ⟨q1, hq1⟩ : ∃ q, q0 + 1 = q := ⟨_, rfl⟩
    have e1 : Go.IntKind.i64.wrap q1 = q1 := Go.IntWalk.i64_in _ (by omega)
    have z1 : ¬ q1 < 0 := by omega
    obtain ⟨q2, hq2⟩ : ∃ q, q1 + 1 = q := ⟨_, rfl⟩
    have e2 : Go.IntKind.i64.wrap q2 = q2 := Go.IntWalk.i64_in _ (by omega)
    have z2 : ¬ q2 < 0 := by omega
    obtain ⟨q3, hq3⟩ : ∃ q, q2 + ((cntL Part.cnt l[i].o : Nat) : Int) = q := ⟨_, rfl⟩
    have e3 : Go.IntKind.i64.wrap q3 = q3 := Go.IntWalk.i64_in _ (by omega)
    have z3 : ¬ q3 < 0 := by omega
    have e : Go.IntKind.i64.wrap ((i : Int) + 1) = ((i + 1 : Nat) : Int) := i64_suc (by omega)
    simp [h, markL_length, hm, Entry.row, Entry.mark, hq1, e1, hq2, e2]
    refine ACall.pure (heldPartS_c l[i].o q2 (by omega) (by omega) (by omega)) (by simp) ?_
    simp [hq3, z3]
    refine ⟨i + 1, by omega, by omega, ?_⟩
    simp [e, hs, hpc]
    omega
  · have : i = l.length := by omega
    subst this
    simp [markL_length]
end Go.Proofs.YtdfdabjdfmamgaaGreat

namespace Go.Proofs.YtdfdabjdfmamgaaGreat
open Go.AM
set_option maxRecDepth 20000

def digAcc (k : Nat) (out : List UInt8) : List UInt8 := if h : k = 0 then out else digAcc (k / 10) (UInt8.ofNat (48 + k % 10) :: out)
termination_by k
decreasing_by omega
theorem digAcc_zero {out : List UInt8} : digAcc 0 out = out := by rw [digAcc]; simp
theorem digAcc_pos {k : Nat} {out : List UInt8} (h : k ≠ 0) : digAcc k out = digAcc (k / 10) (UInt8.ofNat (48 + k % 10) :: out) := by rw [digAcc]; simp [h]
theorem digs_acc : ∀ (k : Nat) (out : List UInt8), 0 < k → digAcc k out = digs k ++ out := by
  intro k
  induction k using Nat.strongRecOn with
  | _ k ih =>
    intro out hk
    rw [digAcc_pos (by omega), digs]
    by_cases h : k < 10
    · rw [show k / 10 = 0 by omega, digAcc_zero]
      simp [h, Nat.mod_eq_of_lt h]
    · rw [ih (k / 10) (by omega) _ (by omega)]
      simp [h]
theorem bytes_append (a b : List UInt8) : (⟨a.toArray⟩ ++ ⟨b.toArray⟩ : ByteArray) = ⟨(a ++ b).toArray⟩ := by
  apply ByteArray.ext
  rw [ByteArray.data_append]
  simp
theorem pow_bound {n : Nat} (h : 10 ^ n ≤ 4611686018427387904) : n ≤ 18 := by
  rcases Nat.lt_or_ge 18 n with hn | hn
  · have := Nat.pow_le_pow_right (n := 10) (by omega) (show 19 ≤ n from hn)
    omega
  · exact hn
theorem markText_c (k : Int) (h0 : 0 ≤ k) (hk : k ≤ 4611686018427387904) : PureC Tryz.prog 129 [.c (vi k)] (.one (.c (.v (.string (markT k))) 1)) := by
  refine PureC.intro' tt_ok Tryz.func129 (by kernel_rfl) rfl rfl rfl (Nat.le_of_ble_eq_true rfl) (fun w0 base => ?_)
  obtain ⟨n, rfl⟩ : ∃ n : Nat, k = n := ⟨k.toNat, by omega⟩
  by_cases hz : n = 0
  · subst hz
    have e : markT 0 = ⟨#[109, 48]⟩ := by unfold markT; rw [digs]; simp
    simp [e]
  have hz' : ¬ (n : Int) ≤ 0 := by omega
  simp [hz]
  refine LoopT.intro eok (fun x : Nat × List UInt8 => digAcc x.1 x.2 = digs n ∧ x.2.length ≤ 19 ∧ x.1 * 10 ^ x.2.length ≤ 4611686018427387904) (fun x => ⟨20, 0, [(0, .v (.int .i64 x.1)), (3, .v (.string ⟨x.2.toArray⟩))], []⟩) (fun x => x.1) (n, []) ⟨by rw [digs_acc n [] (by omega)]; simp, by simp, by simp; omega⟩ (by simp) (fun x hi => ?_)
  obtain ⟨m, out⟩ := x
  obtain ⟨hi, hl, hp⟩ := hi
  simp only at hi hl hp ⊢
  by_cases hm : m = 0
  · subst hm
    rw [digAcc_zero] at hi
    have hs : (⟨#[109]⟩ ++ ⟨out.toArray⟩ : ByteArray) = markT n := by
      rw [show (⟨#[109]⟩ : ByteArray) = ⟨[109].toArray⟩ from rfl, bytes_append, hi]
      rfl
    have hsz : (⟨out.toArray⟩ : ByteArray).size = out.length := by simp [ByteArray.size]
    have hs1 : (⟨#[109]⟩ : ByteArray).size = 1 := rfl
    simp [hs, hsz, hs1]
    omega
  · have hm' : 0 < m := by omega
    have hpow : 10 ^ out.length ≤ 4611686018427387904 := Nat.le_trans (Nat.le_mul_of_pos_left _ hm') hp
    have hlen := pow_bound hpow
    have hmN : m ≤ 4611686018427387904 := Nat.le_trans (Nat.le_mul_of_pos_right _ (Nat.pow_pos (by omega))) hp
    have e2 : Go.IntKind.i64.wrap (48 + (m : Int) % 10) = 48 + (m : Int) % 10 := Go.IntWalk.i64_in _ (by omega)
    have e3 : Go.IntKind.u8.wrap (48 + (m : Int) % 10) = 48 + (m : Int) % 10 := Go.IntWalk.u8_in _ (by omega)
    have e4 : Go.IntKind.i64.wrap ((m : Int) / 10) = ((m / 10 : Nat) : Int) := by rw [Go.IntWalk.i64_in _ (by omega)]; omega
    rw [digAcc_pos hm] at hi
    have hb : ((UInt8.ofNat (48 + m % 10)).toNat : Int) = 48 + (m : Int) % 10 := by simp; omega
    have hsz : (⟨out.toArray⟩ : ByteArray).size = out.length := by simp [ByteArray.size]
    simp [hm', e4]
    refine ⟨[UInt8.ofNat (48 + m % 10)], by simp only [List.map_cons, List.map_nil, byteRow, hb]; rw [Int.tmod_eq_emod_of_nonneg (by omega), e2, e3], ?_, m / 10, UInt8.ofNat (48 + m % 10) :: out, ⟨hi, by simp; omega, ?_⟩, by omega, by first | exact e4 | omega | (rw [Int.tdiv_eq_ediv_of_nonneg (by omega)]; exact e4), ?_⟩
    · rw [hsz]; show 1 + out.length ≤ _; omega
    · rw [List.length_cons, Nat.pow_succ]
      have h1 : m / 10 * 10 ≤ m := Nat.div_mul_le_self m 10
      have h2 := Nat.mul_le_mul_right (10 ^ out.length) h1
      have h3 : m / 10 * (10 ^ out.length * 10) = m / 10 * 10 * 10 ^ out.length := by rw [Nat.mul_assoc, Nat.mul_comm 10]
      omega
    · rw [bytes_append]; rfl
end Go.Proofs.YtdfdabjdfmamgaaGreat

namespace Go.Proofs.YtdfdabjdfmamgaaGreat
open Go.AM
set_option maxRecDepth 20000
theorem eqSeen_c (x y : Seen) : PureC Tryz.prog 266 [.agg x.row, .agg y.row] (.one (.c (vb (x = y)) 1)) := by
  refine PureC.intro' tt_ok Tryz.func266 (by kernel_rfl) rfl rfl rfl (Nat.le_of_ble_eq_true rfl) (fun w0 base => ?_)
  obtain ⟨a0, a1, a2⟩ := x
  obtain ⟨b0, b1, b2⟩ := y
  simp [Seen.row]
  try intros
  by_cases h0 : a0 = b0
  rotate_left
  · simp [h0]
  subst h0
  try simp
  by_cases h1 : a1 = b1
  rotate_left
  · simp [h1]
  subst h1
  try simp
  by_cases h2 : a2 = b2
  rotate_left
  · simp [h2]
  subst h2
  try simp
theorem eqSeenS_c (a b : List Seen) (hl : a.length ≤ 2 ^ 40) : PureC Tryz.prog 179 [.c (.s (a.map Seen.row)), .c (.s (b.map Seen.row))] (.one (.c (vb (a = b)) 1)) := by
  refine PureC.intro' tt_ok Tryz.func179 (by kernel_rfl) rfl rfl rfl (Nat.le_of_ble_eq_true rfl) (fun w0 base => ?_)
  by_cases h : a.length = b.length
  · simp [h]
    refine LoopT.intro eok (fun i : Nat => i ≤ a.length ∧ a.take i = b.take i) (fun i => ⟨27, 0, [(5, .v (.int .i64 i)), (1, .ro (b.map Seen.row)), (0, .ro (a.map Seen.row))], []⟩) (fun i => a.length - i) 0 (by simp) (by simp) (fun i hi => ?_)
    by_cases hlt : i < a.length
    · simp [hlt]
      have hlt' : i < b.length := by omega
      refine DrawT.quiet eok mix (by kernel_rfl) ?_
      simp [hlt, hlt', Seen.row]
      refine ⟨_, _, eqSeen_c a[i] b[i], by simp [Seen.row], ?_⟩
      simp
      refine Br.mk (fun h1 => ?_) (fun h1 => ?_)
      · simp
        exact ⟨i + 1, ⟨by omega, take_next hlt hlt' hi.2 (of_yes h1)⟩, by omega, i64_suc (by omega)⟩
      · simp [dc_no]
        exact ne_at hlt hlt' (of_no h1)
    · simp [hlt, dc_yes]
      exact take_all (by omega) (by omega) hi.2
  · have hz : ¬ (a.length : Int) = b.length := by omega
    simp [hz, dc_no]
    exact fun h2 => absurd (by rw [h2]) h
theorem markSeenS_c (l : List Seen) (k : Int) (h0 : 0 ≤ k) (hk : k + cntL Seen.cnt l ≤ 4611686018427387904) (hl : l.length ≤ 2 ^ 40) : MarkC Tryz.prog 212 (.c (.s (l.map Seen.row)) 3) k (k + cntL Seen.cnt l) (.c (.s ((markL Seen.mark Seen.cnt l k).map Seen.row)) 3) := by
  refine MarkC.intro tt_ok Tryz.func212 (by kernel_rfl) rfl rfl rfl (by decide) (fun w0 base => ?_)
  simp
  intro H
  refine LoopT.introG eok (fun i : Nat => i ≤ l.length) (fun i => ⟨34, 0, [(5, .v (.int .i64 i)), (1, .v (.int .i64 (k + cntL Seen.cnt (l.take i)))), (0, .ml 0 H 3 l.length)], [(0, .rows H 3 (marked Seen.mark Seen.cnt Seen.row l k i) true)]⟩) (fun i => l.length - i) 0 (by simp) (by simp [marked_0, cntL]) (fun i hi => ?_)
  by_cases h : i < l.length
  · have hc := cntL_cell_le (cn := Seen.cnt) h
    have hs := cntL_take_suc (cn := Seen.cnt) h
    obtain ⟨q0, hq0⟩ : ∃ q, k + ((cntL Seen.cnt (l.take i) : Nat) : Int) = q := ⟨_, rfl⟩
    have hpc : l[i].cnt = 3 := rfl
    rw [hq0, ← marked_row h]
    have e0 : Go.IntKind.i64.wrap q0 = q0 := Go.IntWalk.i64_in _ (by omega)
    obtain ⟨q1, hq1⟩ : ∃ q, q0 + 1 = q := ⟨_, rfl⟩
    have e1 : Go.IntKind.i64.wrap q1 = q1 := Go.IntWalk.i64_in _ (by omega)
    obtain ⟨q2, hq2⟩ : ∃ q, q1 + 1 = q := ⟨_, rfl⟩
    have e2 : Go.IntKind.i64.wrap q2 = q2 := Go.IntWalk.i64_in _ (by omega)
    obtain ⟨q3, hq3⟩ : ∃ q, q2 + 1 = q := ⟨_, rfl⟩
    have e3 : Go.IntKind.i64.wrap q3 = q3 := Go.IntWalk.i64_in _ (by omega)
    have e : Go.IntKind.i64.wrap ((i : Int) + 1) = ((i + 1 : Nat) : Int) := i64_suc (by omega)
    refine Ent.refl ?_
    simp [h, marked_length, Seen.row, modify_set, hq1, e1, hq2, e2, hq3, e3]
    refine Ent.refl ⟨i + 1, by omega, by omega, ?_⟩
    simp [hs, hpc, e]
    refine ⟨by omega, ?_⟩
    refine marked_set h ?_
    rw [hq0]
    subst hq1 hq2 hq3
    rfl
  · have : i = l.length := by omega
    subst this
    refine Ent.refl ?_
    simp [marked_all, markL_length, Seen.row]
theorem heldSeenS_c (l : List Seen) (k : Int) (h0 : 0 ≤ k) (hk : k + cntL Seen.cnt l ≤ 4611686018427387904) (hl : l.length ≤ 2 ^ 40) : PureC Tryz.prog 250 [.c (.s ((markL Seen.mark Seen.cnt l k).map Seen.row)), .c (vi k)] (.one (.c (vi (k + cntL Seen.cnt l)) 1)) := by
  refine PureC.intro' tt_ok Tryz.func250 (by kernel_rfl) rfl rfl rfl (Nat.le_of_ble_eq_true rfl) (fun w0 base => ?_)
  simp
  refine LoopT.intro eok (fun i : Nat => i ≤ l.length) (fun i => ⟨40, 0, [(5, .v (.int .i64 i)), (1, .v (.int .i64 (k + cntL Seen.cnt (l.take i)))), (0, .ro ((markL Seen.mark Seen.cnt l k).map Seen.row))], []⟩) (fun i => l.length - i) 0 (by simp) (by simp [cntL]) (fun i hi => ?_)
  by_cases h : i < l.length
  · have hc := cntL_cell_le (cn := Seen.cnt) h
    have hs := cntL_take_suc (cn := Seen.cnt) h
    have hm := markL_cell (mk := Seen.mark) (cn := Seen.cnt) (k := k) h
    obtain ⟨q0, hq0⟩ : ∃ q, k + ((cntL Seen.cnt (l.take i) : Nat) : Int) = q := ⟨_, rfl⟩
    have hpc : l[i].cnt = 3 := rfl
    rw [hq0] at hm
    rw [hq0]
    have z0 : ¬ q0 < 0 := by omega
    have e0 : Go.IntKind.i64.wrap q0 = q0 := Go.IntWalk.i64_in _ (by omega)
    obtain ⟨q1, hq1⟩ : ∃ q, q0 + 1 = q := ⟨_, rfl⟩
    have e1 : Go.IntKind.i64.wrap q1 = q1 := Go.IntWalk.i64_in _ (by omega)
    have z1 : ¬ q1 < 0 := by omega
    obtain ⟨q2, hq2⟩ : ∃ q, q1 + 1 = q := ⟨_, rfl⟩
    have e2 : Go.IntKind.i64.wrap q2 = q2 := Go.IntWalk.i64_in _ (by omega)
    have z2 : ¬ q2 < 0 := by omega
    obtain ⟨q3, hq3⟩ : ∃ q, q2 + 1 = q := ⟨_, rfl⟩
    have e3 : Go.IntKind.i64.wrap q3 = q3 := Go.IntWalk.i64_in _ (by omega)
    have z3 : ¬ q3 < 0 := by omega
    have e : Go.IntKind.i64.wrap ((i : Int) + 1) = ((i + 1 : Nat) : Int) := i64_suc (by omega)
    simp [h, markL_length, hm, Seen.row, Seen.mark, hq1, e1, hq2, e2, hq3, e3]
    refine ⟨i + 1, by omega, by omega, ?_⟩
    simp [e, hs, hpc]
    omega
  · have : i = l.length := by omega
    subst this
    simp [markL_length]
end Go.Proofs.YtdfdabjdfmamgaaGreat

namespace Go.Proofs.YtdfdabjdfmamgaaGreat
open Go.AM
set_option maxRecDepth 20000
theorem eqDoc_c (x y : Doc) (h : nDoc x ≤ 2 ^ 40) : PureC Tryz.prog 86 [.agg x.row, .agg y.row] (.one (.c (vb (x = y)) 1)) := by
  refine PureC.intro' tt_ok Tryz.func86 (by kernel_rfl) rfl rfl rfl (Nat.le_of_ble_eq_true rfl) (fun w0 base => ?_)
  unfold nDoc at h
  obtain ⟨a0, a1, a2, a3, a4⟩ := x
  obtain ⟨b0, b1, b2, b3, b4⟩ := y
  simp only at h
  simp [Doc.row]
  try intros
  by_cases h0 : a0 = b0
  rotate_left
  · simp [h0]
  subst h0
  try simp
  by_cases h1 : a1 = b1
  rotate_left
  · simp [h1]
  subst h1
  try simp
  refine ACall.pure (eqIntS_c a2 b2 (by omega)) (by simp) ?_
  simp
  by_cases h2 : a2 = b2
  rotate_left
  · simp [h2]
  subst h2
  try simp
  refine ACall.pure (eqEntryS_c a3 b3 (by omega)) (by simp) ?_
  simp
  by_cases h3 : a3 = b3
  rotate_left
  · simp [h3]
  subst h3
  try simp
  refine ACall.pure (eqSeenS_c a4 b4 (by omega)) (by simp) ?_
  simp
  by_cases h4 : a4 = b4
  rotate_left
  · simp [h4]
  subst h4
  try simp
theorem markDoc_c (x : Doc) (k : Int) (h0 : 0 ≤ k) (hk : k + x.cntT ≤ 4611686018427387904) (hl : nDoc x ≤ 2 ^ 40) : MarkC Tryz.prog 158 (.agg x.res) k (k + x.cntT) (.agg (x.markT k).res) := by
  refine MarkC.intro tt_ok Tryz.func158 (by kernel_rfl) rfl rfl rfl (by decide) (fun w0 base => ?_)
  simp only [Doc.cntT] at hk
  unfold nDoc at hl
  simp [Doc.res]
  try intros
  refine ACall.mark (markIntS_c x.text (k) (by omega) (by omega)) rfl (fun _ h => h) (by simp) ?_
  simp
  refine ACall.mark (markEntryS_c x.list (k + ((x.text.length : Nat) : Int)) (by omega) (by omega) (by omega)) rfl (fun _ h => h) (by simp) ?_
  simp
  refine ACall.mark (markSeenS_c x.seen (k + ((x.text.length : Nat) : Int) + ((cntL Entry.cnt x.list : Nat) : Int)) (by omega) (by omega) (by omega)) rfl (fun _ h => h) (by simp) ?_
  simp
  simp [Doc.markT, Doc.cntT, markL_length]
  try omega
theorem heldDoc_c (x : Doc) (k : Int) (h0 : 0 ≤ k) (hk : k + x.cntT ≤ 4611686018427387904) (hl : nDoc x ≤ 2 ^ 40) : PureC Tryz.prog 160 [.agg (x.markT k).row, .c (vi k)] (.one (.c (vi (k + x.cntT)) 1)) := by
  refine PureC.intro' tt_ok Tryz.func160 (by kernel_rfl) rfl rfl rfl (Nat.le_of_ble_eq_true rfl) (fun w0 base => ?_)
  simp only [Doc.cntT] at hk
  unfold nDoc at hl
  simp [Doc.row, Doc.markT]
  try intros
  refine ACall.pure (heldIntS_c x.text k (by omega) (by omega)) (by simp) ?_
  obtain ⟨q2, hq2⟩ : ∃ q, k + ((x.text.length : Nat) : Int) = q := ⟨_, rfl⟩
  rw [hq2]
  have z2 : ¬ q2 < 0 := by omega
  simp [z2]
  refine ACall.pure (heldEntryS_c x.list q2 (by omega) (by omega) (by omega)) (by simp) ?_
  obtain ⟨q3, hq3⟩ : ∃ q, q2 + ((cntL Entry.cnt x.list : Nat) : Int) = q := ⟨_, rfl⟩
  rw [hq3]
  have z3 : ¬ q3 < 0 := by omega
  simp [z3]
  refine ACall.pure (heldSeenS_c x.seen q3 (by omega) (by omega) (by omega)) (by simp) ?_
  obtain ⟨q4, hq4⟩ : ∃ q, q3 + ((cntL Seen.cnt x.seen : Nat) : Int) = q := ⟨_, rfl⟩
  rw [hq4]
  have z4 : ¬ q4 < 0 := by omega
  simp [z4]
  try (simp only [Doc.cntT]; omega)
theorem eqDocS_c (a b : List Doc) (hl : nL nDoc a ≤ 2 ^ 40) : PureC Tryz.prog 119 [.c (.s (a.map Doc.row)), .c (.s (b.map Doc.row))] (.one (.c (vb (a = b)) 1)) := by
  refine PureC.intro' tt_ok Tryz.func119 (by kernel_rfl) rfl rfl rfl (Nat.le_of_ble_eq_true rfl) (fun w0 base => ?_)
  have hle := nL_len hl
  by_cases h : a.length = b.length
  · simp [h]
    refine LoopT.intro eok (fun i : Nat => i ≤ a.length ∧ a.take i = b.take i) (fun i => ⟨27, 0, [(5, .v (.int .i64 i)), (1, .ro (b.map Doc.row)), (0, .ro (a.map Doc.row))], []⟩) (fun i => a.length - i) 0 (by simp) (by simp) (fun i hi => ?_)
    by_cases hlt : i < a.length
    · simp [hlt]
      have hlt' : i < b.length := by omega
      refine DrawT.quiet eok mix (by kernel_rfl) ?_
      simp [hlt, hlt', Doc.row]
      refine ⟨_, _, eqDoc_c a[i] b[i] (nL_at hl hlt), by simp [Doc.row], ?_⟩
      simp
      refine Br.mk (fun h1 => ?_) (fun h1 => ?_)
      · simp
        exact ⟨i + 1, ⟨by omega, take_next hlt hlt' hi.2 (of_yes h1)⟩, by omega, i64_suc (by omega)⟩
      · simp [dc_no]
        exact ne_at hlt hlt' (of_no h1)
    · simp [hlt, dc_yes]
      exact take_all (by omega) (by omega) hi.2
  · have hz : ¬ (a.length : Int) = b.length := by omega
    simp [hz, dc_no]
    exact fun h2 => absurd (by rw [h2]) h
theorem markDocS_c (l : List Doc) (k : Int) (h0 : 0 ≤ k) (hk : k + cntL Doc.cnt l ≤ 4611686018427387904) (hl : nL nDoc l ≤ 2 ^ 40) : MarkC Tryz.prog 121 (.c (.s (l.map Doc.row)) 5) k (k + cntL Doc.cnt l) (.c (.s ((markL Doc.mark Doc.cnt l k).map Doc.row)) 5) := by
  refine MarkC.intro tt_ok Tryz.func121 (by kernel_rfl) rfl rfl rfl (by decide) (fun w0 base => ?_)
  have hle := nL_len hl
  simp
  intro H
  refine LoopT.introG eok (fun i : Nat => i ≤ l.length) (fun i => ⟨49, 0, [(5, .v (.int .i64 i)), (1, .v (.int .i64 (k + cntL Doc.cnt (l.take i)))), (0, .ml 0 H 5 l.length)], [(0, .rows H 5 (marked Doc.mark Doc.cnt Doc.row l k i) true)]⟩) (fun i => l.length - i) 0 (by simp) (by simp [marked_0, cntL]) (fun i hi => ?_)
  by_cases h : i < l.length
  · have hc := cntL_cell_le (cn := Doc.cnt) h
    have hs := cntL_take_suc (cn := Doc.cnt) h
    have hni := nL_at hl h
    simp only [nDoc] at hni
    obtain ⟨q0, hq0⟩ : ∃ q, k + ((cntL Doc.cnt (l.take i) : Nat) : Int) = q := ⟨_, rfl⟩
    have hpc : l[i].cnt = 2 + (l[i].text.length + (cntL Entry.cnt l[i].list + (cntL Seen.cnt l[i].seen))) := rfl
    rw [hq0, ← marked_row h]
    have e0 : Go.IntKind.i64.wrap q0 = q0 := Go.IntWalk.i64_in _ (by omega)
    obtain ⟨q1, hq1⟩ : ∃ q, q0 + 1 = q := ⟨_, rfl⟩
    have e1 : Go.IntKind.i64.wrap q1 = q1 := Go.IntWalk.i64_in _ (by omega)
    obtain ⟨q2, hq2⟩ : ∃ q, q1 + 1 = q := ⟨_, rfl⟩
    have e2 : Go.IntKind.i64.wrap q2 = q2 := Go.IntWalk.i64_in _ (by omega)
    obtain ⟨q3, hq3⟩ : ∃ q, q2 + ((l[i].text.length : Nat) : Int) = q := ⟨_, rfl⟩
    have e3 : Go.IntKind.i64.wrap q3 = q3 := Go.IntWalk.i64_in _ (by omega)
    obtain ⟨q4, hq4⟩ : ∃ q, q3 + ((cntL Entry.cnt l[i].list : Nat) : Int) = q := ⟨_, rfl⟩
    have e4 : Go.IntKind.i64.wrap q4 = q4 := Go.IntWalk.i64_in _ (by omega)
    obtain ⟨q5, hq5⟩ : ∃ q, q4 + ((cntL Seen.cnt l[i].seen : Nat) : Int) = q := ⟨_, rfl⟩
    have e5 : Go.IntKind.i64.wrap q5 = q5 := Go.IntWalk.i64_in _ (by omega)
    have e : Go.IntKind.i64.wrap ((i : Int) + 1) = ((i + 1 : Nat) : Int) := i64_suc (by omega)
    refine Ent.open (fun _ h => h) (k := 0) (i := i) (j := 2) (k' := 902) (sz' := 1) (sz := 5) (H := H) (rows := ((marked Doc.mark Doc.cnt Doc.row l k i).set i l[i].row)) (srows := l[i].text.map intR) (row := l[i].row) (by simp) (by simp [marked_length, h]) rfl (by simp) (by decide) (by simp [intR]) (by simp) (fun H2 => ?_)
    refine Ent.open (fun _ h => h) (k := 0) (i := i) (j := 3) (k' := 903) (sz' := 3) (sz := 5) (H := H) (rows := ((marked Doc.mark Doc.cnt Doc.row l k i).set i [.v (.string l[i].name), vi l[i].fr, .h 902 H2 1 l[i].text.length, .s (l[i].list.map Entry.row), .s (l[i].seen.map Seen.row)])) (srows := l[i].list.map Entry.row) (row := [.v (.string l[i].name), vi l[i].fr, .h 902 H2 1 l[i].text.length, .s (l[i].list.map Entry.row), .s (l[i].seen.map Seen.row)]) (by simp [setC_set, Doc.row]) (by simp [marked_length, h]) rfl (by simp) (by decide) (by simp [Entry.row]) (by simp) (fun H3 => ?_)
    refine Ent.open (fun _ h => h) (k := 0) (i := i) (j := 4) (k' := 904) (sz' := 3) (sz := 5) (H := H) (rows := ((marked Doc.mark Doc.cnt Doc.row l k i).set i [.v (.string l[i].name), vi l[i].fr, .h 902 H2 1 l[i].text.length, .h 903 H3 3 l[i].list.length, .s (l[i].seen.map Seen.row)])) (srows := l[i].seen.map Seen.row) (row := [.v (.string l[i].name), vi l[i].fr, .h 902 H2 1 l[i].text.length, .h 903 H3 3 l[i].list.length, .s (l[i].seen.map Seen.row)]) (by simp [setC_set, Doc.row]) (by simp [marked_length, h]) rfl (by simp) (by decide) (by simp [Seen.row]) (by simp) (fun H4 => ?_)
    refine Ent.refl ?_
    simp [h, Doc.row, setC_set]
    refine ACall.pure (markText_c q0 (by omega) (by omega)) (by simp) ?_
    simp [h, marked_length, modify_set, hq1, e1, hq2, e2]
    refine ACall.mark (markIntS_c l[i].text q2 (by omega) (by omega)) rfl (fun _ h => h) (by simp) ?_
    simp [h, marked_length, hq3]
    refine ACall.mark (markEntryS_c l[i].list q3 (by omega) (by omega) (by omega)) rfl (fun _ h => h) (by simp) ?_
    simp [h, marked_length, hq4]
    refine ACall.mark (markSeenS_c l[i].seen q4 (by omega) (by omega) (by omega)) rfl (fun _ h => h) (by simp) ?_
    simp [e, hq5]
    refine Ent.close (k := 0) (i := i) (j := 2) (k' := 902) (sz' := 1) (sz := 5) (H := H) (rows := (marked Doc.mark Doc.cnt Doc.row l k i).set i [.v (.string (markT q0)), vi q1, .h 902 H2 1 l[i].text.length, .h 903 H3 3 l[i].list.length, .h 904 H4 3 l[i].seen.length]) (row := [.v (.string (markT q0)), vi q1, .h 902 H2 1 l[i].text.length, .h 903 H3 3 l[i].list.length, .h 904 H4 3 l[i].seen.length]) (H' := H2) (srows := (markL intM one l[i].text q2).map intR) (by simp) (by simp [marked_length, h]) (by simp [markL_length]) (by simp) (by decide) (by simp) ?_
    refine Ent.close (k := 0) (i := i) (j := 3) (k' := 903) (sz' := 3) (sz := 5) (H := H) (rows := (marked Doc.mark Doc.cnt Doc.row l k i).set i [.v (.string (markT q0)), vi q1, .s ((markL intM one l[i].text q2).map intR), .h 903 H3 3 l[i].list.length, .h 904 H4 3 l[i].seen.length]) (row := [.v (.string (markT q0)), vi q1, .s ((markL intM one l[i].text q2).map intR), .h 903 H3 3 l[i].list.length, .h 904 H4 3 l[i].seen.length]) (H' := H3) (srows := (markL Entry.mark Entry.cnt l[i].list q3).map Entry.row) (by simp [setC_set]) (by simp [marked_length, h]) (by simp [markL_length]) (by simp) (by decide) (by simp) ?_
    refine Ent.close (k := 0) (i := i) (j := 4) (k' := 904) (sz' := 3) (sz := 5) (H := H) (rows := (marked Doc.mark Doc.cnt Doc.row l k i).set i [.v (.string (markT q0)), vi q1, .s ((markL intM one l[i].text q2).map intR), .s ((markL Entry.mark Entry.cnt l[i].list q3).map Entry.row), .h 904 H4 3 l[i].seen.length]) (row := [.v (.string (markT q0)), vi q1, .s ((markL intM one l[i].text q2).map intR), .s ((markL Entry.mark Entry.cnt l[i].list q3).map Entry.row), .h 904 H4 3 l[i].seen.length]) (H' := H4) (srows := (markL Seen.mark Seen.cnt l[i].seen q4).map Seen.row) (by simp [setC_set]) (by simp [marked_length, h]) (by simp [markL_length]) (by simp) (by decide) (by simp) ?_
    refine Ent.refl ⟨i + 1, by omega, by omega, ?_⟩
    simp [setC_set, hs, hpc]
    refine ⟨by omega, ?_⟩
    refine marked_set h ?_
    rw [hq0]
    subst hq1 hq2 hq3 hq4 hq5
    rfl
  · have : i = l.length := by omega
    subst this
    refine Ent.refl ?_
    simp [marked_all, markL_length, Doc.row]
theorem heldDocS_c (l : List Doc) (k : Int) (h0 : 0 ≤ k) (hk : k + cntL Doc.cnt l ≤ 4611686018427387904) (hl : nL nDoc l ≤ 2 ^ 40) : PureC Tryz.prog 183 [.c (.s ((markL Doc.mark Doc.cnt l k).map Doc.row)), .c (vi k)] (.one (.c (vi (k + cntL Doc.cnt l)) 1)) := by
  refine PureC.intro' tt_ok Tryz.func183 (by kernel_rfl) rfl rfl rfl (Nat.le_of_ble_eq_true rfl) (fun w0 base => ?_)
  have hle := nL_len hl
  simp
  refine LoopT.intro eok (fun i : Nat => i ≤ l.length) (fun i => ⟨59, 0, [(5, .v (.int .i64 i)), (1, .v (.int .i64 (k + cntL Doc.cnt (l.take i)))), (0, .ro ((markL Doc.mark Doc.cnt l k).map Doc.row))], []⟩) (fun i => l.length - i) 0 (by simp) (by simp [cntL]) (fun i hi => ?_)
  by_cases h : i < l.length
  · have hc := cntL_cell_le (cn := Doc.cnt) h
    have hs := cntL_take_suc (cn := Doc.cnt) h
    have hni := nL_at hl h
    simp only [nDoc] at hni
    have hm := markL_cell (mk := Doc.mark) (cn := Doc.cnt) (k := k) h
    obtain ⟨q0, hq0⟩ : ∃ q, k + ((cntL Doc.cnt (l.take i) : Nat) : Int) = q := ⟨_, rfl⟩
    have hpc : l[i].cnt = 2 + (l[i].text.length + (cntL Entry.cnt l[i].list + (cntL Seen.cnt l[i].seen))) := rfl
    rw [hq0] at hm
    rw [hq0]
    have z0 : ¬ q0 < 0 := by omega
    have e0 : Go.IntKind.i64.wrap q0 = q0 := Go.IntWalk.i64_in _ (by omega)
    obtain ⟨q1, hq1⟩ : ∃ q, q0 + 1 = q := ⟨_, rfl⟩
    have e1 : Go.IntKind.i64.wrap q1 = q1 := Go.IntWalk.i64_in _ (by omega)
    have z1 : ¬ q1 < 0 := by omega
    obtain ⟨q2, hq2⟩ : ∃ q, q1 + 1 = q := ⟨_, rfl⟩
    have e2 : Go.IntKind.i64.wrap q2 = q2 := Go.IntWalk.i64_in _ (by omega)
    have z2 : ¬ q2 < 0 := by omega
    obtain ⟨q3, hq3⟩ : ∃ q, q2 + ((l[i].text.length : Nat) : Int) = q := ⟨_, rfl⟩
    have e3 : Go.IntKind.i64.wrap q3 = q3 := Go.IntWalk.i64_in _ (by omega)
    have z3 : ¬ q3 < 0 := by omega
    obtain ⟨q4, hq4⟩ : ∃ q, q3 + ((cntL Entry.cnt l[i].list : Nat) : Int) = q := ⟨_, rfl⟩
    have e4 : Go.IntKind.i64.wrap q4 = q4 := Go.IntWalk.i64_in _ (by omega)
    have z4 : ¬ q4 < 0 := by omega
    obtain ⟨q5, hq5⟩ : ∃ q, q4 + ((cntL Seen.cnt l[i].seen : Nat) : Int) = q := ⟨_, rfl⟩
    have e5 : Go.IntKind.i64.wrap q5 = q5 := Go.IntWalk.i64_in _ (by omega)
    have z5 : ¬ q5 < 0 := by omega
    have e : Go.IntKind.i64.wrap ((i : Int) + 1) = ((i + 1 : Nat) : Int) := i64_suc (by omega)
    simp [h, markL_length]
    refine DrawT.quiet eok mix (by kernel_rfl) ?_
    simp [h, markL_length, hm, Doc.row, Doc.mark, hq1, hq2, hq3, hq4]
    refine ⟨_, _, markText_c q0 (by omega) (by omega), by simp, ?_⟩
    simp [h, markL_length, hm, Doc.row, Doc.mark, hq1, e1, hq2, e2, hq3, hq4]
    refine ACall.pure (heldIntS_c l[i].text q2 (by omega) (by omega)) (by simp) ?_
    simp [h, markL_length, hm, Doc.row, Doc.mark, hq1, hq2, hq3, z3, hq4]
    refine ACall.pure (heldEntryS_c l[i].list q3 (by omega) (by omega) (by omega)) (by simp) ?_
    simp [h, markL_length, hm, Doc.row, Doc.mark, hq1, hq2, hq3, hq4, z4]
    refine ACall.pure (heldSeenS_c l[i].seen q4 (by omega) (by omega) (by omega)) (by simp) ?_
    simp [hq5, z5]
    refine ⟨i + 1, by omega, by omega, ?_⟩
    simp [e, hs, hpc]
    omega
  · have : i = l.length := by omega
    subst this
    simp [markL_length]
end Go.Proofs.YtdfdabjdfmamgaaGreat

namespace Go.Proofs.YtdfdabjdfmamgaaGreat
open Go.AM
set_option maxRecDepth 20000
theorem eqNet_c (x y : Net) (h : nNet x ≤ 2 ^ 40) : PureC Tryz.prog 19 [.agg x.row, .agg y.row] (.one (.c (vb (x = y)) 1)) := by
  refine PureC.intro' tt_ok Tryz.func19 (by kernel_rfl) rfl rfl rfl (Nat.le_of_ble_eq_true rfl) (fun w0 base => ?_)
  unfold nNet at h
  obtain ⟨a0, a1⟩ := x
  obtain ⟨b0, b1⟩ := y
  simp only at h
  simp [Net.row]
  try intros
  refine ACall.pure (eqDoc_c a0 b0 (by omega)) (by simp [Doc.row]) ?_
  simp
  by_cases h0 : a0 = b0
  rotate_left
  · simp [h0]
  subst h0
  try simp
  refine ACall.pure (eqRepS_c a1 b1 (by omega)) (by simp) ?_
  simp
  by_cases h1 : a1 = b1
  rotate_left
  · simp [h1]
  subst h1
  try simp
theorem markNet_c (x : Net) (k : Int) (h0 : 0 ≤ k) (hk : k + x.cntT ≤ 4611686018427387904) (hl : nNet x ≤ 2 ^ 40) : MarkC Tryz.prog 60 (.agg x.res) k (k + x.cntT) (.agg (x.markT k).res) := by
  refine MarkC.intro tt_ok Tryz.func60 (by kernel_rfl) rfl rfl rfl (by decide) (fun w0 base => ?_)
  simp only [Net.cntT] at hk
  unfold nNet at hl
  have hs_d : x.d.cntT = x.d.text.length + (cntL Entry.cnt x.d.list + (cntL Seen.cnt x.d.seen)) := rfl
  simp [Net.res]
  try intros
  refine ACall.mark (markDoc_c x.d (k) (by omega) (by omega) (by omega)) rfl (fun _ h => h) (by simp) ?_
  simp [Doc.res, Doc.markT]
  refine ACall.mark (markRepS_c x.reps (k + ((x.d.cntT : Nat) : Int)) (by omega) (by omega) (by omega)) rfl (fun _ h => h) (by simp) ?_
  simp
  simp [Net.markT, Net.cntT, markL_length, Doc.cntT, Int.add_assoc]
  try omega
theorem heldNet_c (x : Net) (k : Int) (h0 : 0 ≤ k) (hk : k + x.cntT ≤ 4611686018427387904) (hl : nNet x ≤ 2 ^ 40) : PureC Tryz.prog 62 [.agg (x.markT k).row, .c (vi k)] (.one (.c (vi (k + x.cntT)) 1)) := by
  refine PureC.intro' tt_ok Tryz.func62 (by kernel_rfl) rfl rfl rfl (Nat.le_of_ble_eq_true rfl) (fun w0 base => ?_)
  simp only [Net.cntT] at hk
  unfold nNet at hl
  have hs_d : x.d.cntT = x.d.text.length + (cntL Entry.cnt x.d.list + (cntL Seen.cnt x.d.seen)) := rfl
  simp [Net.row, Net.markT]
  try intros
  refine ACall.pure (heldDoc_c x.d k (by omega) (by omega) (by omega)) (by simp [Doc.row, Doc.markT]) ?_
  obtain ⟨q0, hq0⟩ : ∃ q, k + ((x.d.cntT : Nat) : Int) = q := ⟨_, rfl⟩
  rw [hq0]
  have z0 : ¬ q0 < 0 := by omega
  simp [z0]
  refine ACall.pure (heldRepS_c x.reps q0 (by omega) (by omega) (by omega)) (by simp [← hq0, hs_d, Int.add_assoc]) ?_
  obtain ⟨q1, hq1⟩ : ∃ q, q0 + ((cntL Rep.cnt x.reps : Nat) : Int) = q := ⟨_, rfl⟩
  rw [hq1]
  have z1 : ¬ q1 < 0 := by omega
  simp [z1]
  try (simp only [Net.cntT]; omega)
end Go.Proofs.YtdfdabjdfmamgaaGreat

namespace Go.Proofs.YtdfdabjdfmamgaaGreat
open Go.AM
set_option maxRecDepth 20000
theorem eqRing_c (x y : Ring) (h : nRing x ≤ 2 ^ 40) : PureC Tryz.prog 286 [.agg x.row, .agg y.row] (.one (.c (vb (x = y)) 1)) := by
  refine PureC.intro' tt_ok Tryz.func286 (by kernel_rfl) rfl rfl rfl (Nat.le_of_ble_eq_true rfl) (fun w0 base => ?_)
  unfold nRing at h
  obtain ⟨a0, a1, a2, a3⟩ := x
  obtain ⟨b0, b1, b2, b3⟩ := y
  simp only at h
  simp [Ring.row]
  try intros
  by_cases h0 : a0 = b0
  rotate_left
  · simp [h0]
  subst h0
  try simp
  by_cases h1 : a1 = b1
  rotate_left
  · simp [h1]
  subst h1
  try simp
  by_cases h2 : a2 = b2
  rotate_left
  · simp [h2]
  subst h2
  try simp
  refine ACall.pure (eqEntryS_c a3 b3 (by omega)) (by simp) ?_
  simp
  by_cases h3 : a3 = b3
  rotate_left
  · simp [h3]
  subst h3
  try simp
end Go.Proofs.YtdfdabjdfmamgaaGreat

namespace Go.Proofs.YtdfdabjdfmamgaaGreat
open Go.AM
set_option maxRecDepth 20000
theorem eqSub_c (x y : Sub) (h : nSub x ≤ 2 ^ 40) : PureC Tryz.prog 210 [.agg x.row, .agg y.row] (.one (.c (vb (x = y)) 1)) := by
  refine PureC.intro' tt_ok Tryz.func210 (by kernel_rfl) rfl rfl rfl (Nat.le_of_ble_eq_true rfl) (fun w0 base => ?_)
  unfold nSub at h
  obtain ⟨a0, a1, a2⟩ := x
  obtain ⟨b0, b1, b2⟩ := y
  simp only at h
  simp [Sub.row]
  try intros
  by_cases h0 : a0 = b0
  rotate_left
  · simp [h0]
  subst h0
  try simp
  by_cases h1 : a1 = b1
  rotate_left
  · simp [h1]
  subst h1
  try simp
  refine ACall.pure (eqRing_c a2 b2 (by omega)) (by simp [Ring.row]) ?_
  simp
  by_cases h2 : a2 = b2
  rotate_left
  · simp [h2]
  subst h2
  try simp
theorem eqSubS_c (a b : List Sub) (hl : nL nSub a ≤ 2 ^ 40) : PureC Tryz.prog 120 [.c (.s (a.map Sub.row)), .c (.s (b.map Sub.row))] (.one (.c (vb (a = b)) 1)) := by
  refine PureC.intro' tt_ok Tryz.func120 (by kernel_rfl) rfl rfl rfl (Nat.le_of_ble_eq_true rfl) (fun w0 base => ?_)
  have hle := nL_len hl
  by_cases h : a.length = b.length
  · simp [h]
    refine LoopT.intro eok (fun i : Nat => i ≤ a.length ∧ a.take i = b.take i) (fun i => ⟨27, 0, [(5, .v (.int .i64 i)), (1, .ro (b.map Sub.row)), (0, .ro (a.map Sub.row))], []⟩) (fun i => a.length - i) 0 (by simp) (by simp) (fun i hi => ?_)
    by_cases hlt : i < a.length
    · simp [hlt]
      have hlt' : i < b.length := by omega
      refine DrawT.quiet eok mix (by kernel_rfl) ?_
      simp [hlt, hlt', Sub.row]
      refine ⟨_, _, eqSub_c a[i] b[i] (nL_at hl hlt), by simp [Sub.row], ?_⟩
      simp
      refine Br.mk (fun h1 => ?_) (fun h1 => ?_)
      · simp
        exact ⟨i + 1, ⟨by omega, take_next hlt hlt' hi.2 (of_yes h1)⟩, by omega, i64_suc (by omega)⟩
      · simp [dc_no]
        exact ne_at hlt hlt' (of_no h1)
    · simp [hlt, dc_yes]
      exact take_all (by omega) (by omega) hi.2
  · have hz : ¬ (a.length : Int) = b.length := by omega
    simp [hz, dc_no]
    exact fun h2 => absurd (by rw [h2]) h
theorem markSubS_c (l : List Sub) (k : Int) (h0 : 0 ≤ k) (hk : k + cntL Sub.cnt l ≤ 4611686018427387904) (hl : nL nSub l ≤ 2 ^ 40) : MarkC Tryz.prog 122 (.c (.s (l.map Sub.row)) 6) k (k + cntL Sub.cnt l) (.c (.s ((markL Sub.mark Sub.cnt l k).map Sub.row)) 6) := by
  refine MarkC.intro tt_ok Tryz.func122 (by kernel_rfl) rfl rfl rfl (by decide) (fun w0 base => ?_)
  have hle := nL_len hl
  simp
  intro H
  refine LoopT.introG eok (fun i : Nat => i ≤ l.length) (fun i => ⟨62, 0, [(5, .v (.int .i64 i)), (1, .v (.int .i64 (k + cntL Sub.cnt (l.take i)))), (0, .ml 0 H 6 l.length)], [(0, .rows H 6 (marked Sub.mark Sub.cnt Sub.row l k i) true)]⟩) (fun i => l.length - i) 0 (by simp) (by simp [marked_0, cntL]) (fun i hi => ?_)
  by_cases h : i < l.length
  · have hc := cntL_cell_le (cn := Sub.cnt) h
    have hs := cntL_take_suc (cn := Sub.cnt) h
    have hni := nL_at hl h
    simp only [nSub, nRing] at hni
    obtain ⟨q0, hq0⟩ : ∃ q, k + ((cntL Sub.cnt (l.take i) : Nat) : Int) = q := ⟨_, rfl⟩
    have hpc : l[i].cnt = 5 + (cntL Entry.cnt l[i].r.list) := rfl
    rw [hq0, ← marked_row h]
    have e0 : Go.IntKind.i64.wrap q0 = q0 := Go.IntWalk.i64_in _ (by omega)
    obtain ⟨q1, hq1⟩ : ∃ q, q0 + 1 = q := ⟨_, rfl⟩
    have e1 : Go.IntKind.i64.wrap q1 = q1 := Go.IntWalk.i64_in _ (by omega)
    obtain ⟨q2, hq2⟩ : ∃ q, q1 + 1 = q := ⟨_, rfl⟩
    have e2 : Go.IntKind.i64.wrap q2 = q2 := Go.IntWalk.i64_in _ (by omega)
    obtain ⟨q3, hq3⟩ : ∃ q, q2 + 1 = q := ⟨_, rfl⟩
    have e3 : Go.IntKind.i64.wrap q3 = q3 := Go.IntWalk.i64_in _ (by omega)
    obtain ⟨q4, hq4⟩ : ∃ q, q3 + 1 = q := ⟨_, rfl⟩
    have e4 : Go.IntKind.i64.wrap q4 = q4 := Go.IntWalk.i64_in _ (by omega)
    obtain ⟨q5, hq5⟩ : ∃ q, q4 + 1 = q := ⟨_, rfl⟩
    have e5 : Go.IntKind.i64.wrap q5 = q5 := Go.IntWalk.i64_in _ (by omega)
    obtain ⟨q6, hq6⟩ : ∃ q, q5 + ((cntL Entry.cnt l[i].r.list : Nat) : Int) = q := ⟨_, rfl⟩
    have e6 : Go.IntKind.i64.wrap q6 = q6 := Go.IntWalk.i64_in _ (by omega)
    have e : Go.IntKind.i64.wrap ((i : Int) + 1) = ((i + 1 : Nat) : Int) := i64_suc (by omega)
    refine Ent.open (fun _ h => h) (k := 0) (i := i) (j := 5) (k' := 905) (sz' := 3) (sz := 6) (H := H) (rows := ((marked Sub.mark Sub.cnt Sub.row l k i).set i l[i].row)) (srows := l[i].r.list.map Entry.row) (row := l[i].row) (by simp) (by simp [marked_length, h]) rfl (by simp) (by decide) (by simp [Entry.row]) (by simp) (fun H5 => ?_)
    refine Ent.refl ?_
    simp [h, marked_length, Sub.row, setC_set, modify_set, hq1, e1]
    refine ACall.pure (markText_c q1 (by omega) (by omega)) (by simp) ?_
    simp [h, marked_length, modify_set, hq2, e2, hq3, e3, hq4, e4, hq5, e5]
    refine ACall.mark (markEntryS_c l[i].r.list q5 (by omega) (by omega) (by omega)) rfl (fun _ h => h) (by simp) ?_
    simp [e, hq6]
    refine Ent.close (k := 0) (i := i) (j := 5) (k' := 905) (sz' := 3) (sz := 6) (H := H) (rows := (marked Sub.mark Sub.cnt Sub.row l k i).set i [vi q0, .v (.string (markT q1)), vi q2, vi q3, .v (.bool (markB q4)), .h 905 H5 3 l[i].r.list.length]) (row := [vi q0, .v (.string (markT q1)), vi q2, vi q3, .v (.bool (markB q4)), .h 905 H5 3 l[i].r.list.length]) (H' := H5) (srows := (markL Entry.mark Entry.cnt l[i].r.list q5).map Entry.row) (by simp [markB]) (by simp [marked_length, h]) (by simp [markL_length]) (by simp) (by decide) (by simp) ?_
    refine Ent.refl ⟨i + 1, by omega, by omega, ?_⟩
    simp [setC_set, hs, hpc]
    refine ⟨by omega, ?_⟩
    refine marked_set h ?_
    rw [hq0]
    subst hq1 hq2 hq3 hq4 hq5 hq6
    rfl
  · have : i = l.length := by omega
    subst this
    refine Ent.refl ?_
    simp [marked_all, markL_length, Sub.row]
theorem heldSubS_c (l : List Sub) (k : Int) (h0 : 0 ≤ k) (hk : k + cntL Sub.cnt l ≤ 4611686018427387904) (hl : nL nSub l ≤ 2 ^ 40) : PureC Tryz.prog 184 [.c (.s ((markL Sub.mark Sub.cnt l k).map Sub.row)), .c (vi k)] (.one (.c (vi (k + cntL Sub.cnt l)) 1)) := by
  refine PureC.intro' tt_ok Tryz.func184 (by kernel_rfl) rfl rfl rfl (Nat.le_of_ble_eq_true rfl) (fun w0 base => ?_)
  have hle := nL_len hl
  simp
  refine LoopT.intro eok (fun i : Nat => i ≤ l.length) (fun i => ⟨74, 0, [(5, .v (.int .i64 i)), (1, .v (.int .i64 (k + cntL Sub.cnt (l.take i)))), (0, .ro ((markL Sub.mark Sub.cnt l k).map Sub.row))], []⟩) (fun i => l.length - i) 0 (by simp) (by simp [cntL]) (fun i hi => ?_)
  by_cases h : i < l.length
  · have hc := cntL_cell_le (cn := Sub.cnt) h
    have hs := cntL_take_suc (cn := Sub.cnt) h
    have hni := nL_at hl h
    simp only [nSub, nRing] at hni
    have hm := markL_cell (mk := Sub.mark) (cn := Sub.cnt) (k := k) h
    obtain ⟨q0, hq0⟩ : ∃ q, k + ((cntL Sub.cnt (l.take i) : Nat) : Int) = q := ⟨_, rfl⟩
    have hpc : l[i].cnt = 5 + (cntL Entry.cnt l[i].r.list) := rfl
    rw [hq0] at hm
    rw [hq0]
    have z0 : ¬ q0 < 0 := by omega
    have e0 : Go.IntKind.i64.wrap q0 = q0 := Go.IntWalk.i64_in _ (by omega)
    obtain ⟨q1, hq1⟩ : ∃ q, q0 + 1 = q := ⟨_, rfl⟩
    have e1 : Go.IntKind.i64.wrap q1 = q1 := Go.IntWalk.i64_in _ (by omega)
    have z1 : ¬ q1 < 0 := by omega
    obtain ⟨q2, hq2⟩ : ∃ q, q1 + 1 = q := ⟨_, rfl⟩
    have e2 : Go.IntKind.i64.wrap q2 = q2 := Go.IntWalk.i64_in _ (by omega)
    have z2 : ¬ q2 < 0 := by omega
    obtain ⟨q3, hq3⟩ : ∃ q, q2 + 1 = q := ⟨_, rfl⟩
    have e3 : Go.IntKind.i64.wrap q3 = q3 := Go.IntWalk.i64_in _ (by omega)
    have z3 : ¬ q3 < 0 := by omega
    obtain ⟨q4, hq4⟩ : ∃ q, q3 + 1 = q := ⟨_, rfl⟩
    have e4 : Go.IntKind.i64.wrap q4 = q4 := Go.IntWalk.i64_in _ (by omega)
    have z4 : ¬ q4 < 0 := by omega
    obtain ⟨q5, hq5⟩ : ∃ q, q4 + 1 = q := ⟨_, rfl⟩
    have e5 : Go.IntKind.i64.wrap q5 = q5 := Go.IntWalk.i64_in _ (by omega)
    have z5 : ¬ q5 < 0 := by omega
    obtain ⟨q6, hq6⟩ : ∃ q, q5 + ((cntL Entry.cnt l[i].r.list : Nat) : Int) = q := ⟨_, rfl⟩
    have e6 : Go.IntKind.i64.wrap q6 = q6 := Go.IntWalk.i64_in _ (by omega)
    have z6 : ¬ q6 < 0 := by omega
    have e : Go.IntKind.i64.wrap ((i : Int) + 1) = ((i + 1 : Nat) : Int) := i64_suc (by omega)
    simp [h, markL_length, hm, Sub.row, Sub.mark, hq1, e1, hq2, hq3, hq4, hq5, markB]
    refine DrawT.quiet eok mix (by kernel_rfl) ?_
    simp [h, markL_length, hm, Sub.row, Sub.mark, hq1, hq2, hq3, hq4, hq5, markB]
    refine ⟨_, _, markText_c q1 (by omega) (by omega), by simp, ?_⟩
    simp [h, markL_length, hm, Sub.row, Sub.mark, hq1, hq2, e2, hq3, e3, hq4, e4, hq5, e5, markB]
    refine ACall.pure (heldEntryS_c l[i].r.list q5 (by omega) (by omega) (by omega)) (by simp) ?_
    simp [hq6, z6]
    refine ⟨i + 1, by omega, by omega, ?_⟩
    simp [e, hs, hpc]
    omega
  · have : i = l.length := by omega
    subst this
    simp [markL_length]
end Go.Proofs.YtdfdabjdfmamgaaGreat

namespace Go.Proofs.YtdfdabjdfmamgaaGreat
open Go.AM
set_option maxRecDepth 20000
theorem eqHub_c (x y : Hub) (h : nHub x ≤ 2 ^ 40) : PureC Tryz.prog 38 [.agg x.row, .agg y.row] (.one (.c (vb (x = y)) 1)) := by
  refine PureC.intro' tt_ok Tryz.func38 (by kernel_rfl) rfl rfl rfl (Nat.le_of_ble_eq_true rfl) (fun w0 base => ?_)
  unfold nHub at h
  obtain ⟨a0, a1, a2, a3⟩ := x
  obtain ⟨b0, b1, b2, b3⟩ := y
  simp only at h
  simp [Hub.row]
  try intros
  by_cases h0 : a0 = b0
  rotate_left
  · simp [h0]
  subst h0
  try simp
  refine ACall.pure (eqDocS_c a1 b1 (by omega)) (by simp) ?_
  simp
  by_cases h1 : a1 = b1
  rotate_left
  · simp [h1]
  subst h1
  try simp
  refine ACall.pure (eqSubS_c a2 b2 (by omega)) (by simp) ?_
  simp
  by_cases h2 : a2 = b2
  rotate_left
  · simp [h2]
  subst h2
  try simp
  by_cases h3 : a3 = b3
  rotate_left
  · simp [h3]
  subst h3
  try simp
theorem markHub_c (x : Hub) (k : Int) (h0 : 0 ≤ k) (hk : k + x.cntT ≤ 4611686018427387904) (hl : nHub x ≤ 2 ^ 40) : MarkC Tryz.prog 39 (.agg x.res) k (k + x.cntT) (.agg (x.markT k).res) := by
  refine MarkC.intro tt_ok Tryz.func39 (by kernel_rfl) rfl rfl rfl (by decide) (fun w0 base => ?_)
  simp only [Hub.cntT] at hk
  unfold nHub at hl
  simp [Hub.res]
  try intros
  refine ACall.mark (markDocS_c x.docs (k) (by omega) (by omega) (by omega)) rfl (fun _ h => h) (by simp) ?_
  simp
  refine ACall.mark (markSubS_c x.subs (k + ((cntL Doc.cnt x.docs : Nat) : Int)) (by omega) (by omega) (by omega)) rfl (fun _ h => h) (by simp) ?_
  simp
  simp [Hub.markT, Hub.cntT, markL_length]
  try omega
theorem heldHub_c (x : Hub) (k : Int) (h0 : 0 ≤ k) (hk : k + x.cntT ≤ 4611686018427387904) (hl : nHub x ≤ 2 ^ 40) : PureC Tryz.prog 90 [.agg (x.markT k).row, .c (vi k)] (.one (.c (vi (k + x.cntT)) 1)) := by
  refine PureC.intro' tt_ok Tryz.func90 (by kernel_rfl) rfl rfl rfl (Nat.le_of_ble_eq_true rfl) (fun w0 base => ?_)
  simp only [Hub.cntT] at hk
  unfold nHub at hl
  simp [Hub.row, Hub.markT]
  try intros
  refine ACall.pure (heldDocS_c x.docs k (by omega) (by omega) (by omega)) (by simp) ?_
  obtain ⟨q1, hq1⟩ : ∃ q, k + ((cntL Doc.cnt x.docs : Nat) : Int) = q := ⟨_, rfl⟩
  rw [hq1]
  have z1 : ¬ q1 < 0 := by omega
  simp [z1]
  refine ACall.pure (heldSubS_c x.subs q1 (by omega) (by omega) (by omega)) (by simp) ?_
  obtain ⟨q2, hq2⟩ : ∃ q, q1 + ((cntL Sub.cnt x.subs : Nat) : Int) = q := ⟨_, rfl⟩
  rw [hq2]
  have z2 : ¬ q2 < 0 := by omega
  simp [z2]
  try (simp only [Hub.cntT]; omega)
end Go.Proofs.YtdfdabjdfmamgaaGreat

namespace Go.Proofs.YtdfdabjdfmamgaaGreat
open Go.AM
set_option maxRecDepth 20000
end Go.Proofs.YtdfdabjdfmamgaaGreat

namespace Go.Proofs.YtdfdabjdfmamgaaGreat
open Go.AM
set_option maxRecDepth 20000
end Go.Proofs.YtdfdabjdfmamgaaGreat

namespace Go.Proofs.YtdfdabjdfmamgaaGreat
open Go.AM
set_option maxRecDepth 20000
end Go.Proofs.YtdfdabjdfmamgaaGreat

namespace Go.Proofs.YtdfdabjdfmamgaaGreat
open Go.AM
set_option maxRecDepth 20000
end Go.Proofs.YtdfdabjdfmamgaaGreat

namespace Go.Proofs.YtdfdabjdfmamgaaGreat
open Go.AM
set_option maxRecDepth 20000
end Go.Proofs.YtdfdabjdfmamgaaGreat

namespace Go.Proofs.YtdfdabjdfmamgaaGreat
open Go.AM
set_option maxRecDepth 20000
theorem eqDesk_c (x y : Desk) (h : nDesk x ≤ 2 ^ 40) : PureC Tryz.prog 22 [.agg x.row, .agg y.row] (.one (.c (vb (x = y)) 1)) := by
  refine PureC.intro' tt_ok Tryz.func22 (by kernel_rfl) rfl rfl rfl (Nat.le_of_ble_eq_true rfl) (fun w0 base => ?_)
  unfold nDesk at h
  obtain ⟨a0, a1⟩ := x
  obtain ⟨b0, b1⟩ := y
  simp only at h
  simp [Desk.row]
  try intros
  refine ACall.pure (eqHub_c a0 b0 (by omega)) (by simp [Hub.row]) ?_
  simp
  by_cases h0 : a0 = b0
  rotate_left
  · simp [h0]
  subst h0
  try simp
  refine ACall.pure (eqNet_c a1 b1 (by omega)) (by simp [Net.row]) ?_
  simp
  by_cases h1 : a1 = b1
  rotate_left
  · simp [h1]
  subst h1
  try simp
theorem markDesk_c (x : Desk) (k : Int) (h0 : 0 ≤ k) (hk : k + x.cntT ≤ 4611686018427387904) (hl : nDesk x ≤ 2 ^ 40) : MarkC Tryz.prog 23 (.agg x.res) k (k + x.cntT) (.agg (x.markT k).res) := by
  refine MarkC.intro tt_ok Tryz.func23 (by kernel_rfl) rfl rfl rfl (by decide) (fun w0 base => ?_)
  simp only [Desk.cntT] at hk
  unfold nDesk at hl
  have hs_h : x.h.cntT = cntL Doc.cnt x.h.docs + (cntL Sub.cnt x.h.subs) := rfl
  have hs_n : x.n.cntT = x.n.d.text.length + (cntL Entry.cnt x.n.d.list + (cntL Seen.cnt x.n.d.seen + (cntL Rep.cnt x.n.reps))) := rfl
  simp [Desk.res]
  try intros
  refine ACall.mark (markHub_c x.h (k) (by omega) (by omega) (by omega)) rfl (fun _ h => h) (by simp) ?_
  simp [Hub.res, Hub.markT]
  refine ACall.mark (markNet_c x.n (k + ((x.h.cntT : Nat) : Int)) (by omega) (by omega) (by omega)) rfl (fun _ h => h) (by simp) ?_
  simp [Net.res, Net.markT]
  simp [Desk.markT, Desk.cntT, markL_length, Hub.cntT, Net.cntT, Int.add_assoc]
  try omega
theorem heldDesk_c (x : Desk) (k : Int) (h0 : 0 ≤ k) (hk : k + x.cntT ≤ 4611686018427387904) (hl : nDesk x ≤ 2 ^ 40) : PureC Tryz.prog 24 [.agg (x.markT k).row, .c (vi k)] (.one (.c (vi (k + x.cntT)) 1)) := by
  refine PureC.intro' tt_ok Tryz.func24 (by kernel_rfl) rfl rfl rfl (Nat.le_of_ble_eq_true rfl) (fun w0 base => ?_)
  simp only [Desk.cntT] at hk
  unfold nDesk at hl
  have hs_h : x.h.cntT = cntL Doc.cnt x.h.docs + (cntL Sub.cnt x.h.subs) := rfl
  have hs_n : x.n.cntT = x.n.d.text.length + (cntL Entry.cnt x.n.d.list + (cntL Seen.cnt x.n.d.seen + (cntL Rep.cnt x.n.reps))) := rfl
  simp [Desk.row, Desk.markT]
  try intros
  refine ACall.pure (heldHub_c x.h k (by omega) (by omega) (by omega)) (by simp [Hub.row, Hub.markT]) ?_
  obtain ⟨q0, hq0⟩ : ∃ q, k + ((x.h.cntT : Nat) : Int) = q := ⟨_, rfl⟩
  rw [hq0]
  have z0 : ¬ q0 < 0 := by omega
  simp [z0]
  refine ACall.pure (heldNet_c x.n q0 (by omega) (by omega) (by omega)) (by simp [Net.row, Net.markT, ← hq0, hs_h, Int.add_assoc]) ?_
  obtain ⟨q1, hq1⟩ : ∃ q, q0 + ((x.n.cntT : Nat) : Int) = q := ⟨_, rfl⟩
  rw [hq1]
  have z1 : ¬ q1 < 0 := by omega
  simp [z1]
  try (simp only [Desk.cntT]; omega)
end Go.Proofs.YtdfdabjdfmamgaaGreat

namespace Go.Proofs.YtdfdabjdfmamgaaGreat
open Go.AM Go.ChangeShapes Go.WideShapes Go.ChangeAt Go.RowKit
set_option maxRecDepth 20000
theorem own : ownKnob Tryz.prog.godebug = none := by kernel_rfl
theorem laid : laidOutB Tryz.prog = true := by kernel_rfl
end Go.Proofs.YtdfdabjdfmamgaaGreat

