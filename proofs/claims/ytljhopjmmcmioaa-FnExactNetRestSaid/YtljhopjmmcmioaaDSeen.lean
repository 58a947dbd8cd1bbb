import Derived.Test.YtljhopjmmcmioaaDInt
namespace Go.Proofs.Ytljhopjmmcmioaa
open Go.AM
set_option maxRecDepth 20000
theorem toSeen_c (x : Seen) : PureC Try.prog 187 [.agg x.row] (.one (.agg x.res)) := by
  refine PureC.intro' tt_ok Try.func187 (by kernel_rfl) rfl rfl rfl (Nat.le_of_ble_eq_true rfl) (fun w0 base => ?_)
  simp [Seen.row, Seen.res]
  try intros

theorem eqSeen_c (x y : Seen) : PureC Try.prog 188 [.agg x.row, .agg y.row] (.one (.c (vb (x = y)) 1)) := by
  refine PureC.intro' tt_ok Try.func188 (by kernel_rfl) rfl rfl rfl (Nat.le_of_ble_eq_true rfl) (fun w0 base => ?_)
  obtain ⟨a0, a1, a2⟩ := x
  obtain ⟨b0, b1, b2⟩ := y
  simp [Seen.row]
  try intros
  by_cases h0 : a0 = b0
  rotate_left
  · simp [h0]
  subst h0
  try simp
  by_cases h1 : a1 = b1
  rotate_left
  · simp [h1]
  subst h1
  try simp
  by_cases h2 : a2 = b2
  rotate_left
  · simp [h2]
  subst h2
  try simp

theorem toSeenS_c (l : List Seen) (hl : l.length ≤ 2 ^ 40) : PureC Try.prog 143 [.c (.s (l.map Seen.row))] (.one (.c (.s (l.map Seen.row)) 3)) := by
  refine PureC.intro' tt_ok Try.func143 (by kernel_rfl) rfl rfl rfl (Nat.le_of_ble_eq_true rfl) (fun w0 base => ?_)
  simp
  refine ⟨by omega, fun b => ?_⟩
  refine LoopT.intro eok (fun i : Nat => i ≤ l.length) (fun i => ⟨23, 0, [(4, .v (.int .i64 i)), (3, .sl 112 (some (b, 0, l.length)) 3 0 l.length), (0, .ro (l.map Seen.row))],
    [(112, .rows (some (b, 0, l.length)) 3 (fillR Seen.row [.v (.int .i64 0), .v (.int .i64 0), .v (.int .i64 0)] l i) true)]⟩) (fun i => l.length - i) 0 (by simp) (by simp [fillR_0]) (fun i hi => ?_)
  by_cases h : i < l.length
  · simp [h, Seen.row]
    refine ACall.pure (toSeen_c l[i]) (by simp [Seen.row]) ?_
    simp [Seen.res, fillR_length hi, h]
    exact ⟨i + 1, by omega, by omega, i64_suc (by omega), fillR_set (f := Seen.row) h⟩
  · have : i = l.length := by omega
    subst this
    simp [fillR_all, cut]
    try exact fun a _ => rfl

theorem eqSeenS_c (a b : List Seen) (hl : a.length ≤ 2 ^ 40) : PureC Try.prog 144 [.c (.s (a.map Seen.row)), .c (.s (b.map Seen.row))] (.one (.c (vb (a = b)) 1)) := by
  refine PureC.intro' tt_ok Try.func144 (by kernel_rfl) rfl rfl rfl (Nat.le_of_ble_eq_true rfl) (fun w0 base => ?_)
  by_cases h : a.length = b.length
  · simp [h]
    refine LoopT.intro eok (fun i : Nat => i ≤ a.length ∧ a.take i = b.take i) (fun i => ⟨27, 0, [(5, .v (.int .i64 i)), (1, .ro (b.map Seen.row)), (0, .ro (a.map Seen.row))], []⟩) (fun i => a.length - i) 0 (by simp) (by simp) (fun i hi => ?_)
    by_cases hlt : i < a.length
    · simp [hlt]
      have hlt' : i < b.length := by omega
      refine DrawT.quiet eok mix (by kernel_rfl) ?_
      simp [hlt, hlt', Seen.row]
      refine ⟨_, _, eqSeen_c a[i] b[i], by simp [Seen.row], ?_⟩
      simp
      refine Br.mk (fun h1 => ?_) (fun h1 => ?_)
      · simp
        exact ⟨i + 1, ⟨by omega, take_next hlt hlt' hi.2 (of_yes h1)⟩, by omega, i64_suc (by omega)⟩
      · simp [dc_no]
        exact ne_at hlt hlt' (of_no h1)
    · simp [hlt, dc_yes]
      exact take_all (by omega) (by omega) hi.2
  · have hz : ¬ (a.length : Int) = b.length := by omega
    simp [hz, dc_no]
    exact fun h2 => absurd (by rw [h2]) h

theorem szSeenS_c (l : List Seen) (hl : l.length ≤ 9223372036854775807) (left : Nat) (hf : left ≤ 2 ^ 20) : PureC Try.prog 142 [.c (.s (l.map Seen.row)), .c (vi left)] (.one (.c (vi (szR l.length left)) 1)) := by
  refine PureC.intro' tt_ok Try.func142 (by kernel_rfl) rfl rfl rfl (Nat.le_of_ble_eq_true rfl) (fun w0 base => ?_)
  have hw : IntKind.i64.wrap ((left : Int) - (l.length : Int)) = (left : Int) - l.length := IntWalk.i64_in _ (by omega)
  simp [hw]
  by_cases h : l.length ≤ left
  · have hz : ¬ (left : Int) - l.length < 0 := by omega
    simp [hz, szR_ok h]
    omega
  · have hz : (left : Int) - l.length < 0 := by omega
    simp [hz, szR_no h]

theorem markSeenS_c (l : List Seen) (k : Int) (h0 : 0 ≤ k) (hk : k + cntL Seen.cnt l ≤ 4611686018427387904) (hl : l.length ≤ 2 ^ 40) : MarkC Try.prog 161 (.c (.s (l.map Seen.row)) 3) k (k + cntL Seen.cnt l) (.c (.s ((markL Seen.mark Seen.cnt l k).map Seen.row)) 3) := by
  refine MarkC.intro tt_ok Try.func161 (by kernel_rfl) rfl rfl rfl (by decide) (fun w0 base => ?_)
  simp
  intro H
  refine LoopT.introG eok (fun i : Nat => i ≤ l.length) (fun i => ⟨34, 0, [(5, .v (.int .i64 i)), (1, .v (.int .i64 (k + cntL Seen.cnt (l.take i)))), (0, .ml 0 H 3 l.length)], [(0, .rows H 3 (marked Seen.mark Seen.cnt Seen.row l k i) true)]⟩) (fun i => l.length - i) 0 (by simp) (by simp [marked_0, cntL]) (fun i hi => ?_)
  by_cases h : i < l.length
  · have hc := cntL_cell_le (cn := Seen.cnt) h
    have hs := cntL_take_suc (cn := Seen.cnt) h
    obtain ⟨q0, hq0⟩ : ∃ q, k + ((cntL Seen.cnt (l.take i) : Nat) : Int) = q := ⟨_, rfl⟩
    have hpc : l[i].cnt = 3 := rfl
    rw [hq0, ← marked_row h]
    have e0 : Go.IntKind.i64.wrap q0 = q0 := Go.IntWalk.i64_in _ (by omega)
    obtain ⟨q1, hq1⟩ : ∃ q, q0 + 1 = q := ⟨_, rfl⟩
    have e1 : Go.IntKind.i64.wrap q1 = q1 := Go.IntWalk.i64_in _ (by omega)
    obtain ⟨q2, hq2⟩ : ∃ q, q1 + 1 = q := ⟨_, rfl⟩
    have e2 : Go.IntKind.i64.wrap q2 = q2 := Go.IntWalk.i64_in _ (by omega)
    obtain ⟨q3, hq3⟩ : ∃ q, q2 + 1 = q := ⟨_, rfl⟩
    have e3 : Go.IntKind.i64.wrap q3 = q3 := Go.IntWalk.i64_in _ (by omega)
    have e : Go.IntKind.i64.wrap ((i : Int) + 1) = ((i + 1 : Nat) : Int) := i64_suc (by omega)
    refine Ent.refl ?_
    simp [h, marked_length, Seen.row, setC_set, modify_set, e0, hq1, e1, hq2, e2, hq3, e3]
    refine Ent.refl ⟨i + 1, by omega, by omega, ?_⟩
    simp [setC_set, hs, hpc, e]
    refine ⟨by omega, ?_⟩
    refine marked_set h ?_
    rw [hq0]
    subst hq1 hq2 hq3
    rfl
  · have : i = l.length := by omega
    subst this
    refine Ent.refl ?_
    simp [marked_all, markL_length, Seen.row]

theorem heldSeenS_c (l : List Seen) (k : Int) (h0 : 0 ≤ k) (hk : k + cntL Seen.cnt l ≤ 4611686018427387904) (hl : l.length ≤ 2 ^ 40) : PureC Try.prog 163 [.c (.s ((markL Seen.mark Seen.cnt l k).map Seen.row)), .c (vi k)] (.one (.c (vi (k + cntL Seen.cnt l)) 1)) := by
  refine PureC.intro' tt_ok Try.func163 (by kernel_rfl) rfl rfl rfl (Nat.le_of_ble_eq_true rfl) (fun w0 base => ?_)
  simp
  refine LoopT.intro eok (fun i : Nat => i ≤ l.length) (fun i => ⟨40, 0, [(5, .v (.int .i64 i)), (1, .v (.int .i64 (k + cntL Seen.cnt (l.take i)))), (0, .ro ((markL Seen.mark Seen.cnt l k).map Seen.row))], []⟩) (fun i => l.length - i) 0 (by simp) (by simp [cntL]) (fun i hi => ?_)
  by_cases h : i < l.length
  · have hc := cntL_cell_le (cn := Seen.cnt) h
    have hs := cntL_take_suc (cn := Seen.cnt) h
    have hm := markL_cell (mk := Seen.mark) (cn := Seen.cnt) (k := k) h
    obtain ⟨q0, hq0⟩ : ∃ q, k + ((cntL Seen.cnt (l.take i) : Nat) : Int) = q := ⟨_, rfl⟩
    have hpc : l[i].cnt = 3 := rfl
    rw [hq0] at hm
    rw [hq0]
    have z0 : ¬ q0 < 0 := by omega
    have e0 : Go.IntKind.i64.wrap q0 = q0 := Go.IntWalk.i64_in _ (by omega)
    obtain ⟨q1, hq1⟩ : ∃ q, q0 + 1 = q := ⟨_, rfl⟩
    have e1 : Go.IntKind.i64.wrap q1 = q1 := Go.IntWalk.i64_in _ (by omega)
    have z1 : ¬ q1 < 0 := by omega
    obtain ⟨q2, hq2⟩ : ∃ q, q1 + 1 = q := ⟨_, rfl⟩
    have e2 : Go.IntKind.i64.wrap q2 = q2 := Go.IntWalk.i64_in _ (by omega)
    have z2 : ¬ q2 < 0 := by omega
    obtain ⟨q3, hq3⟩ : ∃ q, q2 + 1 = q := ⟨_, rfl⟩
    have e3 : Go.IntKind.i64.wrap q3 = q3 := Go.IntWalk.i64_in _ (by omega)
    have z3 : ¬ q3 < 0 := by omega
    have e : Go.IntKind.i64.wrap ((i : Int) + 1) = ((i + 1 : Nat) : Int) := i64_suc (by omega)
    simp [h, markL_length, hm, Seen.row, Seen.mark, e0, hq1, e1, z1, hq2, e2, z2, hq3, e3, z3]
    refine ⟨i + 1, by omega, by omega, ?_⟩
    simp [e, hs, hpc]
    omega
  · have : i = l.length := by omega
    subst this
    simp [markL_length]
end Go.Proofs.Ytljhopjmmcmioaa
