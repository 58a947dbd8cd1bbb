import Derived.Test.YthcdlllclbdbmaaFNetSame
namespace Go.Proofs.Ythcdlllclbdbmaa
open Go.AM
set_option maxRecDepth 20000

theorem specDocSame_c (p q : Doc) (hl : nDoc p ≤ 2 ^ 40) : PureC Try.prog 100 [.agg p.row, .agg q.row] (.one (.c (vb (p = q)) 1)) := by
  refine PureC.intro' tt_ok Try.func100 (by kernel_rfl) rfl rfl rfl (Nat.le_of_ble_eq_true rfl) (fun w0 base => ?_)
  obtain ⟨n1, f1, t1, l1, s1⟩ := p
  obtain ⟨n2, f2, t2, l2, s2⟩ := q
  unfold nDoc at hl
  simp only at hl
  simp [Doc.row]
  intro b1 b2
  by_cases h1 : n1 = n2
  rotate_left
  · simp [h1]
  by_cases h2 : f1 = f2
  rotate_left
  · simp [h1, h2]
  simp [h1, h2]
  refine ACall.pure (signsSame_c t1 t2 (by omega)) (by simp) ?_
  by_cases h3 : t1 = t2
  rotate_left
  · simp [h3]
  subst h3
  by_cases h4 : l1.length = l2.length
  rotate_left
  · have h42 : ¬ (l1.length : Int) = l2.length := by omega
    have h43 : ¬ l1 = l2 := fun h => h4 (by rw [h])
    simp [h42, h43]
  by_cases h5 : s1.length = s2.length
  rotate_left
  · have h52 : ¬ (s1.length : Int) = s2.length := by omega
    have h53 : ¬ s1 = s2 := fun h => h5 (by rw [h])
    simp [h4, h52, h53]
  simp [h4, h5]
  refine LoopT.intro eok (fun i : Nat => i ≤ l1.length ∧ l1.take i = l2.take i) (fun i => ⟨80, 0, [(2, .p 32 b1 0), (3, .p 48 b2 0), (50, .v (.int .i64 i)), (49, .v (.int .i64 l2.length)), (48, .ro (l1.map Entry.row))],
    [(32, .vars b1 78 [.v (.string n2), .v (.int .i64 f2), .ro (t1.map intR), .ro (l1.map Entry.row), .ro (s1.map Seen.row)]), (48, .vars b2 78 [.v (.string n2), .v (.int .i64 f2), .ro (t1.map intR), .ro (l2.map Entry.row), .ro (s2.map Seen.row)])]⟩) (fun i => l1.length - i) 0 (by simp) (by simp) (fun i hi => ?_)
  by_cases hlt : i < l1.length
  · have hlt' : i < l2.length := by omega
    have hll := nL_len (f := nEntry) (B := 2 ^ 40) (l := l1) (by omega)
    have hm := nL_mem (f := nEntry) (B := 2 ^ 40) (l := l1) (by omega) (List.getElem_mem hlt)
    simp [hlt, hlt', Entry.row]
    intro b6
    refine DrawT.quiet eok mix (by kernel_rfl) ?_
    simp [hlt, hlt', Entry.row]
    refine ⟨_, _, specEntrySame_c l1[i] l2[i] hm, by simp [Entry.row], ?_⟩
    simp
    by_cases h6 : l1[i] = l2[i]
    · simp [h6]
      exact ⟨i + 1, ⟨by omega, take_next hlt hlt' hi.2 h6⟩, by omega, i64_suc (by omega)⟩
    · have h7 := ne_at hlt hlt' h6
      simp [h6, h7]
  have hlt' : ¬ i < l2.length := by omega
  have hll := take_all (by omega) h4 hi.2
  subst hll
  simp [hlt', h5]
  refine LoopT.intro eok (fun i : Nat => i ≤ s1.length ∧ s1.take i = s2.take i) (fun i => ⟨80, 0, [(2, .p 32 b1 0), (3, .p 48 b2 0), (67, .v (.int .i64 i)), (66, .v (.int .i64 s2.length)), (65, .ro (s1.map Seen.row))],
    [(32, .vars b1 78 [.v (.string n2), .v (.int .i64 f2), .ro (t1.map intR), .ro (l1.map Entry.row), .ro (s1.map Seen.row)]), (48, .vars b2 78 [.v (.string n2), .v (.int .i64 f2), .ro (t1.map intR), .ro (l1.map Entry.row), .ro (s2.map Seen.row)])]⟩) (fun i => s1.length - i) 0 (by simp) (by simp) (fun i hi => ?_)
  by_cases hlt : i < s1.length
  · have hlt' : i < s2.length := by omega
    simp [hlt, hlt', Seen.row]
    intro b8
    refine DrawT.quiet eok mix (by kernel_rfl) ?_
    simp [hlt, hlt', Seen.row]
    have hx := seen_ext (p := s1[i]) (q := s2[i])
    by_cases h1 : s1[i] = s2[i]
    · have h2 := h1
      rw [hx] at h2
      simp [h2]
      exact ⟨i + 1, ⟨by omega, take_next hlt hlt' hi.2 h1⟩, by omega, i64_suc (by omega)⟩
    · have h2 := h1
      rw [hx] at h2
      have h3 : dc (s1[i].client = s2[i].client ∧ s1[i].seq = s2[i].seq ∧ s1[i].rev = s2[i].rev) = false := by rw [dc_no]; exact h2
      have h7 := ne_at hlt hlt' h1
      simp [h3, h7]
  have hlt' : ¬ i < s2.length := by omega
  have hll := take_all (by omega) h5 hi.2
  subst hll
  simp [hlt']

theorem specNetSame_i (p q : Net) (hl : nNet p ≤ 2 ^ 40) : PureC Try.prog 44 [.agg p.row, .agg q.row] (.one (.c (vb (p = q)) 1)) := by
  refine PureC.intro' tt_ok Try.func44 (by kernel_rfl) rfl rfl rfl (Nat.le_of_ble_eq_true rfl) (fun w0 base => ?_)
  obtain ⟨d1, r1⟩ := p
  obtain ⟨d2, r2⟩ := q
  unfold nNet at hl
  simp only at hl
  simp [Net.row]
  intro b1 b2
  refine ACall.pure (specDocSame_c d1 d2 (by omega)) (by simp [Doc.row]) ?_
  by_cases h1 : d1 = d2
  rotate_left
  · simp [h1]
  subst h1
  by_cases h4 : r1.length = r2.length
  rotate_left
  · have h42 : ¬ (r1.length : Int) = r2.length := by omega
    have h43 : ¬ r1 = r2 := fun h => h4 (by rw [h])
    simp [h42, h43]
  simp [h4]
  refine LoopT.intro eok (fun i : Nat => i ≤ r1.length ∧ r1.take i = r2.take i) (fun i => ⟨39, 0, [(2, .p 32 b1 0), (3, .p 48 b2 0), (25, .v (.int .i64 i)), (24, .v (.int .i64 r2.length)), (23, .ro (r1.map Rep.row))],
    [(48, .vars b2 81 [.v (.string d1.name), .v (.int .i64 d1.fr), .ro (d1.text.map intR), .ro (d1.list.map Entry.row), .ro (d1.seen.map Seen.row), .ro (r2.map Rep.row)])]⟩) (fun i => r1.length - i) 0 (by simp) (by simp) (fun i hi => ?_)
  by_cases hlt : i < r1.length
  · have hlt' : i < r2.length := by omega
    have hll := nL_len (f := nRep) (B := 2 ^ 40) (l := r1) (by omega)
    have hm := nL_mem (f := nRep) (B := 2 ^ 40) (l := r1) (by omega) (List.getElem_mem hlt)
    simp [hlt, hlt', Rep.row]
    intro b6
    refine DrawT.quiet eok mix (by kernel_rfl) ?_
    simp [hlt, hlt', Rep.row]
    refine ⟨_, _, specRepSame_c r1[i] r2[i] hm, by simp [Rep.row], ?_⟩
    simp
    by_cases h6 : r1[i] = r2[i]
    · simp [h6]
      exact ⟨i + 1, ⟨by omega, take_next hlt hlt' hi.2 h6⟩, by omega, i64_suc (by omega)⟩
    · have h7 := ne_at hlt hlt' h6
      simp [h6, h7]
  have hlt' : ¬ i < r2.length := by omega
  have hll := take_all (by omega) h4 hi.2
  subst hll
  simp [hlt']

noncomputable def fNetSame (p q : Net) : Bool := dc (p = q)
theorem fNetSame_b (p : Net) (_ : p.fits) (_ : nNet p ≤ 2 ^ 20) (q : Net) (_ : q.fits) (_ : nNet q ≤ 2 ^ 20) : True := trivial
theorem specNetSame_c (p : Net) (_ : p.fits) (h : nNet p ≤ 2 ^ 20) (q : Net) (_ : q.fits) (_ : nNet q ≤ 2 ^ 20) : PureC Try.prog 44 [.agg p.row, .agg q.row] (.one (.c (.v (.bool (fNetSame p q))) 1)) := specNetSame_i p q (by omega)
theorem implNetSame_c (p : Net) (_ : p.fits) (h : nNet p ≤ 2 ^ 20) (q : Net) (_ : q.fits) (_ : nNet q ≤ 2 ^ 20) : PureC Try.prog 46 [.agg p.row, .agg q.row] (.one (.c (.v (.bool (fNetSame p q))) 1)) := implNetSame_i p q (by omega)
end Go.Proofs.Ythcdlllclbdbmaa
