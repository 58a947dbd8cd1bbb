import Derived.Test.YthcdlllclbdbmaaFSame
import Derived.Test.YthcdlllclbdbmaaDNet
namespace Go.Proofs.Ythcdlllclbdbmaa
open Go.AM
set_option maxRecDepth 20000

theorem specRepSame_c (p q : Rep) (hp : nRep p ≤ 2 ^ 40) : PureC Try.prog 24 [.agg p.row, .agg q.row] (.one (.c (vb (p = q)) 1)) := by
  refine PureC.intro' tt_ok Try.func24 (by kernel_rfl) rfl rfl rfl (Nat.le_of_ble_eq_true rfl) (fun w0 base => ?_)
  obtain ⟨c1, s1, r1, t1, a1, x1, y1⟩ := p
  obtain ⟨c2, s2, r2, t2, a2, x2, y2⟩ := q
  unfold nRep at hp
  simp only at hp
  simp [Rep.row]
  intro b1 b2
  by_cases h1 : c1 = c2
  · by_cases h2 : s1 = s2
    · by_cases h3 : r1 = r2
      · simp [h1, h2, h3]
        refine ACall.pure (signsSame_c t1 t2 (by omega)) (by simp) ?_
        by_cases h4 : t1 = t2
        · by_cases h5 : a1 = a2
          · simp [h4, h5]
            refine ACall.pure (specOpSame_c' x1 x2 (by omega)) (by simp) ?_
            by_cases h6 : x1 = x2
            · simp [h6]
              refine ACall.pure (specOpSame_c' y1 y2 (by omega)) (by simp) ?_
              by_cases h7 : y1 = y2 <;> simp [h7]
            · simp [h6]
          · have e5 : (a1 == a2) = false := by simpa using h5
            simp [h4, h5, e5]
        · simp [h4]
      · simp [h1, h2, h3]
    · simp [h1, h2]
  · simp [h1]

theorem implRepSame_c (p q : Rep) (hp : nRep p ≤ 2 ^ 40) : PureC Try.prog 26 [.agg p.row, .agg q.row] (.one (.c (vb (p = q)) 1)) := by
  refine PureC.intro' tt_ok Try.func26 (by kernel_rfl) rfl rfl rfl (Nat.le_of_ble_eq_true rfl) (fun w0 base => ?_)
  obtain ⟨c1, s1, r1, t1, a1, x1, y1⟩ := p
  obtain ⟨c2, s2, r2, t2, a2, x2, y2⟩ := q
  unfold nRep at hp
  simp only at hp
  simp [Rep.row]
  intro b1 b2
  by_cases h1 : c1 = c2
  · by_cases h2 : s1 = s2
    · by_cases h3 : r1 = r2
      · simp [h1, h2, h3]
        refine ACall.pure (slEqInt_c t1 t2 (by omega)) (by simp) ?_
        by_cases h4 : t1 = t2
        · by_cases h5 : a1 = a2
          · simp [h4, h5]
            refine ACall.pure (implOpSame_c x1 x2 (by omega)) (by simp) ?_
            by_cases h6 : x1 = x2
            · simp [h6]
              refine ACall.pure (implOpSame_c y1 y2 (by omega)) (by simp) ?_
              by_cases h7 : y1 = y2 <;> simp [h7]
            · simp [h6]
          · have e5 : (a1 == a2) = false := by simpa using h5
            simp [h4, h5, e5]
        · simp [h4]
      · simp [h1, h2, h3]
    · simp [h1, h2]
  · simp [h1]

theorem seen_ext {p q : Seen} : (p = q) = (p.client = q.client ∧ p.seq = q.seq ∧ p.rev = q.rev) := by
  cases p; cases q; simp

theorem slEqSeen_c (a b : List Seen) (hl : a.length ≤ 2 ^ 40) : PureC Try.prog 143 [.c (.s (a.map Seen.row)), .c (.s (b.map Seen.row))] (.one (.c (vb (a = b)) 1)) := by
  refine PureC.intro' tt_ok Try.func143 (by kernel_rfl) rfl rfl rfl (Nat.le_of_ble_eq_true rfl) (fun w0 base => ?_)
  by_cases h : a.length = b.length
  · simp [h]
    refine LoopT.intro eok (fun i : Nat => i ≤ a.length ∧ a.take i = b.take i) (fun i => ⟨26, 0, [(13, .v (.int .i64 i)), (12, .v (.int .i64 b.length)), (1, .ro (b.map Seen.row)), (0, .ro (a.map Seen.row))], []⟩) (fun i => a.length - i) 0 (by simp) (by simp) (fun i hi => ?_)
    by_cases hlt : i < a.length
    · have hlt' : i < b.length := by omega
      simp [hlt']
      refine DrawT.quiet eok mix (by kernel_rfl) ?_
      simp [hlt, hlt', Seen.row]
      have hx := seen_ext (p := a[i]) (q := b[i])
      by_cases h1 : a[i] = b[i]
      · have h2 := h1
        rw [hx] at h2
        simp [h2]
        exact ⟨i + 1, ⟨by omega, take_next hlt hlt' hi.2 h1⟩, by omega, i64_suc (by omega)⟩
      · have h2 := h1
        rw [hx] at h2
        have h3 : dc (a[i].client = b[i].client ∧ a[i].seq = b[i].seq ∧ a[i].rev = b[i].rev) = false := by rw [dc_no]; exact h2
        simp [h3, dc_no]
        exact ne_at hlt hlt' h1
    · have hlt' : ¬ i < b.length := by omega
      simp [hlt', dc_yes]
      exact take_all (by omega) (by omega) hi.2
  · have hz : ¬ (a.length : Int) = b.length := by omega
    simp [hz, dc_no]
    exact fun h2 => absurd (by rw [h2]) h

theorem specEntrySame_c (p q : Entry) (hl : nEntry p ≤ 2 ^ 40) : PureC Try.prog 139 [.agg p.row, .agg q.row] (.one (.c (vb (p = q)) 1)) := by
  refine PureC.intro' tt_ok Try.func139 (by kernel_rfl) rfl rfl rfl (Nat.le_of_ble_eq_true rfl) (fun w0 base => ?_)
  obtain ⟨k1, n1, s1⟩ := p
  obtain ⟨k2, n2, s2⟩ := q
  simp [Entry.row]
  intro b1 b2
  by_cases h1 : k1 = k2
  · by_cases h2 : n1 = n2
    · simp [h1, h2]
      refine ACall.pure (specOpSame_c' s1 s2 hl) (by simp) ?_
      simp
    · simp [h1, h2]
  · simp [h1]

theorem implEntrySame_c (p q : Entry) (hl : nEntry p ≤ 2 ^ 40) : PureC Try.prog 142 [.agg p.row, .agg q.row] (.one (.c (vb (p = q)) 1)) := by
  refine PureC.intro' tt_ok Try.func142 (by kernel_rfl) rfl rfl rfl (Nat.le_of_ble_eq_true rfl) (fun w0 base => ?_)
  obtain ⟨k1, n1, s1⟩ := p
  obtain ⟨k2, n2, s2⟩ := q
  simp [Entry.row]
  intro b1 b2
  by_cases h1 : k1 = k2
  · by_cases h2 : n1 = n2
    · simp [h1, h2]
      refine ACall.pure (implOpSame_c s1 s2 hl) (by simp) ?_
      simp
    · simp [h1, h2]
  · simp [h1]

theorem equalFuncEntry_c (a b : List Entry) (hs : nL nEntry a ≤ 2 ^ 40) : PureC Try.prog 141 [.c (.s (a.map Entry.row)), .c (.s (b.map Entry.row)), .c (.v (.func (.func 142) #[] #[]))] (.one (.c (vb (a = b)) 1)) := by
  have hl := nL_len hs
  refine PureC.intro' tt_ok Try.func141 (by kernel_rfl) rfl rfl rfl (Nat.le_of_ble_eq_true rfl) (fun w0 base => ?_)
  by_cases h : a.length = b.length
  · simp [h]
    refine LoopT.intro eok (fun i : Nat => i ≤ a.length ∧ a.take i = b.take i) (fun i => ⟨32, 0, [(17, .v (.int .i64 i)), (16, .v (.int .i64 b.length)), (15, .ro (a.map Entry.row)), (2, .v (.func (.func 142) #[] #[])), (1, .ro (b.map Entry.row))], []⟩) (fun i => a.length - i) 0 (by simp) (by simp) (fun i hi => ?_)
    by_cases hlt : i < a.length
    · have hlt' : i < b.length := by omega
      simp [hlt, hlt', Entry.row]
      intro b1 b2
      refine ACall.pure (implEntrySame_c a[i] b[i] (nL_mem hs (List.getElem_mem hlt))) (by simp [Entry.row]) ?_
      simp
      refine Br.mk (fun h1 => ?_) (fun h1 => ?_)
      · simp
        exact ⟨i + 1, ⟨by omega, take_next hlt hlt' hi.2 (of_yes h1)⟩, by omega, i64_suc (by omega)⟩
      · simp [dc_no]
        exact ne_at hlt hlt' (of_no h1)
    · have hlt' : ¬ i < b.length := by omega
      simp [hlt', dc_yes]
      exact take_all (by omega) (by omega) hi.2
  · have hz : ¬ (a.length : Int) = b.length := by omega
    simp [hz, dc_no]
    exact fun h2 => absurd (by rw [h2]) h

theorem equalFuncRep_c (a b : List Rep) (hs : nL nRep a ≤ 2 ^ 40) : PureC Try.prog 104 [.c (.s (a.map Rep.row)), .c (.s (b.map Rep.row)), .c (.v (.func (.func 26) #[] #[]))] (.one (.c (vb (a = b)) 1)) := by
  have hl := nL_len hs
  refine PureC.intro' tt_ok Try.func104 (by kernel_rfl) rfl rfl rfl (Nat.le_of_ble_eq_true rfl) (fun w0 base => ?_)
  by_cases h : a.length = b.length
  · simp [h]
    refine LoopT.intro eok (fun i : Nat => i ≤ a.length ∧ a.take i = b.take i) (fun i => ⟨32, 0, [(17, .v (.int .i64 i)), (16, .v (.int .i64 b.length)), (15, .ro (a.map Rep.row)), (2, .v (.func (.func 26) #[] #[])), (1, .ro (b.map Rep.row))], []⟩) (fun i => a.length - i) 0 (by simp) (by simp) (fun i hi => ?_)
    by_cases hlt : i < a.length
    · have hlt' : i < b.length := by omega
      simp [hlt, hlt', Rep.row]
      intro b1 b2
      refine ACall.pure (implRepSame_c a[i] b[i] (nL_mem hs (List.getElem_mem hlt))) (by simp [Rep.row]) ?_
      simp
      refine Br.mk (fun h1 => ?_) (fun h1 => ?_)
      · simp
        exact ⟨i + 1, ⟨by omega, take_next hlt hlt' hi.2 (of_yes h1)⟩, by omega, i64_suc (by omega)⟩
      · simp [dc_no]
        exact ne_at hlt hlt' (of_no h1)
    · have hlt' : ¬ i < b.length := by omega
      simp [hlt', dc_yes]
      exact take_all (by omega) (by omega) hi.2
  · have hz : ¬ (a.length : Int) = b.length := by omega
    simp [hz, dc_no]
    exact fun h2 => absurd (by rw [h2]) h

theorem implDocSame_c (p q : Doc) (hl : nDoc p ≤ 2 ^ 40) : PureC Try.prog 103 [.agg p.row, .agg q.row] (.one (.c (vb (p = q)) 1)) := by
  refine PureC.intro' tt_ok Try.func103 (by kernel_rfl) rfl rfl rfl (Nat.le_of_ble_eq_true rfl) (fun w0 base => ?_)
  obtain ⟨n1, f1, t1, l1, s1⟩ := p
  obtain ⟨n2, f2, t2, l2, s2⟩ := q
  unfold nDoc at hl
  simp only at hl
  simp [Doc.row]
  intro b1 b2
  by_cases h1 : n1 = n2
  · by_cases h2 : f1 = f2
    · simp [h1, h2]
      refine ACall.pure (slEqInt_c t1 t2 (by omega)) (by simp) ?_
      by_cases h3 : t1 = t2
      · simp [h3]
        refine ACall.pure (equalFuncEntry_c l1 l2 (by omega)) (by simp) ?_
        by_cases h4 : l1 = l2
        · simp [h4]
          refine ACall.pure (slEqSeen_c s1 s2 (by omega)) (by simp) ?_
          simp
        · simp [h4]
      · simp [h3]
    · simp [h1, h2]
  · simp [h1]

theorem implNetSame_i (p q : Net) (hl : nNet p ≤ 2 ^ 40) : PureC Try.prog 46 [.agg p.row, .agg q.row] (.one (.c (vb (p = q)) 1)) := by
  refine PureC.intro' tt_ok Try.func46 (by kernel_rfl) rfl rfl rfl (Nat.le_of_ble_eq_true rfl) (fun w0 base => ?_)
  obtain ⟨d1, r1⟩ := p
  obtain ⟨d2, r2⟩ := q
  unfold nNet at hl
  simp only at hl
  simp [Net.row]
  intro b1 b2
  refine ACall.pure (implDocSame_c d1 d2 (by omega)) (by simp [Doc.row]) ?_
  by_cases h1 : d1 = d2
  · simp [h1]
    refine ACall.pure (equalFuncRep_c r1 r2 (by omega)) (by simp) ?_
    simp
  · simp [h1]
end Go.Proofs.Ythcdlllclbdbmaa
