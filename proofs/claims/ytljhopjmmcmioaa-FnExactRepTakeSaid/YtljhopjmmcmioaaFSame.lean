import Derived.Test.YtljhopjmmcmioaaFOp
namespace Go.Proofs.Ytljhopjmmcmioaa
open Go.AM
set_option maxRecDepth 20000

theorem slEqInt_c (a b : List Int) (hl : a.length ≤ 2 ^ 40) : PureC Try.prog 116 [.c (.s (a.map intR)), .c (.s (b.map intR))] (.one (.c (vb (a = b)) 1)) := by
  refine PureC.intro' tt_ok Try.func116 (by kernel_rfl) rfl rfl rfl (Nat.le_of_ble_eq_true rfl) (fun w0 base => ?_)
  by_cases h : a.length = b.length
  · simp [h]
    refine LoopT.intro eok (fun i : Nat => i ≤ a.length ∧ a.take i = b.take i) (fun i => ⟨26, 0, [(13, .v (.int .i64 i)), (12, .v (.int .i64 b.length)), (1, .ro (b.map intR)), (0, .ro (a.map intR))], []⟩) (fun i => a.length - i) 0 (by simp) (by simp) (fun i hi => ?_)
    by_cases hlt : i < a.length
    · have hlt' : i < b.length := by omega
      simp [hlt']
      refine DrawT.quiet eok mix (by kernel_rfl) ?_
      simp [hlt, hlt']
      refine Br.mk (fun h1 => ?_) (fun h1 => ?_)
      · simp
        exact ⟨i + 1, ⟨by omega, take_next hlt hlt' hi.2 (of_yes h1)⟩, by omega, i64_suc (by omega)⟩
      · simp [dc_no]
        exact ne_at hlt hlt' (of_no h1)
    · have hlt' : ¬ i < b.length := by omega
      simp [hlt', dc_yes]
      exact take_all (by omega) (by omega) hi.2
  · have hz : ¬ (a.length : Int) = b.length := by omega
    simp [hz, dc_no]
    exact fun h2 => absurd (by rw [h2]) h

theorem signsSame_c (a b : List Int) (hl : a.length ≤ 2 ^ 40) : PureC Try.prog 112 [.c (.s (a.map intR)), .c (.s (b.map intR))] (.one (.c (vb (a = b)) 1)) := by
  refine PureC.intro' tt_ok Try.func112 (by kernel_rfl) rfl rfl rfl (Nat.le_of_ble_eq_true rfl) (fun w0 base => ?_)
  by_cases h : a.length = b.length
  · simp [h]
    refine LoopT.intro eok (fun i : Nat => i ≤ a.length ∧ a.take i = b.take i) (fun i => ⟨26, 0, [(13, .v (.int .i64 i)), (12, .v (.int .i64 b.length)), (1, .ro (b.map intR)), (0, .ro (a.map intR))], []⟩) (fun i => a.length - i) 0 (by simp) (by simp) (fun i hi => ?_)
    by_cases hlt : i < a.length
    · have hlt' : i < b.length := by omega
      simp [hlt']
      refine DrawT.quiet eok mix (by kernel_rfl) ?_
      simp [hlt, hlt']
      refine Br.mk (fun h1 => ?_) (fun h1 => ?_)
      · simp
        exact ⟨i + 1, ⟨by omega, take_next hlt hlt' hi.2 (of_yes h1)⟩, by omega, i64_suc (by omega)⟩
      · simp [dc_no]
        exact ne_at hlt hlt' (of_no h1)
    · have hlt' : ¬ i < b.length := by omega
      simp [hlt', dc_yes]
      exact take_all (by omega) (by omega) hi.2
  · have hz : ¬ (a.length : Int) = b.length := by omega
    simp [hz, dc_no]
    exact fun h2 => absurd (by rw [h2]) h

theorem samePart_c (p q : Part) (hl : p.signs.length ≤ 2 ^ 40) : PureC Try.prog 160 [.agg p.row, .agg q.row] (.one (.c (vb (p = q)) 1)) := by
  refine PureC.intro' tt_ok Try.func160 (by kernel_rfl) rfl rfl rfl (Nat.le_of_ble_eq_true rfl) (fun w0 base => ?_)
  obtain ⟨k1, n1, s1⟩ := p
  obtain ⟨k2, n2, s2⟩ := q
  simp [Part.row]
  intro b1 b2
  by_cases h1 : k1 = k2
  · by_cases h2 : n1 = n2
    · simp [h1, h2]
      refine ACall.pure (slEqInt_c s1 s2 hl) (by simp) ?_
      simp
    · simp [h1, h2]
  · simp [h1]

theorem equalFunc_c (a b : List Part) (hl : a.length ≤ 2 ^ 40) (hs : ∀ p ∈ a, p.signs.length ≤ 2 ^ 40) : PureC Try.prog 159 [.c (.s (a.map Part.row)), .c (.s (b.map Part.row)), .c (.v (.func (.func 160) #[] #[]))] (.one (.c (vb (a = b)) 1)) := by
  refine PureC.intro' tt_ok Try.func159 (by kernel_rfl) rfl rfl rfl (Nat.le_of_ble_eq_true rfl) (fun w0 base => ?_)
  by_cases h : a.length = b.length
  · simp [h]
    refine LoopT.intro eok (fun i : Nat => i ≤ a.length ∧ a.take i = b.take i) (fun i => ⟨32, 0, [(17, .v (.int .i64 i)), (16, .v (.int .i64 b.length)), (15, .ro (a.map Part.row)), (2, .v (.func (.func 160) #[] #[])), (1, .ro (b.map Part.row))], []⟩) (fun i => a.length - i) 0 (by simp) (by simp) (fun i hi => ?_)
    by_cases hlt : i < a.length
    · have hlt' : i < b.length := by omega
      simp [hlt, hlt', Part.row]
      intro b1 b2
      refine ACall.pure (samePart_c a[i] b[i] (hs _ (List.getElem_mem hlt))) (by simp [Part.row]) ?_
      simp
      refine Br.mk (fun h1 => ?_) (fun h1 => ?_)
      · simp
        exact ⟨i + 1, ⟨by omega, take_next hlt hlt' hi.2 (of_yes h1)⟩, by omega, i64_suc (by omega)⟩
      · simp [dc_no]
        exact ne_at hlt hlt' (of_no h1)
    · have hlt' : ¬ i < b.length := by omega
      simp [hlt', dc_yes]
      exact take_all (by omega) (by omega) hi.2
  · have hz : ¬ (a.length : Int) = b.length := by omega
    simp [hz, dc_no]
    exact fun h2 => absurd (by rw [h2]) h

theorem opSame_c (a b : List Part) (hl : a.length ≤ 2 ^ 40) (hs : ∀ p ∈ a, p.signs.length ≤ 2 ^ 40) : PureC Try.prog 98 [.c (.s (a.map Part.row)), .c (.s (b.map Part.row))] (.one (.c (vb (a = b)) 1)) := by
  refine PureC.intro' tt_ok Try.func98 (by kernel_rfl) rfl rfl rfl (Nat.le_of_ble_eq_true rfl) (fun w0 base => ?_)
  simp
  refine ACall.pure (equalFunc_c a b hl hs) (by simp) ?_
  simp

theorem specOpSame_c (a b : List Part) (hl : a.length ≤ 2 ^ 40) (hs : ∀ p ∈ a, p.signs.length ≤ 2 ^ 40) : PureC Try.prog 94 [.c (.s (a.map Part.row)), .c (.s (b.map Part.row))] (.one (.c (vb (a = b)) 1)) := by
  refine PureC.intro' tt_ok Try.func94 (by kernel_rfl) rfl rfl rfl (Nat.le_of_ble_eq_true rfl) (fun w0 base => ?_)
  by_cases h : a.length = b.length
  · simp [h]
    refine LoopT.intro eok (fun i : Nat => i ≤ a.length ∧ a.take i = b.take i) (fun i => ⟨49, 0, [(14, .v (.int .i64 i)), (13, .v (.int .i64 b.length)), (12, .ro (a.map Part.row)), (1, .ro (b.map Part.row))], []⟩) (fun i => a.length - i) 0 (by simp) (by simp) (fun i hi => ?_)
    by_cases hlt : i < a.length
    · have hlt' : i < b.length := by omega
      simp [hlt, hlt', Part.row]
      intro b1
      refine DrawT.quiet eok mix (by kernel_rfl) ?_
      simp [hlt', Part.row]
      by_cases h1 : a[i].kind = b[i].kind
      · by_cases h2 : a[i].n = b[i].n
        · simp [h1, h2, hlt', Part.row]
          refine ⟨_, _, signsSame_c a[i].signs b[i].signs (hs _ (List.getElem_mem hlt)), by simp, ?_⟩
          simp
          by_cases h3 : a[i].signs = b[i].signs
          · simp [h3]
            have he : a[i] = b[i] := by
              cases hx : a[i]; cases hy : b[i]
              rw [hx, hy] at h1 h2 h3
              simp at h1 h2 h3
              rw [h1, h2, h3]
            exact ⟨i + 1, ⟨by omega, take_next hlt hlt' hi.2 he⟩, by omega, i64_suc (by omega)⟩
          · simp [h3, dc_no]
            exact ne_at hlt hlt' (fun he => h3 (by rw [he]))
        · simp [h1, h2, hlt', Part.row, dc_no]
          exact ne_at hlt hlt' (fun he => h2 (by rw [he]))
      · simp [h1, dc_no]
        exact ne_at hlt hlt' (fun he => h1 (by rw [he]))
    · have hlt' : ¬ i < b.length := by omega
      simp [hlt', dc_yes]
      exact take_all (by omega) (by omega) hi.2
  · have hz : ¬ (a.length : Int) = b.length := by omega
    simp [hz, dc_no]
    exact fun h2 => absurd (by rw [h2]) h

theorem implOpSame_c (a b : List Part) (h : nL nPart a ≤ 2 ^ 40) : PureC Try.prog 98 [.c (.s (a.map Part.row)), .c (.s (b.map Part.row))] (.one (.c (vb (a = b)) 1)) := opSame_c a b (nL_len h) (fun p hp => nL_mem h hp)
theorem specOpSame_c' (a b : List Part) (h : nL nPart a ≤ 2 ^ 40) : PureC Try.prog 94 [.c (.s (a.map Part.row)), .c (.s (b.map Part.row))] (.one (.c (vb (a = b)) 1)) := specOpSame_c a b (nL_len h) (fun p hp => nL_mem h hp)
end Go.Proofs.Ytljhopjmmcmioaa
