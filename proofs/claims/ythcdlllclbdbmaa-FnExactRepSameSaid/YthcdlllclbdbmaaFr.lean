import Derived.Test.YthcdlllclbdbmaaFs
namespace Go.Proofs.Ythcdlllclbdbmaa
open Go.AM
set_option maxRecDepth 20000

structure Rep where
  client : Int
  seq : Int
  rev : Int
  text : List Int
  has : Bool
  sent : List Part
  buf : List Part

def Rep.row (r : Rep) : List CD := [vi r.client, vi r.seq, vi r.rev, .s (r.text.map intR), .v (.bool r.has), .s (r.sent.map Part.row), .s (r.buf.map Part.row)]
def Rep.res (r : Rep) : List (CD × Nat) := [(vi r.client, 1), (vi r.seq, 1), (vi r.rev, 1), (.s (r.text.map intR), 1), (.v (.bool r.has), 1), (.s (r.sent.map Part.row), 3), (.s (r.buf.map Part.row), 3)]

def partsOk (l : List Part) : Prop := l.length ≤ 9223372036854775807 ∧ ∀ p ∈ l, p.signs.length ≤ 9223372036854775807
def Rep.fits (r : Rep) : Prop := r.text.length ≤ 9223372036854775807 ∧ partsOk r.sent ∧ partsOk r.buf
def nParts (l : List Part) : Nat := l.length + sumN nPart l
def nRep (r : Rep) : Nat := r.text.length + (nParts r.sent + nParts r.buf)
def partsSm (l : List Part) : Prop := l.length ≤ 2 ^ 30 ∧ ∀ p ∈ l, p.signs.length ≤ 2 ^ 40
def Rep.sm (r : Rep) : Prop := r.text.length ≤ 2 ^ 40 ∧ partsSm r.sent ∧ partsSm r.buf

@[simp] theorem Part.row_len {p : Part} : p.row.length = 3 := rfl
theorem sumN_mem {α : Type} {f : α → Nat} : ∀ {l : List α} {a : α}, a ∈ l → f a ≤ sumN f l
  | b :: l, a, h => by
    simp only [sumN]
    rcases List.mem_cons.1 h with rfl | h
    · omega
    · have := sumN_mem (f := f) h; omega
theorem parts_sm {l : List Part} (h : nParts l ≤ 2 ^ 20) : partsSm l := by
  unfold nParts at h
  refine ⟨by omega, fun p hp => ?_⟩
  have h1 : nPart p ≤ sumN nPart l := sumN_mem hp
  have h2 : nPart p = p.signs.length := rfl
  omega
theorem rep_sm {r : Rep} (h : nRep r ≤ 2 ^ 20) : r.sm := by
  unfold nRep at h
  exact ⟨by omega, parts_sm (by omega), parts_sm (by omega)⟩

theorem szParts_c (l : List Part) (h : partsOk l) (left : Nat) (hf : left ≤ 2 ^ 20) : PureC Try.prog 33 [.c (.s (l.map Part.row)), .c (vi left)] (.one (.c (vi (szR (nParts l) left)) 1)) := szPartS_c l h.1 h.2 left hf
theorem szInts_c (l : List Int) (hl : l.length ≤ 9223372036854775807) (left : Nat) (hf : left ≤ 2 ^ 20) : PureC Try.prog 68 [.c (.s (l.map intR)), .c (vi left)] (.one (.c (vi (szR l.length left)) 1)) := szIntS_c l hl left hf

theorem szRep_c (r : Rep) (hr : r.fits) (left : Nat) (hf : left ≤ 2 ^ 20) : PureC Try.prog 23 [.agg r.row, .c (vi left)] (.one (.c (vi (szR (nRep r) left)) 1)) := by
  refine PureC.intro' tt_ok Try.func23 (by kernel_rfl) rfl rfl rfl (Nat.le_of_ble_eq_true rfl) (fun w0 base => ?_)
  obtain ⟨h1, h2, h3⟩ := hr
  simp [Rep.row]
  intro b
  refine ACall.pure (szInts_c r.text h1 left hf) (by simp) ?_
  by_cases k1 : r.text.length ≤ left
  · rw [szR_ok k1]
    obtain ⟨m1, hm1⟩ : ∃ m1, left - r.text.length = m1 := ⟨_, rfl⟩
    rw [hm1]
    simp
    refine ACall.pure (szParts_c r.sent h2 m1 (by omega)) (by simp) ?_
    by_cases k2 : nParts r.sent ≤ m1
    · rw [szR_ok k2]
      obtain ⟨m2, hm2⟩ : ∃ m2, m1 - nParts r.sent = m2 := ⟨_, rfl⟩
      rw [hm2]
      simp
      refine ACall.pure (szParts_c r.buf h3 m2 (by omega)) (by simp) ?_
      by_cases k3 : nParts r.buf ≤ m2
      · rw [szR_ok k3, szR_ok (show nRep r ≤ left by unfold nRep; omega)]
        simp
        unfold nRep
        omega
      · rw [szR_no k3, szR_no (show ¬ nRep r ≤ left by unfold nRep; omega)]
        simp
    · rw [szR_no k2, szR_no (show ¬ nRep r ≤ left by unfold nRep; omega)]
      simp
  · rw [szR_no k1, szR_no (show ¬ nRep r ≤ left by unfold nRep; omega)]
    simp

theorem toRep_c (r : Rep) (hr : r.sm) : PureC Try.prog 25 [.agg r.row] (.one (.agg r.res)) := by
  refine PureC.intro' tt_ok Try.func25 (by kernel_rfl) rfl rfl rfl (Nat.le_of_ble_eq_true rfl) (fun w0 base => ?_)
  simp [Rep.row, Rep.res]
  intro b1 b2 b3
  refine ACall.pure (toIntS_c r.text hr.1) (by simp) ?_
  simp
  intro H1
  refine ACall.pure (toPartS_c r.sent hr.2.1.1 hr.2.1.2) (by simp) ?_
  simp
  intro H2
  refine ACall.pure (toPartS_c r.buf hr.2.2.1 hr.2.2.2) (by simp) ?_
  simp

theorem eqRep_c (p q : Rep) (hp : p.sm) : PureC Try.prog 27 [.agg p.row, .agg q.row] (.one (.c (vb (p = q)) 1)) := by
  refine PureC.intro' tt_ok Try.func27 (by kernel_rfl) rfl rfl rfl (Nat.le_of_ble_eq_true rfl) (fun w0 base => ?_)
  obtain ⟨c1, s1, r1, t1, a1, x1, y1⟩ := p
  obtain ⟨c2, s2, r2, t2, a2, x2, y2⟩ := q
  obtain ⟨hp1, hp2, hp3⟩ := hp
  simp [Rep.row]
  intro b1 b2
  by_cases h1 : c1 = c2
  · by_cases h2 : s1 = s2
    · by_cases h3 : r1 = r2
      · simp [h1, h2, h3]
        refine ACall.pure (eqIntS_c t1 t2 hp1) (by simp) ?_
        by_cases h4 : t1 = t2
        · by_cases h5 : a1 = a2
          · simp [h4, h5]
            refine ACall.pure (eqPartS_c x1 x2 hp2.1 hp2.2) (by simp) ?_
            by_cases h6 : x1 = x2
            · simp [h6]
              refine ACall.pure (eqPartS_c y1 y2 hp3.1 hp3.2) (by simp) ?_
              by_cases h7 : y1 = y2 <;> simp [h7]
            · simp [h6]
          · have e5 : (a1 == a2) = false := by simpa using h5
            simp [h4, h5, e5]
        · simp [h4]
      · simp [h1, h2, h3]
    · simp [h1, h2]
  · simp [h1]

theorem specRepSame_c (p q : Rep) (hp : p.sm) : PureC Try.prog 24 [.agg p.row, .agg q.row] (.one (.c (vb (p = q)) 1)) := by
  refine PureC.intro' tt_ok Try.func24 (by kernel_rfl) rfl rfl rfl (Nat.le_of_ble_eq_true rfl) (fun w0 base => ?_)
  obtain ⟨c1, s1, r1, t1, a1, x1, y1⟩ := p
  obtain ⟨c2, s2, r2, t2, a2, x2, y2⟩ := q
  obtain ⟨hp1, hp2, hp3⟩ := hp
  simp [Rep.row]
  intro b1 b2
  by_cases h1 : c1 = c2
  · by_cases h2 : s1 = s2
    · by_cases h3 : r1 = r2
      · simp [h1, h2, h3]
        refine ACall.pure (signsSame_c t1 t2 hp1) (by simp) ?_
        by_cases h4 : t1 = t2
        · by_cases h5 : a1 = a2
          · simp [h4, h5]
            refine ACall.pure (specOpSame_c x1 x2 hp2.1 hp2.2) (by simp) ?_
            by_cases h6 : x1 = x2
            · simp [h6]
              refine ACall.pure (specOpSame_c y1 y2 hp3.1 hp3.2) (by simp) ?_
              by_cases h7 : y1 = y2 <;> simp [h7]
            · simp [h6]
          · have e5 : (a1 == a2) = false := by simpa using h5
            simp [h4, h5, e5]
        · simp [h4]
      · simp [h1, h2, h3]
    · simp [h1, h2]
  · simp [h1]

theorem repSame_c (p q : Rep) (hp : p.sm) : PureC Try.prog 26 [.agg p.row, .agg q.row] (.one (.c (vb (p = q)) 1)) := by
  refine PureC.intro' tt_ok Try.func26 (by kernel_rfl) rfl rfl rfl (Nat.le_of_ble_eq_true rfl) (fun w0 base => ?_)
  obtain ⟨c1, s1, r1, t1, a1, x1, y1⟩ := p
  obtain ⟨c2, s2, r2, t2, a2, x2, y2⟩ := q
  obtain ⟨hp1, hp2, hp3⟩ := hp
  simp [Rep.row]
  intro b1 b2
  by_cases h1 : c1 = c2
  · by_cases h2 : s1 = s2
    · by_cases h3 : r1 = r2
      · simp [h1, h2, h3]
        refine ACall.pure (slEqInt_c t1 t2 hp1) (by simp) ?_
        by_cases h4 : t1 = t2
        · by_cases h5 : a1 = a2
          · simp [h4, h5]
            refine ACall.pure (opSame_c x1 x2 hp2.1 hp2.2) (by simp) ?_
            by_cases h6 : x1 = x2
            · simp [h6]
              refine ACall.pure (opSame_c y1 y2 hp3.1 hp3.2) (by simp) ?_
              by_cases h7 : y1 = y2 <;> simp [h7]
            · simp [h6]
          · have e5 : (a1 == a2) = false := by simpa using h5
            simp [h4, h5, e5]
        · simp [h4]
      · simp [h1, h2, h3]
    · simp [h1, h2]
  · simp [h1]
end Go.Proofs.Ythcdlllclbdbmaa
