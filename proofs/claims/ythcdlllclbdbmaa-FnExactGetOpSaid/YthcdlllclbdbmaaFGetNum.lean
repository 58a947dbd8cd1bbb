import Derived.Test.YthcdlllclbdbmaaFOp
namespace Go.Proofs.Ythcdlllclbdbmaa
open Go.AM

/-- the number that is read off at a place: so many more bytes -/
def numGo (l : List UInt8) (p : Nat) : Nat → Nat → Nat → Option (Nat × Nat)
  | 0, _, _ => none
  | k + 1, i, n => if h : p + i < l.length then
      if l[p + i].toNat < 128 then
        if 1114111000 < n + l[p + i].toNat % 128 * 128 ^ i ∨ l[p + i].toNat = 0 ∧ 0 < i then none else some (n + l[p + i].toNat % 128 * 128 ^ i, p + i + 1)
      else numGo l p k (i + 1) (n + l[p + i].toNat % 128 * 128 ^ i)
    else none

def getNum (l : List UInt8) (p : Int) : Option (Nat × Nat) := if p < 0 then none else numGo l p.toNat 5 0 0

def numR : Option (Nat × Nat) → RR
  | none => .tup [.c (vi 0) 1, .c (vi 0) 1, .c (.v (.bool false)) 1]
  | some (n, p) => .tup [.c (vi n) 1, .c (vi p) 1, .c (.v (.bool true)) 1]

theorem numGo_end {l : List UInt8} {p k i n : Nat} (h : l.length ≤ p + i) : numGo l p k i n = none := by
  cases k with
  | zero => rfl
  | succ k => rw [numGo, dif_neg (by omega)]

theorem numGo_step {l : List UInt8} {p i n : Nat} (hi : i < 5) (h : p + i < l.length) {r : Option (Nat × Nat)} (hr : numGo l p (5 - i) i n = r) :
    (if l[p + i].toNat < 128 then
        if 1114111000 < n + l[p + i].toNat % 128 * 128 ^ i ∨ l[p + i].toNat = 0 ∧ 0 < i then none else some (n + l[p + i].toNat % 128 * 128 ^ i, p + i + 1)
      else numGo l p (5 - (i + 1)) (i + 1) (n + l[p + i].toNat % 128 * 128 ^ i)) = r := by
  obtain ⟨k, hk⟩ : ∃ k, 5 - i = k + 1 := ⟨4 - i, by omega⟩
  rw [hk, numGo, dif_pos h] at hr
  rw [show 5 - (i + 1) = k by omega]
  exact hr

set_option maxRecDepth 8000 in
theorem specGetNum_c (l : List UInt8) (hl : l.length ≤ 2 ^ 40) (p : Int) (hp : p < 2 ^ 63) : PureC Try.prog 15 [.c (.s (l.map byteR)), .c (vi p)] (numR (getNum l p)) := by
  refine PureC.intro' tt_ok Try.func15 (by kernel_rfl) rfl rfl rfl (Nat.le_of_ble_eq_true rfl) (fun w0 base => ?_)
  unfold getNum
  by_cases h0 : p < 0
  · simp [h0, numR]
  obtain ⟨q, rfl⟩ : ∃ q : Nat, p = q := ⟨p.toNat, by omega⟩
  simp [h0]
  generalize hr : numGo l q 5 0 0 = r
  refine LoopT.intro eok (fun x : Nat × Nat => x.1 ≤ 5 ∧ x.2 < 128 ^ x.1 ∧ numGo l q (5 - x.1) x.1 x.2 = r) (fun x => ⟨55, 0, [(9, .v (.int .i64 ((q + x.1 : Nat) : Int))), (8, .v (.int .i64 ((128 ^ x.1 : Nat) : Int))), (7, .v (.int .i64 x.2)), (1, .v (.int .i64 q)), (0, .ro (l.map byteR))],
    []⟩) (fun x => 5 - x.1) (0, 0) (by simp [hr]) (by simp) ?_
  rintro ⟨i, n⟩ ⟨hi, hn, hr⟩
  simp only at hi hn hr ⊢
  by_cases hlt : q + i < l.length
  · by_cases h5 : i < 5
    · have hs := numGo_step h5 hlt hr
      have hp1 : 128 ^ i ≤ 128 ^ 4 := Nat.pow_le_pow_right (by omega) (by omega)
      have hp2 : l[q + i].toNat % 128 * 128 ^ i ≤ 127 * 128 ^ i := Nat.mul_le_mul_right _ (by omega)
      have hw1 : IntKind.i64.wrap ((q : Int) + i - q) = i := by rw [IntWalk.i64_in _ (by omega)]; omega
      have hz1 : (q : Int) + i < l.length := by omega
      have hz2 : (i : Int) < 5 := by omega
      have hc := l[q + i].toNat_lt
      generalize hcv : l[q + i].toNat = c at *
      have hw2 : IntKind.i64.wrap (c : Int) = (c : Int) := i64_nat (by omega)
      have hw3 : (c : Int).tmod 128 = (c : Int) % 128 := Int.tmod_eq_emod_of_nonneg (by omega)
      obtain ⟨m, hm⟩ : ∃ m, c % 128 * 128 ^ i = m := ⟨_, rfl⟩
      rw [hm] at hs hp2
      have hw4 : IntKind.i64.wrap ((c : Int) % 128 * 128 ^ i) = (m : Int) := by
        have : (((c % 128 * 128 ^ i : Nat)) : Int) = (c : Int) % 128 * 128 ^ i := by push_cast; rfl
        rw [← this, hm]; exact i64_nat (by omega)
      have hw5 : IntKind.i64.wrap ((n : Int) + (m : Int)) = (n : Int) + (m : Int) := IntWalk.i64_in _ (by omega)
      have hw6 : IntKind.i64.wrap (128 ^ i * 128) = 128 ^ i * 128 := by
        have : (((128 ^ i * 128 : Nat)) : Int) = 128 ^ i * 128 := by push_cast; rfl
        rw [← this]; exact i64_nat (by omega)
      have hw7 : IntKind.i64.wrap ((q : Int) + i + 1) = (q : Int) + i + 1 := IntWalk.i64_in _ (by omega)
      simp [hlt, hw1, hw2, hw3, hw4, hw5, hw6, hz1, hz2, hcv]
      refine Br.mk (fun h1 => ?_) (fun h1 => ?_)
      · have g1 := of_yes h1
        rw [if_pos (by omega)] at hs
        simp
        refine Br.mk (fun h2 => ?_) (fun h2 => ?_)
        · have g2 := of_yes h2
          rw [if_pos (by omega)] at hs
          simp [h2, ← hs, numR]
        · have g2 := of_no h2
          simp [h2, hw2]
          refine Br.mk (fun h3 => ?_) (fun h3 => ?_)
          · have g3 := of_yes h3
            simp [h2, h3, hw2]
            refine Br.mk (fun h4 => ?_) (fun h4 => ?_)
            · have g4 := of_yes h4
              rw [if_pos (by omega)] at hs
              simp [h4, ← hs, numR]
            · have g4 := of_no h4
              rw [if_neg (by omega)] at hs
              simp [h4, ← hs, numR, hw7]
          · have g3 := of_no h3
            rw [if_neg (by omega)] at hs
            simp [h2, h3, hw2, ← hs, numR, hw7]
      · have g1 := of_no h1
        rw [if_neg (by omega)] at hs
        simp
        exact ⟨i + 1, n + m, ⟨by omega, by rw [Nat.pow_succ]; omega, hs⟩, by omega, by rw [hw7]; omega, by rw [Int.pow_succ], by omega⟩
    · have hw1 : IntKind.i64.wrap ((q : Int) + i - q) = i := by rw [IntWalk.i64_in _ (by omega)]; omega
      have hz1 : (q : Int) + i < l.length := by omega
      have hz2 : ¬ (i : Int) < 5 := by omega
      have : 5 - i = 0 := by omega
      rw [this] at hr
      simp [hw1, hz1, hz2, ← hr, numR, numGo]
  · have hz1 : ¬ (q : Int) + i < l.length := by omega
    rw [numGo_end (by omega)] at hr
    simp [hz1, ← hr, numR]

set_option maxRecDepth 8000 in
theorem implGetNum_c (l : List UInt8) (hl : l.length ≤ 2 ^ 40) (p : Int) (hp : -2 ^ 63 ≤ p) (hp' : p < 2 ^ 63) : PureC Try.prog 17 [.c (.s (l.map byteR)), .c (vi p)] (numR (getNum l p)) := by
  refine PureC.intro' tt_ok Try.func17 (by kernel_rfl) rfl rfl rfl (Nat.le_of_ble_eq_true rfl) (fun w0 base => ?_)
  have hw0 : IntKind.i64.wrap ((l.length : Int) - 1) = (l.length : Int) - 1 := IntWalk.i64_in _ (by omega)
  simp [hw0]
  refine ACall.pure (within_c p 0 ((l.length : Int) - 1)) (by simp) ?_
  simp
  refine Br.mk (fun h => ?_) (fun h => ?_)
  · have g := of_yes h
    obtain ⟨q, rfl⟩ : ∃ q : Nat, p = q := ⟨p.toNat, by omega⟩
    have hg : getNum l q = numGo l q 5 0 0 := by unfold getNum; rw [if_neg (by omega)]; rfl
    rw [hg]
    simp
    generalize hr : numGo l q 5 0 0 = r
    refine LoopT.intro eok (fun x : Nat × Nat => x.1 ≤ 5 ∧ x.2 < 128 ^ x.1 ∧ numGo l q (5 - x.1) x.1 x.2 = r) (fun x => ⟨59, 0, [(8, .v (.int .i64 x.1)), (7, .v (.int .i64 x.2)), (1, .v (.int .i64 q)), (0, .ro (l.map byteR))],
      []⟩) (fun x => 5 - x.1) (0, 0) (by simp [hr]) (by simp) ?_
    rintro ⟨i, n⟩ ⟨hi, hn, hr⟩
    simp only at hi hn hr ⊢
    by_cases h5 : i < 5
    · have hz2 : (i : Int) < 5 := by omega
      have hw1 : IntKind.i64.wrap ((q : Int) + i) = (q : Int) + i := IntWalk.i64_in _ (by omega)
      by_cases hlt : q + i < l.length
      · have hs := numGo_step h5 hlt hr
        have hp1 : 128 ^ i ≤ 128 ^ 4 := Nat.pow_le_pow_right (by omega) (by omega)
        have hp2 : l[q + i].toNat % 128 * 128 ^ i ≤ 127 * 128 ^ i := Nat.mul_le_mul_right _ (by omega)
        have hz1 : (q : Int) + i < l.length := by omega
        have hc := l[q + i].toNat_lt
        generalize hcv : l[q + i].toNat = c at *
        have hw2 : IntKind.i64.wrap (c : Int) = (c : Int) := i64_nat (by omega)
        have hw3 : (c : Int).tmod 128 = (c : Int) % 128 := Int.tmod_eq_emod_of_nonneg (by omega)
        obtain ⟨m, hm⟩ : ∃ m, c % 128 * 128 ^ i = m := ⟨_, rfl⟩
        rw [hm] at hs hp2
        have hw4 : IntKind.i64.wrap (7 * (i : Int)) = ((7 * i : Nat) : Int) := by rw [IntWalk.i64_in _ (by omega)]; omega
        have hw4' : IntKind.i64.wrap ((c : Int) % 128 * 2 ^ (7 * i)) = (m : Int) := by
          have : (((c % 128 * 128 ^ i : Nat)) : Int) = (c : Int) % 128 * 2 ^ (7 * i) := by
            rw [Int.pow_mul]; push_cast; rfl
          rw [← this, hm]; exact i64_nat (by omega)
        have hw5 : IntKind.i64.wrap ((n : Int) + (m : Int)) = (n : Int) + (m : Int) := IntWalk.i64_in _ (by omega)
        have hw7 : IntKind.i64.wrap ((q : Int) + i + 1) = (q : Int) + i + 1 := IntWalk.i64_in _ (by omega)
        have hw8 : (7 * (i : Int)).toNat = 7 * i := by omega
        simp [hlt, hw1, hw2, hw3, hw4, hw4', hw5, hw8, hz1, hz2, hcv]
        refine ⟨by omega, by show 7 * (i : Int) ≤ ((64 : Nat) : Int); omega, ?_⟩
        refine Br.mk (fun h1 => ?_) (fun h1 => ?_)
        · have g1 := of_yes h1
          rw [if_pos (by omega)] at hs
          simp
          refine Br.mk (fun h2 => ?_) (fun h2 => ?_)
          · have g2 := of_yes h2
            simp [h2]
            refine Br.mk (fun h3 => ?_) (fun h3 => ?_)
            · have g3 := of_yes h3
              rw [if_pos (by omega)] at hs
              simp [h2, h3, ← hs, numR]
            · have g3 := of_no h3
              simp [h2, h3]
              refine Br.mk (fun h4 => ?_) (fun h4 => ?_)
              · have g4 := of_yes h4
                rw [if_pos (by omega)] at hs
                simp [h4, ← hs, numR]
              · have g4 := of_no h4
                rw [if_neg (by omega)] at hs
                simp [h4, ← hs, numR, hw1, hw7]
          · have g2 := of_no h2
            simp [h2]
            refine Br.mk (fun h4 => ?_) (fun h4 => ?_)
            · have g4 := of_yes h4
              rw [if_pos (by omega)] at hs
              simp [h4, ← hs, numR]
            · have g4 := of_no h4
              rw [if_neg (by omega)] at hs
              simp [h4, ← hs, numR, hw1, hw7]
        · have g1 := of_no h1
          rw [if_neg (by omega)] at hs
          simp
          exact ⟨i + 1, n + m, ⟨by omega, by rw [Nat.pow_succ]; omega, hs⟩, by omega, i64_suc (by omega), by omega⟩
      · have hz1 : ¬ (q : Int) + i < l.length := by omega
        rw [numGo_end (by omega)] at hr
        simp [hw1, hz1, hz2, ← hr, numR]
    · have hz2 : ¬ (i : Int) < 5 := by omega
      have : 5 - i = 0 := by omega
      rw [this] at hr
      simp [hz2, ← hr, numR, numGo]
  · have g := of_no h
    have hg : getNum l p = none := by
      unfold getNum
      split
      · rfl
      · exact numGo_end (by omega)
    simp [h, hg, numR]

end Go.Proofs.Ythcdlllclbdbmaa
