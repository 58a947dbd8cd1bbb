import Derived.Test.YthcdlllclbdbmaaFGetOp
namespace Go.Proofs.Ythcdlllclbdbmaa
open Go.AM
set_option maxRecDepth 20000

theorem isNorm_lim {l : List Part} (h : isNorm l) : l.length ≤ 600 ∧ ∀ q ∈ l, q.n ≤ 200 ∧ q.signs.length ≤ 200 := by
  obtain ⟨⟨⟨h1, h2⟩, _⟩, _⟩ := h
  refine ⟨h2, fun q hq => ?_⟩
  have := (h1 q hq).bounds
  omega

theorem specSigns_call {w0 : World} {base : Bs} {st : ASt} {dst : Option Nat} {K : ASt → Prop} {bk bp : Nat} {b : List UInt8} {p0 n : Nat} {bad0 : Bool} {Ho : Hd} {R : List (List CD)} (hb : b.length ≤ 2 ^ 40) (hp : p0 ≤ 2 ^ 40) (hn : n ≤ 2 ^ 30)
    (g : st.h.get 192 = .vars bk 128 [.ro (b.map byteR), .v (.int .i64 p0), .v (.bool bad0)]) (g1 : st.h.get 20096 = .vars bp 110 [.v (.int .i64 2), .v (.int .i64 n), .nil]) (g2 : st.h.get 20112 = .rows Ho 3 R true) (g3 : st.h.get 40096 = .dead)
    (hno : (bad0 = true ∨ parseNums b n p0 = none) → ∀ (l : List Int) (p : Nat) H h', p ≤ 2 ^ 40 → l.length ≤ n → AH.get h' 192 = .vars bk 128 [.ro (b.map byteR), .v (.int .i64 p), .v (.bool true)] → AH.get h' 20096 = .vars bp 110 [.v (.int .i64 2), .v (.int .i64 n), .nil] → AH.get h' 20112 = .rows Ho 3 R true →
      AH.get h' 40096 = .rows H 1 (l.map intR) true → aPut ⟨st.n, st.kb, st.t, h'⟩ dst (.sl 40096 H 1 0 l.length) K)
    (hyes : bad0 = false → ∀ l p, parseNums b n p0 = some (l, p) → ∀ H h', AH.get h' 192 = .vars bk 128 [.ro (b.map byteR), .v (.int .i64 p), .v (.bool false)] → AH.get h' 20096 = .vars bp 110 [.v (.int .i64 2), .v (.int .i64 n), .nil] → AH.get h' 20112 = .rows Ho 3 R true →
      AH.get h' 40096 = .rows H 1 (l.map intR) true → aPut ⟨st.n, st.kb, st.t, h'⟩ dst (.sl 40096 H 1 0 l.length) K) :
    ACall ⟨Try.prog, tt, w0, base⟩ 147 [.p 192 bk 0, .v (.int .i64 n)] st dst K := by
  refine ACall.inline tt_ok Try.func147 (by kernel_rfl) rfl rfl rfl (Nat.le_of_ble_eq_true rfl) 40000 (fun w1 F => ?_)
  simp
  try intro H0
  refine LoopT.intro eok (fun x : Nat × Nat × Bool × Hd × List Int => x.1 ≤ n ∧ x.2.2.2.2.length + x.1 = n ∧ x.2.1 ≤ 2 ^ 40 ∧ (x.2.2.1 = true → bad0 = true ∨ parseNums b n p0 = none) ∧ (x.2.2.1 = false → bad0 = false ∧ parseNums b n p0 = (parseNums b x.1 x.2.1).map fun r => (x.2.2.2.2 ++ r.1, r.2)))
    (fun x => ⟨24, 40000, [(0, .p 192 bk 0), (1, .v (.int .i64 x.1)), (5, .sl 40096 x.2.2.2.1 1 0 x.2.2.2.2.length)], [(192, .vars bk 128 [.ro (b.map byteR), .v (.int .i64 x.2.1), .v (.bool x.2.2.1)]), (20096, .vars bp 110 [.v (.int .i64 2), .v (.int .i64 n), .nil]), (20112, .rows Ho 3 R true), (40096, .rows x.2.2.2.1 1 (x.2.2.2.2.map intR) true)]⟩) (fun x => x.1) (n, p0, bad0, some (H0, 0, 0), []) ⟨by simp, by simp, hp, fun h => .inl h, fun h => ⟨h, by simp⟩⟩ (by simp [g, g1, g2, g3]) (fun x hi => ?_)
  obtain ⟨i, p, bad, H, out⟩ := x
  simp only at hi ⊢
  obtain ⟨hi, hl, hp, hbad, hgood⟩ := hi
  by_cases h : 0 < i
  · cases bad with
    | true =>
      simp [h]
      exact hno (hbad rfl) out p H _ hp (by omega) (by simp) (by simp) (by simp) (by simp)
    | false =>
      obtain ⟨j, rfl⟩ : ∃ j, i = j + 1 := ⟨i - 1, by omega⟩
      have e : Go.IntKind.i64.wrap (j : Int) = (j : Int) := i64_nat (by omega)
      obtain ⟨hb0, hg⟩ := hgood rfl
      rw [parseNums] at hg
      simp [h]
      refine specGet_call (b := b) (at0 := p) 50000 hb (by unfold i64r; omega) (by simp) ?_ ?_
      · intro hN h' q1 q2
        simp [q1, q2]
        refine ⟨by omega, fun H2 => ⟨j, 0, H2, out ++ [0], ⟨by omega, by simp; omega, by omega, by rw [hg, hN]; simp⟩, by omega, ⟨e, rfl, by simp⟩, rfl, rfl, by simp⟩⟩
      · intro x q hN h' q1 q2
        simp [q1, q2]
        have hq := getNum_some hN
        refine ⟨by omega, fun H2 => ⟨j, q, H2, out ++ [(x : Int)], ⟨by omega, by simp; omega, by omega, hb0, ?_⟩, by omega, ⟨e, rfl, by simp⟩, rfl, rfl, by simp⟩⟩
        rw [hg, hN]
        dsimp only
        cases parseNums b j q <;> simp
  · have hi2 : i = 0 := by omega
    subst hi2
    cases bad with
    | true =>
      simp
      exact hno (hbad rfl) out p H _ hp (by omega) (by simp) (by simp) (by simp) (by simp)
    | false =>
      simp
      obtain ⟨hb0, hg⟩ := hgood rfl
      simp [parseNums] at hg
      exact hyes hb0 out p hg H _ (by simp) (by simp) (by simp) (by simp)

theorem specCount_call {w0 : World} {base : Bs} {st : ASt} {dst : Option Nat} {K : ASt → Prop} {bk : Nat} {b : List UInt8} {at0 : Int} (hb : b.length ≤ 2 ^ 40) (ha : i64r at0)
    (g : st.h.get 192 = .vars bk 128 [.ro (b.map byteR), .v (.int .i64 at0), .v (.bool false)])
    (hno : (∀ n p, getNum b at0 = some (n, p) → 600 < n) → ∀ (p : Nat) h', p ≤ 2 ^ 40 → AH.get h' 192 = .vars bk 128 [.ro (b.map byteR), .v (.int .i64 p), .v (.bool true)] → (∀ q, q ≠ 192 → AH.get h' q = st.h.get q) → aPut ⟨st.n, st.kb, st.t, h'⟩ dst (.v (.int .i64 0)) K)
    (hyes : ∀ n p, getNum b at0 = some (n, p) → n ≤ 600 → ∀ h', AH.get h' 192 = .vars bk 128 [.ro (b.map byteR), .v (.int .i64 p), .v (.bool false)] → (∀ q, q ≠ 192 → AH.get h' q = st.h.get q) → aPut ⟨st.n, st.kb, st.t, h'⟩ dst (.v (.int .i64 n)) K) :
    ACall ⟨Try.prog, tt, w0, base⟩ 145 [.p 192 bk 0, .v (.int .i64 600)] st dst K := by
  refine ACall.inline tt_ok Try.func145 (by kernel_rfl) rfl rfl rfl (Nat.le_of_ble_eq_true rfl) 25000 (fun w1 F => ?_)
  simp
  refine specGet_call (b := b) (at0 := at0) 30000 hb ha g ?_ ?_
  · intro hN h' q1 q2
    simp [q1, q2]
    exact hno (by simp [hN]) 0 h' (by omega) q1 (fun q hq => q2 q hq)
  · intro x q hN h' q1 q2
    have hx := getNum_some hN
    by_cases h6 : 600 < x
    · have h62 : (600 : Int) < x := by omega
      simp [q1, q2, h62]
      refine hno (fun n p h => ?_) q _ (by omega) (by simp [q1]) (fun r hr => by simp [hr]; exact q2 r hr)
      rw [hN] at h; simp at h; omega
    · have h62 : ¬ (600 : Int) < x := by omega
      simp [q1, q2, h62]
      exact hyes x q hN (by omega) h' q1 (fun q hq => q2 q hq)

def specBad (b : List UInt8) (at0 : Int) : Prop := ∀ l q, parseOp b at0 = some (l, q) → ¬ isNorm l

theorem parseOps_bad {b : List UInt8} {n : Nat} {at0 : Int} {out : List Part} {m p : Nat} (h : parseOp b at0 = (parseOps b m p).map fun r => (out ++ r.1, r.2)) {x q : Nat} (hm : 0 < m) (hN : getNum b p = some (x, q)) (hx : 200 < x / 4) : specBad b at0 := by
  intro l q2 hl hn
  obtain ⟨m, rfl⟩ : ∃ k, m = k + 1 := ⟨m - 1, by omega⟩
  have hlim := (isNorm_lim hn).2
  rw [h, parseOps, hN] at hl
  dsimp only at hl
  split at hl
  · cases hN2 : parseNums b (x / 4) q with
    | none => simp [hN2] at hl
    | some r2 =>
      obtain ⟨g, p3⟩ := r2
      have h5 := parseNums_len hN2
      simp [hN2] at hl
      obtain ⟨l2, _, rfl⟩ := hl
      have := hlim ⟨2, 0, g⟩ (by simp)
      simp at this
      omega
  · simp at hl
    obtain ⟨l2, _, rfl⟩ := hl
    have := hlim ⟨((x % 4 : Nat) : Int), ((x / 4 : Nat) : Int), []⟩ (by simp)
    simp at this
    omega

theorem specOp_call {w0 : World} {base : Bs} {st : ASt} {dst : Option Nat} {K : ASt → Prop} {bk : Nat} {b : List UInt8} {at0 : Int} (hb : b.length ≤ 2 ^ 40) (ha : i64r at0)
    (g : st.h.get 192 = .vars bk 128 [.ro (b.map byteR), .v (.int .i64 at0), .v (.bool false)]) (g2 : st.h.get 20112 = .dead)
    (hno : specBad b at0 → ∀ (l : List Part) (p : Int) H h', AH.get h' 192 = .vars bk 128 [.ro (b.map byteR), .v (.int .i64 p), .v (.bool true)] →
      AH.get h' 20112 = .rows H 3 (l.map Part.row) true → aPut ⟨st.n, st.kb, st.t, h'⟩ dst (.sl 20112 H 3 0 l.length) K)
    (hyes : ∀ l p, parseOp b at0 = some (l, p) → ∀ H h', AH.get h' 192 = .vars bk 128 [.ro (b.map byteR), .v (.int .i64 p), .v (.bool false)] →
      AH.get h' 20112 = .rows H 3 (l.map Part.row) true → aPut ⟨st.n, st.kb, st.t, h'⟩ dst (.sl 20112 H 3 0 l.length) K) :
    ACall ⟨Try.prog, tt, w0, base⟩ 112 [.p 192 bk 0] st dst K := by
  refine ACall.inline tt_ok Try.func112 (by kernel_rfl) rfl rfl rfl (Nat.le_of_ble_eq_true rfl) 20000 (fun w1 F => ?_)
  simp
  intro H0
  refine specCount_call (b := b) (at0 := at0) hb ha (by simp [g]) ?_ ?_
  · intro hN p0 h' hp0 q1 q2
    simp
    have hsb : specBad b at0 := by
      intro l q hl hn
      unfold parseOp at hl
      cases hg : getNum b at0 with
      | none => simp [hg] at hl
      | some r =>
        obtain ⟨n, p⟩ := r
        have := hN n p hg
        simp [hg] at hl
        have h1 := parseOps_len hl
        have h2 := (isNorm_lim hn).1
        omega
    refine LoopT.intro eok (fun x : Unit => True) (fun x => ⟨48, 20000, [(0, .p 192 bk 0), (4, .v (.int .i64 0)), (3, .sl 20112 (some (H0, 0, 0)) 3 0 0)], [(192, .vars bk 128 [.ro (b.map byteR), .v (.int .i64 p0), .v (.bool true)]), (20112, .rows (some (H0, 0, 0)) 3 [] true)]⟩) (fun x => 0) () trivial (by simp [q1, q2, g2]) (fun x hi => ?_)
    simp
    exact hno hsb [] p0 _ _ (by simp) (by simp)
  · intro n p0 hN hn h' q1 q2
    have hN1 := getNum_some hN
    have hpY : parseOp b at0 = parseOps b n p0 := by simp [parseOp, hN]
    simp
    refine LoopT.intro eok (fun x : Nat × Nat × Bool × Hd × List Part => x.1 ≤ n ∧ x.2.2.2.2.length + x.1 = n ∧ x.2.1 ≤ 2 ^ 40 ∧ (x.2.2.1 = true → specBad b at0) ∧ (x.2.2.1 = false → parseOp b at0 = (parseOps b x.1 x.2.1).map fun r => (x.2.2.2.2 ++ r.1, r.2)))
      (fun x => ⟨48, 20000, [(0, .p 192 bk 0), (4, .v (.int .i64 x.1)), (3, .sl 20112 x.2.2.2.1 3 0 x.2.2.2.2.length)], [(192, .vars bk 128 [.ro (b.map byteR), .v (.int .i64 x.2.1), .v (.bool x.2.2.1)]), (20112, .rows x.2.2.2.1 3 (x.2.2.2.2.map Part.row) true)]⟩) (fun x => x.1) (n, p0, false, some (H0, 0, 0), []) (by simp [hpY]; omega) (by simp [q1, q2, g2]) (fun x hi => ?_)
    obtain ⟨i, p, bad, H, out⟩ := x
    simp only at hi ⊢
    obtain ⟨hi, hl, hp, hbad, hgood⟩ := hi
    by_cases h : 0 < i
    · cases bad with
      | true =>
        simp [h]
        exact hno (hbad rfl) out p H _ (by simp) (by simp)
      | false =>
        obtain ⟨j, rfl⟩ : ∃ j, i = j + 1 := ⟨i - 1, by omega⟩
        have e : Go.IntKind.i64.wrap (j : Int) = (j : Int) := i64_nat (by omega)
        have hg := hgood rfl
        simp [h]
        refine specGet_call (b := b) (at0 := p) 30000 hb (by unfold i64r; omega) (by simp) ?_ ?_
        · intro hN h' q1 q2
          rw [parseOps, hN] at hg
          have e0 : Go.IntKind.i64.wrap 0 = 0 := rfl
          simp [q1, q2, e0]
          have hsb : specBad b at0 := by intro l q hl; rw [hg] at hl; simp at hl
          exact ⟨by omega, fun H2 => ⟨j, 0, H2, out ++ [⟨0, 0, []⟩], ⟨by omega, by simp; omega, by omega, hsb⟩, by omega, ⟨e, rfl, by simp⟩, rfl, rfl, by simp [Part.row]⟩⟩
        · intro x q hN h' q1 q2
          have hx := getNum_some hN
          have hpb := parseOps_bad (n := 0) hg h hN
          rw [parseOps, hN] at hg
          dsimp only at hg
          have em : (x : Int).tmod 4 = ((x % 4 : Nat) : Int) := by rw [Int.tmod_eq_emod_of_nonneg (by omega)]; omega
          have ed : (x : Int).tdiv 4 = ((x / 4 : Nat) : Int) := by rw [Int.tdiv_eq_ediv_of_nonneg (by omega)]; omega
          have em2 : Go.IntKind.i64.wrap ((x % 4 : Nat) : Int) = ((x % 4 : Nat) : Int) := i64_nat (by omega)
          have ed2 : Go.IntKind.i64.wrap ((x / 4 : Nat) : Int) = ((x / 4 : Nat) : Int) := i64_nat (by omega)
          have hz : x / 4 ≤ 2 ^ 30 := by omega
          generalize x % 4 = y at em em2 hg
          generalize x / 4 = z at ed ed2 hg hz hpb
          simp [q1, q2, em, em2, ed, ed2]
          intro b7
          by_cases h2 : 200 < z
          · have h22 : (200 : Int) < z := by omega
            simp [h22, q1, q2]
            exact ⟨by omega, fun H2 => ⟨j, q, H2, out ++ [⟨y, z, []⟩], ⟨by omega, by simp; omega, by omega, hpb h2⟩, by omega, ⟨e, rfl, by simp⟩, rfl, rfl, by simp [Part.row]⟩⟩
          · have h22 : ¬ (200 : Int) < z := by omega
            by_cases hy : y = 2
            · subst hy
              rw [if_pos rfl] at hg
              simp [h22]
              refine specSigns_call (bp := b7) (b := b) (p0 := q) (n := z) (bad0 := false) (Ho := H) (R := out.map Part.row) hb (by omega) (by omega) (by simp [q1]) (by simp) (by simp [q2]) (by simp [q2]) ?_ ?_
              · intro hN2 l p2 H2 h2 _ hl2 r1 r2 r3 r4
                simp at hN2
                rw [hN2] at hg
                simp [r1, r2, r3, r4]
                have hsb : specBad b at0 := by intro l q hl; rw [hg] at hl; simp at hl
                exact ⟨by omega, fun H3 => ⟨j, p2, H3, out ++ [⟨2, 0, l⟩], ⟨by omega, by simp; omega, by omega, hsb⟩, by omega, ⟨e, rfl, by simp⟩, rfl, rfl, by simp [Part.row]⟩⟩
              · intro _ l p2 hN2 H2 h2 r1 r2 r3 r4
                have hl2 := parseNums_len hN2
                rw [hN2] at hg
                simp [r1, r2, r3, r4]
                refine ⟨by omega, fun H3 => ⟨j, p2, H3, out ++ [⟨2, 0, l⟩], ⟨by omega, by simp; omega, by omega, ?_⟩, by omega, ⟨e, rfl, by simp⟩, rfl, rfl, by simp [Part.row]⟩⟩
                rw [hg]
                dsimp only
                cases parseOps b j p2 <;> simp
            · have hy2 : ¬ (y : Int) = 2 := by omega
              rw [if_neg hy] at hg
              simp [hy2, h22, q1, q2]
              refine ⟨by omega, fun H3 => ⟨j, q, H3, out ++ [⟨y, z, []⟩], ⟨by omega, by simp; omega, by omega, ?_⟩, by omega, ⟨e, rfl, by simp⟩, rfl, rfl, by simp [Part.row]⟩⟩
              rw [hg]
              cases parseOps b j q <;> simp
    · have hi2 : i = 0 := by omega
      subst hi2
      cases bad with
      | true =>
        simp
        exact hno (hbad rfl) out p H _ (by simp) (by simp)
      | false =>
        simp
        have hg := hgood rfl
        simp [parseOps] at hg
        exact hyes out p hg H _ (by simp) (by simp)

theorem parseOp_nL {b : List UInt8} {at0 : Int} {l : List Part} {p : Nat} (hN : parseOp b at0 = some (l, p)) : nL nPart l ≤ b.length ∧ p ≤ b.length := by
  unfold parseOp at hN
  cases hg : getNum b at0 with
  | none => simp [hg] at hN
  | some r =>
    obtain ⟨x, p0⟩ := r
    have h1 := getNum_some hg
    simp [hg] at hN
    have h2 := parseOps_len hN
    omega

theorem specGetOp_c (b : List UInt8) (_ : b.length ≤ 9223372036854775807) (n0 : b.length ≤ 2 ^ 20) (at0 : Int) (ha : i64r at0) :
    PureC Try.prog 55 [.c (.s (b.map byteR)), .c (vi at0)] (.tup [.c (.s ((fGetOp b at0).1.map Part.row)) 3, .c (vi (fGetOp b at0).2.1) 1, .c (.v (.bool (fGetOp b at0).2.2)) 1]) := by
  refine PureC.intro' tt_ok Try.func55 (by kernel_rfl) rfl rfl rfl (Nat.le_of_ble_eq_true rfl) (fun w0 base => ?_)
  simp
  intro bk
  refine specOp_call (b := b) (at0 := at0) (by omega) ha (by simp) (by simp) ?_ ?_
  · intro hN l p H h' q1 q2
    have e : fGetOp b at0 = ([], 0, false) := by
      unfold fGetOp
      cases h : parseOp b at0 with
      | none => rfl
      | some r => exact if_neg (hN r.1 r.2 h)
    simp [q1, q2, e]
  · intro l p hN H h' q1 q2
    have hl := parseOp_nL hN
    simp [q1, q2]
    refine ACall.pure (specIsNorm_c l (by omega)) (by simp [q1, q2]) ?_
    by_cases hn : isNorm l
    · have e : fGetOp b at0 = (l, (p : Int), true) := by simp [fGetOp, hN, hn]
      simp [q1, q2, e, hn]
      refine DrawT.quietH eok mix (by kernel_rfl) ?_
      simp [q1, q2]
    · have e : fGetOp b at0 = ([], 0, false) := by simp [fGetOp, hN, hn]
      simp [q1, q2, e, hn]

theorem fGetOp_b (b : List UInt8) (_ : b.length ≤ 9223372036854775807) (n0 : b.length ≤ 2 ^ 20) (at0 : Int) (_ : i64r at0) : nL nPart (fGetOp b at0).1 ≤ 2 ^ 40 := by
  unfold fGetOp
  split
  · simp [nL, sumN]
  · rename_i l q h
    have := parseOp_nL h
    split
    · simp only; omega
    · simp [nL, sumN]
end Go.Proofs.Ythcdlllclbdbmaa
