import Derived.Test.YthcdlllclbdbmaaFGetNum
import Derived.Test.YthcdlllclbdbmaaFIdle
namespace Go.Proofs.Ythcdlllclbdbmaa
open Go.AM
set_option maxRecDepth 20000

theorem numGo_some {l : List UInt8} {p : Nat} : ∀ (k i n : Nat) {x q : Nat}, numGo l p k i n = some (x, q) → p < q ∧ q ≤ l.length ∧ x ≤ 1114111000
  | 0, i, n, x, q, h => by simp [numGo] at h
  | k + 1, i, n, x, q, h => by
    rw [numGo] at h
    split at h
    · rename_i hlt
      split at h
      · split at h
        · simp at h
        · simp at h
          omega
      · exact numGo_some k (i + 1) _ h
    · simp at h
theorem getNum_some {l : List UInt8} {p : Int} {x q : Nat} (h : getNum l p = some (x, q)) : 0 ≤ p ∧ p < q ∧ q ≤ l.length ∧ x ≤ 1114111000 := by
  unfold getNum at h
  split at h
  · simp at h
  · have := numGo_some _ _ _ h
    omega

def parseNums (b : List UInt8) : Nat → Nat → Option (List Int × Nat)
  | 0, p => some ([], p)
  | n + 1, p => match getNum b p with
    | none => none
    | some (x, q) => (parseNums b n q).map fun r => ((x : Int) :: r.1, r.2)
def parseOps (b : List UInt8) : Nat → Nat → Option (List Part × Nat)
  | 0, p => some ([], p)
  | n + 1, p => match getNum b p with
    | none => none
    | some (x, q) => if x % 4 = 2 then match parseNums b (x / 4) q with
        | none => none
        | some (l, q2) => (parseOps b n q2).map fun r => (⟨2, 0, l⟩ :: r.1, r.2)
      else (parseOps b n q).map fun r => (⟨(x % 4 : Nat), (x / 4 : Nat), []⟩ :: r.1, r.2)
def parseOp (b : List UInt8) (at0 : Int) : Option (List Part × Nat) :=
  match getNum b at0 with
  | none => none
  | some (n, p) => parseOps b n p
open Classical in
noncomputable def fGetOp (b : List UInt8) (at0 : Int) : List Part × Int × Bool :=
  match parseOp b at0 with
  | none => ([], 0, false)
  | some (l, q) => if isNorm l then (l, (q : Int), true) else ([], 0, false)

theorem implNum_call {w0 : World} {base : Bs} {st : ASt} {dst : Option Nat} {K : ASt → Prop} {bk : Nat} {b : List UInt8} {at0 : Int} (kb : Nat) (hb : b.length ≤ 2 ^ 40) (ha : i64r at0)
    (g : st.h.get 192 = .vars bk 132 [.ro (b.map byteR), .v (.int .i64 at0), .v (.bool false)])
    (hno : getNum b at0 = none → ∀ h', AH.get h' 192 = .vars bk 132 [.ro (b.map byteR), .v (.int .i64 at0), .v (.bool true)] → (∀ q, q ≠ 192 → AH.get h' q = st.h.get q) → aPut ⟨st.n, st.kb, st.t, h'⟩ dst (.v (.int .i64 0)) K)
    (hyes : ∀ x p, getNum b at0 = some (x, p) → ∀ h', AH.get h' 192 = .vars bk 132 [.ro (b.map byteR), .v (.int .i64 p), .v (.bool false)] → (∀ q, q ≠ 192 → AH.get h' q = st.h.get q) → aPut ⟨st.n, st.kb, st.t, h'⟩ dst (.v (.int .i64 x)) K) :
    ACall ⟨Try.prog, tt, w0, base⟩ 148 [.p 192 bk 0] st dst K := by
  refine ACall.inline tt_ok Try.func148 (by kernel_rfl) rfl rfl rfl (Nat.le_of_ble_eq_true rfl) kb (fun w1 F => ?_)
  unfold i64r at ha
  simp
  refine DrawT.quiet eok mix (by kernel_rfl) ?_
  simp [g]
  refine ⟨_, _, implGetNum_c b hb at0 (by omega) (by omega), by simp, ?_⟩
  cases hg : getNum b at0 with
  | none =>
    simp [numR, g]
    exact hno hg _ (by simp) (fun q hq => by simp [hq])
  | some r =>
    obtain ⟨x, p⟩ := r
    simp [numR, g]
    exact hyes x p hg _ (by simp) (fun q hq => by simp [hq])

theorem specGet_call {w0 : World} {base : Bs} {st : ASt} {dst : Option Nat} {K : ASt → Prop} {bk : Nat} {b : List UInt8} {at0 : Int} (kb : Nat) (hb : b.length ≤ 2 ^ 40) (ha : i64r at0)
    (g : st.h.get 192 = .vars bk 128 [.ro (b.map byteR), .v (.int .i64 at0), .v (.bool false)])
    (hno : getNum b at0 = none → ∀ h', AH.get h' 192 = .vars bk 128 [.ro (b.map byteR), .v (.int .i64 0), .v (.bool true)] → (∀ q, q ≠ 192 → AH.get h' q = st.h.get q) → aPut ⟨st.n, st.kb, st.t, h'⟩ dst (.v (.int .i64 0)) K)
    (hyes : ∀ x p, getNum b at0 = some (x, p) → ∀ h', AH.get h' 192 = .vars bk 128 [.ro (b.map byteR), .v (.int .i64 p), .v (.bool false)] → (∀ q, q ≠ 192 → AH.get h' q = st.h.get q) → aPut ⟨st.n, st.kb, st.t, h'⟩ dst (.v (.int .i64 x)) K) :
    ACall ⟨Try.prog, tt, w0, base⟩ 146 [.p 192 bk 0] st dst K := by
  refine ACall.inline tt_ok Try.func146 (by kernel_rfl) rfl rfl rfl (Nat.le_of_ble_eq_true rfl) kb (fun w1 F => ?_)
  unfold i64r at ha
  simp [g]
  refine DrawT.quiet eok mix (by kernel_rfl) ?_
  simp [g]
  refine ⟨_, _, specGetNum_c b hb at0 (by omega), by simp, ?_⟩
  cases hg : getNum b at0 with
  | none =>
    simp [numR, g]
    exact hno hg _ (by simp) (fun q hq => by simp [hq])
  | some r =>
    obtain ⟨x, p⟩ := r
    simp [numR, g]
    exact hyes x p hg _ (by simp) (fun q hq => by simp [hq])

theorem parseNums_len {b : List UInt8} : ∀ {n p : Nat} {l : List Int} {q : Nat}, parseNums b n p = some (l, q) → l.length = n ∧ p + n ≤ q ∧ q ≤ max p b.length
  | 0, p, l, q, h => by simp [parseNums] at h; obtain ⟨rfl, rfl⟩ := h; simp; omega
  | n + 1, p, l, q, h => by
    rw [parseNums] at h
    cases hg : getNum b p with
    | none => simp [hg] at h
    | some r =>
      obtain ⟨x, p2⟩ := r
      simp [hg] at h
      obtain ⟨l2, h2, rfl⟩ := h
      have h3 := parseNums_len h2
      have h4 := getNum_some hg
      simp
      omega

theorem implNums_call {w0 : World} {base : Bs} {st : ASt} {dst : Option Nat} {K : ASt → Prop} {bk bp : Nat} {b : List UInt8} {p0 n : Nat} {Ho : Hd} {R : List (List CD)} (hb : b.length ≤ 2 ^ 40) (hp : p0 ≤ 2 ^ 40) (hn : n ≤ 2 ^ 30)
    (g : st.h.get 192 = .vars bk 132 [.ro (b.map byteR), .v (.int .i64 p0), .v (.bool false)]) (g1 : st.h.get 20112 = .vars bp 110 [.v (.int .i64 2), .v (.int .i64 0), .nil]) (g2 : st.h.get 5000 = .rows Ho 3 R true) (g3 : st.h.get 5001 = .dead)
    (hno : parseNums b n p0 = none → ∀ (l : List Int) (p : Nat) H h', p ≤ 2 ^ 40 → l.length ≤ n → AH.get h' 192 = .vars bk 132 [.ro (b.map byteR), .v (.int .i64 p), .v (.bool true)] → AH.get h' 20112 = .vars bp 110 [.v (.int .i64 2), .v (.int .i64 0), .nil] → AH.get h' 5000 = .rows Ho 3 R true →
      AH.get h' 5001 = .rows H 1 (l.map intR) true → aPut ⟨st.n, st.kb, st.t, h'⟩ dst (.sl 5001 H 1 0 l.length) K)
    (hyes : ∀ l p, parseNums b n p0 = some (l, p) → ∀ H h', AH.get h' 192 = .vars bk 132 [.ro (b.map byteR), .v (.int .i64 p), .v (.bool false)] → AH.get h' 20112 = .vars bp 110 [.v (.int .i64 2), .v (.int .i64 0), .nil] → AH.get h' 5000 = .rows Ho 3 R true →
      AH.get h' 5001 = .rows H 1 (l.map intR) true → aPut ⟨st.n, st.kb, st.t, h'⟩ dst (.sl 5001 H 1 0 l.length) K) :
    ACall ⟨Try.prog, tt, w0, base⟩ 149 [.p 192 bk 0, .v (.int .i64 n)] st dst K := by
  refine ACall.inline tt_ok Try.func149 (by kernel_rfl) rfl rfl rfl (Nat.le_of_ble_eq_true rfl) 40000 (fun w1 F => ?_)
  simp
  refine LoopT.intro eok (fun x : Nat × Nat × Bool × Hd × List Int => x.1 ≤ n ∧ x.2.2.2.2.length = x.1 ∧ x.2.1 ≤ 2 ^ 40 ∧ (x.2.2.1 = true → parseNums b n p0 = none) ∧ (x.2.2.1 = false → parseNums b n p0 = (parseNums b (n - x.1) x.2.1).map fun r => (x.2.2.2.2 ++ r.1, r.2)))
    (fun x => ⟨25, 40000, [(0, .p 192 bk 0), (1, .v (.int .i64 n)), (6, .v (.int .i64 x.1)), (5, .sl 5001 x.2.2.2.1 1 0 x.2.2.2.2.length)], [(192, .vars bk 132 [.ro (b.map byteR), .v (.int .i64 x.2.1), .v (.bool x.2.2.1)]), (20112, .vars bp 110 [.v (.int .i64 2), .v (.int .i64 0), .nil]), (5000, .rows Ho 3 R true), (5001, .rows x.2.2.2.1 1 (x.2.2.2.2.map intR) true)]⟩) (fun x => n - x.1) (0, p0, false, none, []) (by simp; omega) (by simp [g, g1, g2, g3]) (fun x hi => ?_)
  obtain ⟨i, p, bad, H, out⟩ := x
  simp only at hi ⊢
  obtain ⟨hi, hl, hp, hbad, hgood⟩ := hi
  by_cases h : i < n
  · cases bad with
    | true =>
      simp [h]
      exact hno (hbad rfl) out p H _ hp (by omega) (by simp) (by simp) (by simp) (by simp)
    | false =>
      have e : Go.IntKind.i64.wrap ((i : Int) + 1) = ((i + 1 : Nat) : Int) := i64_suc (by omega)
      have hg := hgood rfl
      rw [show n - i = (n - (i + 1)) + 1 by omega, parseNums] at hg
      simp [h]
      refine implNum_call (b := b) (at0 := p) 50000 hb (by unfold i64r; omega) (by simp) ?_ ?_
      · intro hN h' q1 q2
        simp [q1, q2]
        refine ⟨by omega, fun H2 => ⟨i + 1, p, H2, out ++ [0], ⟨by omega, by simp [hl], hp, by rw [hg, hN]; rfl⟩, by omega, ⟨e, rfl, by simp⟩, rfl, rfl, by simp⟩⟩
      · intro x q hN h' q1 q2
        simp [q1, q2]
        have hq := getNum_some hN
        refine ⟨by omega, fun H2 => ⟨i + 1, q, H2, out ++ [(x : Int)], ⟨by omega, by simp [hl], by omega, ?_⟩, by omega, ⟨e, rfl, by simp⟩, rfl, rfl, by simp⟩⟩
        rw [hg, hN]
        dsimp only
        cases parseNums b (n - (i + 1)) q <;> simp
  · have hi2 : i = n := by omega
    subst hi2
    cases bad with
    | true =>
      simp [h]
      exact hno (hbad rfl) out p H _ hp (by omega) (by simp) (by simp) (by simp) (by simp)
    | false =>
      simp [h]
      have hg := hgood rfl
      simp [parseNums] at hg
      exact hyes out p hg H _ (by simp) (by simp) (by simp) (by simp)

theorem parseOps_len {b : List UInt8} : ∀ {n p : Nat} {l : List Part} {q : Nat}, parseOps b n p = some (l, q) → l.length = n ∧ p + nL nPart l ≤ q ∧ q ≤ max p b.length
  | 0, p, l, q, h => by simp [parseOps] at h; obtain ⟨rfl, rfl⟩ := h; simp [nL, sumN]; omega
  | n + 1, p, l, q, h => by
    rw [parseOps] at h
    cases hg : getNum b p with
    | none => simp [hg] at h
    | some r =>
      obtain ⟨x, p2⟩ := r
      have h4 := getNum_some hg
      simp only [hg] at h
      split at h
      · cases hn : parseNums b (x / 4) p2 with
        | none => simp [hn] at h
        | some r2 =>
          obtain ⟨g, p3⟩ := r2
          have h5 := parseNums_len hn
          simp [hn] at h
          obtain ⟨l2, h2, rfl⟩ := h
          have h3 := parseOps_len h2
          simp [nL, sumN, nPart] at h3 ⊢
          omega
      · simp at h
        obtain ⟨l2, h2, rfl⟩ := h
        have h3 := parseOps_len h2
        simp [nL, sumN, nPart] at h3 ⊢
        omega

theorem implOp_call {w0 : World} {base : Bs} {st : ASt} {dst : Option Nat} {K : ASt → Prop} {bk : Nat} {b : List UInt8} {at0 : Int} (hb : b.length ≤ 2 ^ 40) (ha : i64r at0)
    (g : st.h.get 192 = .vars bk 132 [.ro (b.map byteR), .v (.int .i64 at0), .v (.bool false)]) (g2 : st.h.get 5000 = .dead)
    (hno : parseOp b at0 = none → ∀ (l : List Part) (p : Int) H h', AH.get h' 192 = .vars bk 132 [.ro (b.map byteR), .v (.int .i64 p), .v (.bool true)] →
      AH.get h' 5000 = .rows H 3 (l.map Part.row) true → aPut ⟨st.n, st.kb, st.t, h'⟩ dst (.sl 5000 H 3 0 l.length) K)
    (hyes : ∀ l p, parseOp b at0 = some (l, p) → ∀ H h', AH.get h' 192 = .vars bk 132 [.ro (b.map byteR), .v (.int .i64 p), .v (.bool false)] →
      AH.get h' 5000 = .rows H 3 (l.map Part.row) true → aPut ⟨st.n, st.kb, st.t, h'⟩ dst (.sl 5000 H 3 0 l.length) K) :
    ACall ⟨Try.prog, tt, w0, base⟩ 113 [.p 192 bk 0] st dst K := by
  refine ACall.inline tt_ok Try.func113 (by kernel_rfl) rfl rfl rfl (Nat.le_of_ble_eq_true rfl) 20000 (fun w1 F => ?_)
  simp
  refine implNum_call (b := b) (at0 := at0) 30000 hb ha g ?_ ?_
  · intro hN h' q1 q2
    have hpN : parseOp b at0 = none := by simp [parseOp, hN]
    simp
    refine LoopT.intro eok (fun x : Unit => True) (fun x => ⟨43, 20000, [(0, .p 192 bk 0), (4, .v (.int .i64 0)), (5, .v (.int .i64 0)), (3, .sl 5000 none 3 0 0)], [(192, .vars bk 132 [.ro (b.map byteR), .v (.int .i64 at0), .v (.bool true)]), (5000, .rows none 3 [] true)]⟩) (fun x => 0) () trivial (by simp [q1, q2, g2]) (fun x hi => ?_)
    simp
    exact hno hpN [] at0 none _ (by simp) (by simp)
  · intro n p0 hN h' q1 q2
    have hN1 := getNum_some hN
    have hpY : parseOp b at0 = parseOps b n p0 := by simp [parseOp, hN]
    rw [hpY] at hno hyes
    simp
    refine LoopT.intro eok (fun x : Nat × Nat × Bool × Hd × List Part => x.1 ≤ n ∧ x.2.2.2.2.length = x.1 ∧ x.2.1 ≤ 2 ^ 40 ∧ (x.2.2.1 = true → parseOps b n p0 = none) ∧ (x.2.2.1 = false → parseOps b n p0 = (parseOps b (n - x.1) x.2.1).map fun r => (x.2.2.2.2 ++ r.1, r.2)))
      (fun x => ⟨43, 20000, [(0, .p 192 bk 0), (4, .v (.int .i64 n)), (5, .v (.int .i64 x.1)), (3, .sl 5000 x.2.2.2.1 3 0 x.2.2.2.2.length)], [(192, .vars bk 132 [.ro (b.map byteR), .v (.int .i64 x.2.1), .v (.bool x.2.2.1)]), (5000, .rows x.2.2.2.1 3 (x.2.2.2.2.map Part.row) true)]⟩) (fun x => n - x.1) (0, p0, false, none, []) (by simp; omega) (by simp [q1, q2, g2]) (fun x hi => ?_)
    obtain ⟨i, p, bad, H, out⟩ := x
    simp only at hi ⊢
    obtain ⟨hi, hl, hp, hbad, hgood⟩ := hi
    by_cases h : i < n
    · cases bad with
      | true =>
        simp [h]
        exact hno (hbad rfl) out p H _ (by simp) (by simp)
      | false =>
        have e : Go.IntKind.i64.wrap ((i : Int) + 1) = ((i + 1 : Nat) : Int) := i64_suc (by omega)
        have hg := hgood rfl
        rw [show n - i = (n - (i + 1)) + 1 by omega, parseOps] at hg
        simp [h]
        refine implNum_call (b := b) (at0 := p) 30000 hb (by unfold i64r; omega) (by simp) ?_ ?_
        · intro hN h' q1 q2
          simp [q1, q2]
          exact ⟨by omega, fun H2 => ⟨i + 1, p, H2, out ++ [⟨0, 0, []⟩], ⟨by omega, by simp [hl], hp, by rw [hg, hN]; rfl⟩, by omega, ⟨e, rfl, by simp⟩, rfl, rfl, by simp [Part.row]; rfl⟩⟩
        · intro x q hN h' q1 q2
          have hx := getNum_some hN
          have em : (x : Int).tmod 4 = ((x % 4 : Nat) : Int) := by rw [Int.tmod_eq_emod_of_nonneg (by omega)]; omega
          have ed : (x : Int).tdiv 4 = ((x / 4 : Nat) : Int) := by rw [Int.tdiv_eq_ediv_of_nonneg (by omega)]; omega
          have em2 : Go.IntKind.i64.wrap ((x % 4 : Nat) : Int) = ((x % 4 : Nat) : Int) := i64_nat (by omega)
          have ed2 : Go.IntKind.i64.wrap ((x / 4 : Nat) : Int) = ((x / 4 : Nat) : Int) := i64_nat (by omega)
          have hg2 := hg
          rw [hN] at hg2
          dsimp only at hg2
          generalize x % 4 = y at em em2 hg2
          have hz : x / 4 ≤ 2 ^ 30 := by omega
          generalize x / 4 = z at ed ed2 hg2 hz
          simp [q1, q2, em, em2]
          intro b7
          by_cases hy : y = 2
          · subst hy
            simp [ed, ed2]
            rw [if_pos rfl] at hg2
            refine implNums_call (bp := b7) (b := b) (p0 := q) (n := z) (Ho := H) (R := out.map Part.row) hb (by omega) (by omega) (by simp [q1]) (by simp) (by simp [q2]) (by simp [q2]) ?_ ?_
            · intro hN2 l p2 H2 h2 _ hl2 r1 r2 r3 r4
              rw [hN2] at hg2
              simp [r1, r2, r3, r4]
              refine ⟨by omega, fun H3 => ⟨i + 1, p2, H3, out ++ [⟨2, 0, l⟩], ⟨by omega, by simp [hl], by omega, by rw [hg2]; rfl⟩, by omega, ⟨e, rfl, by simp⟩, rfl, rfl, by simp [Part.row]⟩⟩
            · intro l p2 hN2 H2 h2 r1 r2 r3 r4
              have hl2 := parseNums_len hN2
              rw [hN2] at hg2
              simp [r1, r2, r3, r4]
              refine ⟨by omega, fun H3 => ⟨i + 1, p2, H3, out ++ [⟨2, 0, l⟩], ⟨by omega, by simp [hl], by omega, ?_⟩, by omega, ⟨e, rfl, by simp⟩, rfl, rfl, by simp [Part.row]⟩⟩
              rw [hg2]
              dsimp only
              cases parseOps b (n - (i + 1)) p2 <;> simp
          · have hy2 : ¬ (y : Int) = 2 := by omega
            rw [if_neg hy] at hg2
            simp [hy2, ed, ed2, q1, q2]
            refine ⟨by omega, fun H3 => ⟨i + 1, q, H3, out ++ [⟨y, z, []⟩], ⟨by omega, by simp [hl], by omega, ?_⟩, by omega, ⟨e, rfl, by simp⟩, rfl, rfl, by simp [Part.row]⟩⟩
            rw [hg2]
            cases parseOps b (n - (i + 1)) q <;> simp
    · have hi2 : i = n := by omega
      subst hi2
      cases bad with
      | true =>
        simp [h]
        exact hno (hbad rfl) out p H _ (by simp) (by simp)
      | false =>
        simp [h]
        have hg := hgood rfl
        simp [parseOps] at hg
        exact hyes out p hg H _ (by simp) (by simp)

theorem implGetOp_c (b : List UInt8) (_ : b.length ≤ 9223372036854775807) (n0 : b.length ≤ 2 ^ 20) (at0 : Int) (ha : i64r at0) :
    PureC Try.prog 56 [.c (.s (b.map byteR)), .c (vi at0)] (.tup [.c (.s ((fGetOp b at0).1.map Part.row)) 3, .c (vi (fGetOp b at0).2.1) 1, .c (.v (.bool (fGetOp b at0).2.2)) 1]) := by
  refine PureC.intro' tt_ok Try.func56 (by kernel_rfl) rfl rfl rfl (Nat.le_of_ble_eq_true rfl) (fun w0 base => ?_)
  simp
  intro bk
  refine implOp_call (b := b) (at0 := at0) (by omega) ha (by simp) (by simp) ?_ ?_
  · intro hN l p H h' q1 q2
    have e : fGetOp b at0 = ([], 0, false) := by simp [fGetOp, hN]
    simp [q1, q2, e]
  · intro l p hN H h' q1 q2
    have hl : nL nPart l ≤ 2 ^ 20 := by
      unfold parseOp at hN
      cases hg : getNum b at0 with
      | none => simp [hg] at hN
      | some r =>
        obtain ⟨x, p0⟩ := r
        have h1 := getNum_some hg
        simp [hg] at hN
        have h2 := parseOps_len hN
        omega
    simp [q1, q2]
    refine ACall.pure (implIsNorm_c l (by omega)) (by simp [q1, q2]) ?_
    by_cases hn : isNorm l
    · have e : fGetOp b at0 = (l, (p : Int), true) := by simp [fGetOp, hN, hn]
      simp [q1, q2, e, hn]
      refine DrawT.quietH eok mix (by kernel_rfl) ?_
      simp [q1, q2]
    · have e : fGetOp b at0 = ([], 0, false) := by simp [fGetOp, hN, hn]
      simp [q1, q2, e, hn]
end Go.Proofs.Ythcdlllclbdbmaa
