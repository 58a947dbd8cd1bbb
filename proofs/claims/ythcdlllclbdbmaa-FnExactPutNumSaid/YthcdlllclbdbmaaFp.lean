import Derived.Test.YthcdlllclbdbmaaCNum
namespace Go.Proofs.Ythcdlllclbdbmaa
open Go.AM
set_option maxRecDepth 20000

structure Part where
  kind : Int
  n : Int
  signs : List Int
  deriving Inhabited, DecidableEq

def Part.row (p : Part) : List CD := [vi p.kind, vi p.n, .s (p.signs.map intR)]
def Part.res (p : Part) : List (CD × Nat) := [(vi p.kind, 1), (vi p.n, 1), (.s (p.signs.map intR), 1)]

theorem szIntS_c (l : List Int) (hl : l.length ≤ 9223372036854775807) (left : Nat) (hf : left ≤ 2 ^ 20) : PureC Try.prog 68 [.c (.s (l.map intR)), .c (vi left)] (.one (.c (vi (if l.length ≤ left then ((left - l.length : Nat) : Int) else -1)) 1)) := by
  refine PureC.intro' tt_ok Try.func68 (by kernel_rfl) rfl rfl rfl (Nat.le_of_ble_eq_true rfl) (fun w0 base => ?_)
  have hw : IntKind.i64.wrap ((left : Int) - (l.length : Int)) = (left : Int) - l.length := IntWalk.i64_in _ (by omega)
  simp [hw]
  by_cases h : l.length ≤ left
  · have hz : ¬ (left : Int) - l.length < 0 := by omega
    simp [hz, h]
    omega
  · have hz : (left : Int) - l.length < 0 := by omega
    simp [hz, h]

theorem toIntS_c (l : List Int) (hl : l.length ≤ 2 ^ 40) : PureC Try.prog 49 [.c (.s (l.map intR))] (.one (.c (.s (l.map intR)) 1)) := by
  refine PureC.intro' tt_ok Try.func49 (by kernel_rfl) rfl rfl rfl (Nat.le_of_ble_eq_true rfl) (fun w0 base => ?_)
  simp
  refine ⟨by omega, fun b => ?_⟩
  refine LoopT.intro eok (fun i : Nat => i ≤ l.length) (fun i => ⟨22, 0, [(4, .v (.int .i64 i)), (3, .sl 112 (some (b, 0, l.length)) 1 0 l.length), (0, .ro (l.map intR))],
    [(112, .rows (some (b, 0, l.length)) 1 (fillR intR [.v (.int .i64 0)] l i) true)]⟩) (fun i => l.length - i) 0 (by simp) (by simp [fillR_0]) (fun i hi => ?_)
  by_cases h : i < l.length
  · simp [h, fillR_length hi]
    exact ⟨i + 1, by omega, by omega, i64_suc (by omega), fillR_set (f := intR) h⟩
  · have : i = l.length := by omega
    subst this
    simp [fillR_all, cut]

theorem eqIntS_c (a b : List Int) (hl : a.length ≤ 2 ^ 40) : PureC Try.prog 51 [.c (.s (a.map intR)), .c (.s (b.map intR))] (.one (.c (vb (a = b)) 1)) := by
  refine PureC.intro' tt_ok Try.func51 (by kernel_rfl) rfl rfl rfl (Nat.le_of_ble_eq_true rfl) (fun w0 base => ?_)
  by_cases h : a.length = b.length
  · simp [h]
    refine LoopT.intro eok (fun i : Nat => i ≤ a.length ∧ a.take i = b.take i) (fun i => ⟨26, 0, [(5, .v (.int .i64 i)), (1, .ro (b.map intR)), (0, .ro (a.map intR))], []⟩) (fun i => a.length - i) 0 (by simp) (by simp) (fun i hi => ?_)
    by_cases hlt : i < a.length
    · simp [hlt]
      have hlt' : i < b.length := by omega
      refine DrawT.quiet eok mix (by kernel_rfl) ?_
      simp [hlt, hlt']
      refine Br.mk (fun h1 => ?_) (fun h1 => ?_)
      · simp
        exact ⟨i + 1, ⟨by omega, take_next hlt hlt' hi.2 (of_yes h1)⟩, by omega, i64_suc (by omega)⟩
      · simp [dc_no]
        exact ne_at hlt hlt' (of_no h1)
    · simp [hlt, dc_yes]
      exact take_all (by omega) (by omega) hi.2
  · have hz : ¬ (a.length : Int) = b.length := by omega
    simp [hz, dc_no]
    exact fun h2 => absurd (by rw [h2]) h

theorem szPart_c (p : Part) (hl : p.signs.length ≤ 9223372036854775807) (left : Nat) (hf : left ≤ 2 ^ 20) : PureC Try.prog 78 [.agg p.row, .c (vi left)] (.one (.c (vi (if p.signs.length ≤ left then ((left - p.signs.length : Nat) : Int) else -1)) 1)) := by
  refine PureC.intro' tt_ok Try.func78 (by kernel_rfl) rfl rfl rfl (Nat.le_of_ble_eq_true rfl) (fun w0 base => ?_)
  simp [Part.row]
  intro b
  refine ACall.pure (szIntS_c p.signs hl left hf) (by simp) ?_
  by_cases h : p.signs.length ≤ left
  · have hz : ¬ ((left - p.signs.length : Nat) : Int) < 0 := by omega
    simp [h, hz]
  · simp [h]

theorem toPart_c (p : Part) (hl : p.signs.length ≤ 2 ^ 40) : PureC Try.prog 82 [.agg p.row] (.one (.agg p.res)) := by
  refine PureC.intro' tt_ok Try.func82 (by kernel_rfl) rfl rfl rfl (Nat.le_of_ble_eq_true rfl) (fun w0 base => ?_)
  simp [Part.row, Part.res]
  intro b1 b2 b3
  refine ACall.pure (toIntS_c p.signs hl) (by simp) ?_
  simp

theorem eqPart_c (p q : Part) (hl : p.signs.length ≤ 2 ^ 40) : PureC Try.prog 87 [.agg p.row, .agg q.row] (.one (.c (vb (p = q)) 1)) := by
  refine PureC.intro' tt_ok Try.func87 (by kernel_rfl) rfl rfl rfl (Nat.le_of_ble_eq_true rfl) (fun w0 base => ?_)
  obtain ⟨k1, n1, s1⟩ := p
  obtain ⟨k2, n2, s2⟩ := q
  simp [Part.row]
  intro b1 b2
  by_cases h1 : k1 = k2
  · by_cases h2 : n1 = n2
    · simp [h1, h2]
      refine ACall.pure (eqIntS_c s1 s2 hl) (by simp) ?_
      by_cases h3 : s1 = s2 <;> simp [h3]
    · simp [h1, h2]
  · simp [h1]

theorem toPartS_c (l : List Part) (hl : l.length ≤ 2 ^ 30) (hs : ∀ p ∈ l, p.signs.length ≤ 2 ^ 40) : PureC Try.prog 35 [.c (.s (l.map Part.row))] (.one (.c (.s (l.map Part.row)) 3)) := by
  refine PureC.intro' tt_ok Try.func35 (by kernel_rfl) rfl rfl rfl (Nat.le_of_ble_eq_true rfl) (fun w0 base => ?_)
  simp
  refine ⟨by omega, fun b => ?_⟩
  refine LoopT.intro eok (fun i : Nat => i ≤ l.length) (fun i => ⟨23, 0, [(4, .v (.int .i64 i)), (3, .sl 112 (some (b, 0, l.length)) 3 0 l.length), (0, .ro (l.map Part.row))],
    [(112, .rows (some (b, 0, l.length)) 3 (fillR Part.row [.v (.int .i64 0), .v (.int .i64 0), .s []] l i) true)]⟩) (fun i => l.length - i) 0 (by simp) (by simp [fillR_0]) (fun i hi => ?_)
  by_cases h : i < l.length
  · simp [h, Part.row]
    refine ACall.pure (toPart_c l[i] (hs _ (List.getElem_mem h))) (by simp [Part.row]) ?_
    simp [Part.res, fillR_length hi, h]
    exact ⟨i + 1, by omega, by omega, i64_suc (by omega), fillR_set (f := Part.row) h⟩
  · have : i = l.length := by omega
    subst this
    simp [fillR_all, cut]
    exact fun a _ => rfl

theorem eqPartS_c (a b : List Part) (hl : a.length ≤ 2 ^ 30) (hs : ∀ p ∈ a, p.signs.length ≤ 2 ^ 40) : PureC Try.prog 37 [.c (.s (a.map Part.row)), .c (.s (b.map Part.row))] (.one (.c (vb (a = b)) 1)) := by
  refine PureC.intro' tt_ok Try.func37 (by kernel_rfl) rfl rfl rfl (Nat.le_of_ble_eq_true rfl) (fun w0 base => ?_)
  by_cases h : a.length = b.length
  · simp [h]
    refine LoopT.intro eok (fun i : Nat => i ≤ a.length ∧ a.take i = b.take i) (fun i => ⟨27, 0, [(5, .v (.int .i64 i)), (1, .ro (b.map Part.row)), (0, .ro (a.map Part.row))], []⟩) (fun i => a.length - i) 0 (by simp) (by simp) (fun i hi => ?_)
    by_cases hlt : i < a.length
    · simp [hlt]
      have hlt' : i < b.length := by omega
      refine DrawT.quiet eok mix (by kernel_rfl) ?_
      simp [hlt, hlt', Part.row]
      refine ⟨_, _, eqPart_c a[i] b[i] (hs _ (List.getElem_mem hlt)), by simp [Part.row], ?_⟩
      simp
      refine Br.mk (fun h1 => ?_) (fun h1 => ?_)
      · simp
        exact ⟨i + 1, ⟨by omega, take_next hlt hlt' hi.2 (of_yes h1)⟩, by omega, i64_suc (by omega)⟩
      · simp [dc_no]
        exact ne_at hlt hlt' (of_no h1)
    · simp [hlt, dc_yes]
      exact take_all (by omega) (by omega) hi.2
  · have hz : ¬ (a.length : Int) = b.length := by omega
    simp [hz, dc_no]
    exact fun h2 => absurd (by rw [h2]) h

def sumN {α : Type} (f : α → Nat) : List α → Nat
  | [] => 0
  | a :: l => f a + sumN f l
theorem sumN_drop {α : Type} {f : α → Nat} : ∀ {l : List α} {i : Nat} (h : i < l.length), sumN f (l.drop i) = f l[i] + sumN f (l.drop (i + 1))
  | a :: l, 0, _ => rfl
  | a :: l, i + 1, h => by simpa using sumN_drop (l := l) (i := i) (by simpa using h)

def nPart (p : Part) : Nat := p.signs.length
def szR (n left : Nat) : Int := if n ≤ left then ((left - n : Nat) : Int) else -1
theorem szR_ok {n left : Nat} (h : n ≤ left) : szR n left = ((left - n : Nat) : Int) := by simp [szR, h]
theorem szR_no {n left : Nat} (h : ¬ n ≤ left) : szR n left = -1 := by simp [szR, h]

theorem szPartS_c (l : List Part) (hl : l.length ≤ 9223372036854775807) (hs : ∀ p ∈ l, p.signs.length ≤ 9223372036854775807) (left : Nat) (hf : left ≤ 2 ^ 20) : PureC Try.prog 33 [.c (.s (l.map Part.row)), .c (vi left)] (.one (.c (vi (szR (l.length + sumN nPart l) left)) 1)) := by
  refine PureC.intro' tt_ok Try.func33 (by kernel_rfl) rfl rfl rfl (Nat.le_of_ble_eq_true rfl) (fun w0 base => ?_)
  have hw : IntKind.i64.wrap ((left : Int) - (l.length : Int)) = (left : Int) - l.length := IntWalk.i64_in _ (by omega)
  by_cases h : l.length ≤ left
  · obtain ⟨lf, hlf⟩ : ∃ lf : Nat, left - l.length = lf := ⟨_, rfl⟩
    have hlz : (left : Int) - l.length = (lf : Int) := by omega
    have hw2 : IntKind.i64.wrap (lf : Int) = lf := i64_nat (by omega)
    simp [hlz, hw2]
    obtain ⟨r, hr⟩ : ∃ r, szR (l.length + sumN nPart l) left = r := ⟨_, rfl⟩
    have hr0 : szR (sumN nPart l) lf = r := by rw [← hr]; unfold szR; split <;> split <;> omega
    rw [hr]
    refine LoopT.intro eok (fun x : Nat × Nat => x.1 ≤ l.length ∧ x.2 ≤ 2 ^ 20 ∧ szR (sumN nPart (l.drop x.1)) x.2 = r) (fun x => ⟨27, 0, [(5, .v (.int .i64 x.1)), (1, .v (.int .i64 x.2)), (0, .ro (l.map Part.row))], []⟩) (fun x => l.length - x.1) (0, lf) (by simp [hr0]; omega) (by simp) ?_
    rintro ⟨i, m⟩ ⟨hi, hm, hx⟩
    simp only at hi hm hx ⊢
    by_cases hlt : i < l.length
    · rw [sumN_drop hlt] at hx
      simp [hlt, Part.row]
      refine ACall.pure (szPart_c l[i] (hs _ (List.getElem_mem hlt)) m hm) (by simp [Part.row]) ?_
      by_cases hk : l[i].signs.length ≤ m
      · have hz : ¬ ((m - l[i].signs.length : Nat) : Int) < 0 := by omega
        simp [hk, hz]
        refine ⟨i + 1, m - l[i].signs.length, ⟨by omega, by omega, ?_⟩, by omega, i64_suc (by omega), rfl⟩
        rw [← hx]; unfold szR nPart; split <;> split <;> omega
      · rw [szR_no (by unfold nPart; omega)] at hx
        simp [hk, ← hx]
    · have : i = l.length := by omega
      subst this
      simp only [List.drop_length, sumN, szR, Nat.zero_le, if_true, Nat.sub_zero] at hx
      simp [hx]
  · have hz : (left : Int) - l.length < 0 := by omega
    simp [hw, hz, szR_no (show ¬ l.length + sumN nPart l ≤ left by omega)]
end Go.Proofs.Ythcdlllclbdbmaa
