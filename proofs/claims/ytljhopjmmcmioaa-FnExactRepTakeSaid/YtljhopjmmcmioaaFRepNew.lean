import Derived.Test.YtljhopjmmcmioaaFRepOk
namespace Go.Proofs.Ytljhopjmmcmioaa
open Go.AM
set_option maxRecDepth 20000

theorem copyInts_c (l : List Int) (hl : l.length ≤ 2 ^ 40) : PureC Try.prog 139 [.c (.s (l.map intR))] (.one (.c (.s (l.map intR)) 1)) := by
  refine PureC.intro' tt_ok Try.func139 (by kernel_rfl) rfl rfl rfl (Nat.le_of_ble_eq_true rfl) (fun w0 base => ?_)
  simp
  omega

def Rep.zero : Rep := ⟨0, 0, 0, [], false, [], []⟩
noncomputable def repNew0 (c s v : Int) (t : List Int) : Rep := ⟨c, s, v, t, false, keeping t.length, keeping t.length⟩
open Classical in
noncomputable def repOr (r : Rep) : Rep × Bool := if repOk r then (r, true) else (Rep.zero, false)
noncomputable def fRepNew (c s v : Int) (t : List Int) : Rep × Bool := repOr (repNew0 c s v t)

theorem keeping_n (n : Int) : nL nPart (keeping n) ≤ 1 := by
  unfold keeping
  split <;> simp [nL, sumN, nPart]
theorem repNew0_n (c s v : Int) (t : List Int) : nRep (repNew0 c s v t) ≤ t.length + 2 := by
  have h := keeping_n t.length
  unfold nRep repNew0
  simp only
  omega
theorem Rep.zero_n : nRep Rep.zero = 0 := rfl

theorem fRepNew_b (a0 : Int) (_ : i64r a0) (a1 : Int) (_ : i64r a1) (a2 : Int) (_ : i64r a2) (a3 : List Int) (_ : a3.length ≤ 9223372036854775807 ∧ ∀ n ∈ a3, i64r n) (n3 : a3.length ≤ 2 ^ 20) : nRep (fRepNew a0 a1 a2 a3).1 ≤ 2 ^ 40 := by
  unfold fRepNew repOr
  split
  · have := repNew0_n a0 a1 a2 a3
    simp only; omega
  · simp [Rep.zero_n]

theorem implRepNew_c (a0 : Int) (_ : i64r a0) (a1 : Int) (_ : i64r a1) (a2 : Int) (_ : i64r a2) (a3 : List Int) (_ : a3.length ≤ 9223372036854775807 ∧ ∀ n ∈ a3, i64r n) (n3 : a3.length ≤ 2 ^ 20) :
    PureC Try.prog 105 [.c (vi a0), .c (vi a1), .c (vi a2), .c (.s (a3.map intR))] (.tup [.agg (fRepNew a0 a1 a2 a3).1.res, .c (.v (.bool (fRepNew a0 a1 a2 a3).2)) 1]) := by
  refine PureC.intro' tt_ok Try.func105 (by kernel_rfl) rfl rfl rfl (Nat.le_of_ble_eq_true rfl) (fun w0 base => ?_)
  simp
  intro b8
  refine ACall.pure (copyInts_c a3 (by omega)) (by simp) ?_
  simp
  intro H1
  refine ACall.pure (implKeeping_c a3.length) (by simp) ?_
  simp
  intro H2
  refine ACall.pure (implKeeping_c a3.length) (by simp) ?_
  simp
  intro H3
  refine ACall.inline tt_ok Try.func89 (by kernel_rfl) rfl rfl rfl (Nat.le_of_ble_eq_true rfl) 20000 (fun w1 F => ?_)
  simp
  intros
  have hn := repNew0_n a0 a1 a2 a3
  refine ACall.pure (implRepOk_i (repNew0 a0 a1 a2 a3) (by omega)) (by simp [Rep.row, repNew0]) ?_
  by_cases h : repOk (repNew0 a0 a1 a2 a3)
  · have e : fRepNew a0 a1 a2 a3 = (repNew0 a0 a1 a2 a3, true) := by unfold fRepNew repOr; rw [if_pos h]
    simp [h, e, Rep.res]
    simp [repNew0]
  · have e : fRepNew a0 a1 a2 a3 = (Rep.zero, false) := by unfold fRepNew repOr; rw [if_neg h]
    have e2 : dc (repOk (repNew0 a0 a1 a2 a3)) = false := by rw [dc_no]; exact h
    simp [e2, e, Rep.res, Rep.zero]

theorem specRepNew_c (a0 : Int) (_ : i64r a0) (a1 : Int) (_ : i64r a1) (a2 : Int) (_ : i64r a2) (a3 : List Int) (_ : a3.length ≤ 9223372036854775807 ∧ ∀ n ∈ a3, i64r n) (n3 : a3.length ≤ 2 ^ 20) :
    PureC Try.prog 102 [.c (vi a0), .c (vi a1), .c (vi a2), .c (.s (a3.map intR))] (.tup [.agg (fRepNew a0 a1 a2 a3).1.res, .c (.v (.bool (fRepNew a0 a1 a2 a3).2)) 1]) := by
  refine PureC.intro' tt_ok Try.func102 (by kernel_rfl) rfl rfl rfl (Nat.le_of_ble_eq_true rfl) (fun w0 base => ?_)
  simp
  intro b8 b9
  refine ⟨by omega, fun H1 => ?_⟩
  refine ACall.pure (specKeeping_c a3.length) (by simp) ?_
  simp
  intro H2
  refine ACall.pure (specKeeping_c a3.length) (by simp) ?_
  simp
  intro H3
  refine ACall.inline tt_ok Try.func86 (by kernel_rfl) rfl rfl rfl (Nat.le_of_ble_eq_true rfl) 20000 (fun w1 F => ?_)
  simp
  intros
  have hn := repNew0_n a0 a1 a2 a3
  refine ACall.pure (specRepOk_i (repNew0 a0 a1 a2 a3) (by omega)) (by simp [Rep.row, repNew0]) ?_
  by_cases h : repOk (repNew0 a0 a1 a2 a3)
  · have e : fRepNew a0 a1 a2 a3 = (repNew0 a0 a1 a2 a3, true) := by unfold fRepNew repOr; rw [if_pos h]
    simp [h, e, Rep.res]
    simp [repNew0]
  · have e : fRepNew a0 a1 a2 a3 = (Rep.zero, false) := by unfold fRepNew repOr; rw [if_neg h]
    have e2 : dc (repOk (repNew0 a0 a1 a2 a3)) = false := by rw [dc_no]; exact h
    simp [e2, e, Rep.res, Rep.zero]
end Go.Proofs.Ytljhopjmmcmioaa
