import Derived.Test.YthcdlllclbdbmaaFRepNew
import Derived.Test.YthcdlllclbdbmaaDCall
namespace Go.Proofs.Ythcdlllclbdbmaa
open Go.AM
set_option maxRecDepth 20000

theorem take_snoc {α β : Type} {f : α → β} {l : List α} {i : Nat} (h : i < l.length) : List.take i (l.map f) ++ [f l[i]] = List.take (i + 1) (l.map f) := by
  rw [List.take_add_one]; simp [h]

theorem copyOp_c (o : List Part) (hl : nL nPart o ≤ 2 ^ 30) : PureC Try.prog 153 [.c (.s (o.map Part.row))] (.one (.c (.s (o.map Part.row)) 3)) := by
  refine PureC.intro' tt_ok Try.func153 (by kernel_rfl) rfl rfl rfl (Nat.le_of_ble_eq_true rfl) (fun w0 base => ?_)
  have hle := nL_len hl
  simp
  refine LoopT.intro eok (fun x : Nat × Hd => x.1 ≤ o.length) (fun x => ⟨22, 0, [(8, .v (.int .i64 x.1)), (7, .v (.int .i64 o.length)), (6, .ro (o.map Part.row)), (3, .sl 304 x.2 3 0 x.1)], [(304, .rows x.2 3 ((o.take x.1).map Part.row) true)]⟩) (fun x => o.length - x.1) (0, none) (by simp) (by simp) (fun x hi => ?_)
  obtain ⟨i, H⟩ := x
  simp only at hi ⊢
  by_cases h : i < o.length
  · have e : Go.IntKind.i64.wrap ((i : Int) + 1) = ((i + 1 : Nat) : Int) := i64_suc (by omega)
    have hm : min i o.length = i := by omega
    have hs := nL_at hl h
    simp [h, Part.row]
    intro b5
    refine ACall.pure (copyInts_c o[i].signs (by unfold nPart at hs; omega)) (by simp) ?_
    simp [hm]
    exact ⟨by omega, fun H3 => ⟨i + 1, by omega, by omega, H3, ⟨e, rfl, rfl⟩, rfl, take_snoc (f := Part.row) h⟩⟩
  · have : i = o.length := by omega
    subst this
    simp [cut]

theorem l02Copy_c (o : List Part) (hl : nL nPart o ≤ 2 ^ 30) : PureC Try.prog 152 [.c (.s (o.map Part.row))] (.one (.c (.s (o.map Part.row)) 3)) := by
  refine PureC.intro' tt_ok Try.func152 (by kernel_rfl) rfl rfl rfl (Nat.le_of_ble_eq_true rfl) (fun w0 base => ?_)
  have hle := nL_len hl
  simp
  intro b
  refine LoopT.intro eok (fun x : Nat × Hd => x.1 ≤ o.length) (fun x => ⟨27, 0, [(9, .v (.int .i64 x.1)), (8, .v (.int .i64 o.length)), (7, .ro (o.map Part.row)), (3, .sl 96 x.2 3 0 x.1)], [(96, .rows x.2 3 ((o.take x.1).map Part.row) true)]⟩) (fun x => o.length - x.1) (0, some (b, 0, 0)) (by simp) (by simp) (fun x hi => ?_)
  obtain ⟨i, H⟩ := x
  simp only at hi ⊢
  by_cases h : i < o.length
  · have e : Go.IntKind.i64.wrap ((i : Int) + 1) = ((i + 1 : Nat) : Int) := i64_suc (by omega)
    have hm : min i o.length = i := by omega
    have hs := nL_at hl h
    unfold nPart at hs
    simp [h, Part.row]
    intro b5
    refine DrawT.introP eok mix [0, 1, 2, 3, 4, 6, 7] [5, 8, 9, 10, 11, 12] [([false, false, false, false, false, false, false], [true, true, true, true, true, true, true]), ([true, false, false, false, false, false, false], [false, true, true, true, true, true, true]), ([false, false, true, false, true, false, false], [false, true, false, true, false, true, true]), ([false, false, false, false, false, false, false], [false, true, false, true, false, true, true]), ([false, false, false, false, false, false, true], [false, true, false, true, false, true, false]), ([false, true, false, true, false, true, false], [false, false, false, false, false, false, false])] [false, false, false, false, false, false, false] (by kernel_rfl) ?_
    simp [hm]
    exact ⟨by omega, by omega, fun H3 => ⟨i + 1, by omega, by omega, H3, ⟨e, rfl, rfl⟩, rfl, take_snoc (f := Part.row) h⟩⟩
  · have : i = o.length := by omega
    subst this
    simp [cut]

def Call.zero : Call := ⟨0, ⟨#[]⟩, 0, 0, 0, [], []⟩
def submit (r : Rep) : Call := ⟨2, ⟨#[]⟩, r.client, r.seq, r.rev, r.sent, []⟩
theorem submitOf_c (r : Rep) (hl : nRep r ≤ 2 ^ 30) : PureC Try.prog 117 [.agg r.row] (.one (.agg (submit r).res)) := by
  refine PureC.intro' tt_ok Try.func117 (by kernel_rfl) rfl rfl rfl (Nat.le_of_ble_eq_true rfl) (fun w0 base => ?_)
  unfold nRep at hl
  simp [Rep.row]
  intros
  refine DrawT.introP eok mix [0, 1, 2, 3, 4, 5, 6, 7] [8, 9, 10] [([true, false, false, false, false, false, false, false], [false, true, true, true, true, true, true, true]), ([false, false, true, false, true, false, true, false], [false, true, false, true, false, true, false, true]), ([false, true, false, true, false, true, false, true], [false, false, false, false, false, false, false, false])] [false, false, false, false, false, false, false, false] (by kernel_rfl) ?_
  simp
  refine ACall.pure (copyOp_c r.sent (by omega)) (by simp) ?_
  simp [submit, Call.res]
theorem l17Call_c (r : Rep) (hl : nRep r ≤ 2 ^ 30) : PureC Try.prog 116 [.agg r.row] (.one (.agg (submit r).res)) := by
  refine PureC.intro' tt_ok Try.func116 (by kernel_rfl) rfl rfl rfl (Nat.le_of_ble_eq_true rfl) (fun w0 base => ?_)
  unfold nRep at hl
  simp [Rep.row]
  intros
  refine DrawT.introP eok mix [0, 1, 2, 3, 4, 5, 6, 7] [8, 9, 10] [([true, false, false, false, false, false, false, false], [false, true, true, true, true, true, true, true]), ([false, false, true, false, true, false, true, false], [false, true, false, true, false, true, false, true]), ([false, true, false, true, false, true, false, true], [false, false, false, false, false, false, false, false])] [false, false, false, false, false, false, false, false] (by kernel_rfl) ?_
  simp
  refine ACall.pure (l02Copy_c r.sent (by omega)) (by simp) ?_
  simp [submit, Call.res]

open Classical in
noncomputable def fRepResend (r : Rep) : Call × Bool := if repOk r ∧ r.has = true then (submit r, true) else (Call.zero, false)
theorem Call.zero_n : nCall Call.zero = 0 := rfl
theorem submit_n (r : Rep) : nCall (submit r) ≤ nRep r := by
  unfold nCall submit nRep
  simp only [List.length_nil]
  have : ByteArray.size ⟨#[]⟩ = 0 := rfl
  omega
theorem fRepResend_b (r : Rep) (_ : r.fits) (h : nRep r ≤ 2 ^ 20) : nCall (fRepResend r).1 ≤ 2 ^ 40 := by
  unfold fRepResend
  split
  · have := submit_n r; simp only; omega
  · simp [Call.zero_n]
theorem implRepResend_c (r : Rep) (_ : r.fits) (hl : nRep r ≤ 2 ^ 20) : PureC Try.prog 62 [.agg r.row] (.tup [.agg (fRepResend r).1.res, .c (.v (.bool (fRepResend r).2)) 1]) := by
  refine PureC.intro' tt_ok Try.func62 (by kernel_rfl) rfl rfl rfl (Nat.le_of_ble_eq_true rfl) (fun w0 base => ?_)
  simp [Rep.row]
  intros
  refine ACall.pure (implRepOk_i r (by omega)) (by simp [Rep.row]) ?_
  by_cases c1 : repOk r
  rotate_left
  · have e : fRepResend r = (Call.zero, false) := by unfold fRepResend; rw [if_neg (fun h => c1 h.1)]
    have e2 : dc (repOk r) = false := by rw [dc_no]; exact c1
    simp [e2, e, Call.res, Call.zero]
  simp [c1]
  cases ch : r.has
  · have e : fRepResend r = (Call.zero, false) := by unfold fRepResend; rw [if_neg (fun h => by rw [ch] at h; simp at h)]
    simp [ch, e, Call.res, Call.zero]
  · have e : fRepResend r = (submit r, true) := by unfold fRepResend; rw [if_pos ⟨c1, ch⟩]
    simp [ch]
    refine ACall.pure (submitOf_c r (by omega)) (by simp [Rep.row, ch]) ?_
    simp [e, Call.res, submit]
theorem specRepResend_c (r : Rep) (_ : r.fits) (hl : nRep r ≤ 2 ^ 20) : PureC Try.prog 61 [.agg r.row] (.tup [.agg (fRepResend r).1.res, .c (.v (.bool (fRepResend r).2)) 1]) := by
  refine PureC.intro' tt_ok Try.func61 (by kernel_rfl) rfl rfl rfl (Nat.le_of_ble_eq_true rfl) (fun w0 base => ?_)
  simp [Rep.row]
  intros
  refine ACall.pure (specRepOk_i r (by omega)) (by simp [Rep.row]) ?_
  by_cases c1 : repOk r
  rotate_left
  · have e : fRepResend r = (Call.zero, false) := by unfold fRepResend; rw [if_neg (fun h => c1 h.1)]
    have e2 : dc (repOk r) = false := by rw [dc_no]; exact c1
    simp [e2, e, Call.res, Call.zero]
  simp [c1]
  cases ch : r.has
  · have e : fRepResend r = (Call.zero, false) := by unfold fRepResend; rw [if_neg (fun h => by rw [ch] at h; simp at h)]
    simp [ch, e, Call.res, Call.zero]
  · have e : fRepResend r = (submit r, true) := by unfold fRepResend; rw [if_pos ⟨c1, ch⟩]
    simp [ch]
    refine ACall.pure (l17Call_c r (by omega)) (by simp [Rep.row, ch]) ?_
    simp [e, Call.res, submit]
end Go.Proofs.Ythcdlllclbdbmaa
