import Derived.Test.YtljhopjmmcmioaaFCompose2
import Derived.Test.YtljhopjmmcmioaaFRepSend
namespace Go.Proofs.Ytljhopjmmcmioaa
open Go.AM
set_option maxRecDepth 20000

theorem opOk_n {o : List Part} (h : opOk o) : nL nPart o ≤ 2 ^ 18 := by
  have := nL_parts h.1.1
  have := h.1.2
  omega
theorem fCompose_n (a b : List Part) : nL nPart (fCompose a b).1 ≤ 2 ^ 18 := by
  unfold fCompose
  split
  · split
    · rename_i h; exact opOk_n h
    · simp [nL, sumN]
  · simp [nL, sumN]
def editRep (r : Rep) (b : List Part) : Rep := ⟨r.client, r.seq, r.rev, r.text, r.has, r.sent, b⟩
open Classical in
noncomputable def fRepEdit (r : Rep) (o : List Part) : Rep × Bool := if repOk r ∧ (fCompose r.buf o).2 = true then repOr (editRep r (fCompose r.buf o).1) else (Rep.zero, false)
theorem fRepEdit_no {r : Rep} {o : List Part} (h : ¬ (repOk r ∧ (fCompose r.buf o).2 = true)) : fRepEdit r o = (Rep.zero, false) := by unfold fRepEdit; rw [if_neg h]
theorem fRepEdit_yes {r : Rep} {o : List Part} (h : repOk r ∧ (fCompose r.buf o).2 = true) : fRepEdit r o = repOr (editRep r (fCompose r.buf o).1) := by unfold fRepEdit; rw [if_pos h]
theorem repOr_yes {r : Rep} (h : repOk r) : repOr r = (r, true) := by unfold repOr; rw [if_pos h]
theorem repOr_no {r : Rep} (h : ¬ repOk r) : repOr r = (Rep.zero, false) := by unfold repOr; rw [if_neg h]
theorem repOr_n {r : Rep} {B : Nat} (h : nRep r ≤ B) : nRep (repOr r).1 ≤ B := by
  unfold repOr
  split
  · exact h
  · simp [Rep.zero_n]
theorem editRep_n {r : Rep} {b : List Part} : nRep (editRep r b) ≤ nRep r + nL nPart b := by unfold nRep editRep; simp only; omega
theorem fRepEdit_n (r : Rep) (o : List Part) : nRep (fRepEdit r o).1 ≤ nRep r + 2 ^ 18 := by
  unfold fRepEdit
  split
  · have := fCompose_n r.buf o
    have := @editRep_n r (fCompose r.buf o).1
    exact repOr_n (by omega)
  · simp [Rep.zero_n]
theorem fRepEdit_b (r : Rep) (_ : r.fits) (h : nRep r ≤ 2 ^ 20) (o : List Part) (_ : o.length ≤ 9223372036854775807 ∧ ∀ y ∈ o, y.fits) (_ : nL nPart o ≤ 2 ^ 20) : nRep (fRepEdit r o).1 ≤ 2 ^ 40 := by
  have := fRepEdit_n r o
  omega

theorem implRepEdit_i (r : Rep) (hl : nRep r ≤ 2 ^ 28) (o : List Part) (ho : nL nPart o ≤ 2 ^ 40) : PureC Try.prog 29 [.agg r.row, .c (.s (o.map Part.row))] (.tup [.agg (fRepEdit r o).1.res, .c (.v (.bool (fRepEdit r o).2)) 1]) := by
  refine PureC.intro' tt_ok Try.func29 (by kernel_rfl) rfl rfl rfl (Nat.le_of_ble_eq_true rfl) (fun w0 base => ?_)
  have hbuf : nL nPart r.buf ≤ 2 ^ 40 := by unfold nRep at hl; omega
  simp [Rep.row]
  intros
  refine ACall.pure (implRepOk_i r (by omega)) (by simp [Rep.row]) ?_
  by_cases c1 : repOk r
  rotate_left
  · have e := fRepEdit_no (r := r) (o := o) (fun h => c1 h.1)
    have e2 : dc (repOk r) = false := by rw [dc_no]; exact c1
    simp [e2, e, Rep.res, Rep.zero]
  simp [c1]
  refine ACall.pure (implCompose_i r.buf o hbuf ho) (by simp) ?_
  simp
  have hn := fCompose_n r.buf o
  have hno := fRepEdit_no (r := r) (o := o)
  have hyes := fRepEdit_yes (r := r) (o := o)
  generalize fCompose r.buf o = C at hn hno hyes ⊢
  obtain ⟨cb, cok⟩ := C
  simp only at hn hno hyes ⊢
  intro H1
  cases cok with
  | false =>
    have e := hno (by simp)
    simp [e, Rep.res, Rep.zero]
  | true =>
    have e := hyes ⟨c1, rfl⟩
    simp
    refine ACall.pure (copyRep_c r (by omega)) (by simp [Rep.row]) ?_
    simp [Rep.res]
    intros
    refine ACall.inline tt_ok Try.func89 (by kernel_rfl) rfl rfl rfl (Nat.le_of_ble_eq_true rfl) 20000 (fun w1 F => ?_)
    simp
    intros
    have hn2 := @editRep_n r cb
    refine ACall.pure (implRepOk_i (editRep r cb) (by omega)) (by simp [Rep.row, editRep]) ?_
    by_cases h : repOk (editRep r cb)
    · rw [repOr_yes h] at e
      simp [h, e]
      simp [editRep]
    · rw [repOr_no h] at e
      have e2 : dc (repOk (editRep r cb)) = false := by rw [dc_no]; exact h
      simp [e2, e, Rep.zero]
theorem specRepEdit_i (r : Rep) (hl : nRep r ≤ 2 ^ 28) (o : List Part) (ho : nL nPart o ≤ 2 ^ 40) : PureC Try.prog 27 [.agg r.row, .c (.s (o.map Part.row))] (.tup [.agg (fRepEdit r o).1.res, .c (.v (.bool (fRepEdit r o).2)) 1]) := by
  refine PureC.intro' tt_ok Try.func27 (by kernel_rfl) rfl rfl rfl (Nat.le_of_ble_eq_true rfl) (fun w0 base => ?_)
  have hbuf : nL nPart r.buf ≤ 2 ^ 40 := by unfold nRep at hl; omega
  simp [Rep.row]
  intros
  refine ACall.pure (specCompose_i r.buf o hbuf ho) (by simp) ?_
  simp
  have hn := fCompose_n r.buf o
  have hno := fRepEdit_no (r := r) (o := o)
  have hyes := fRepEdit_yes (r := r) (o := o)
  generalize fCompose r.buf o = C at hn hno hyes ⊢
  obtain ⟨cb, cok⟩ := C
  simp only at hn hno hyes ⊢
  intro H1
  refine ACall.pure (specRepOk_i r (by omega)) (by simp [Rep.row]) ?_
  by_cases c1 : repOk r
  rotate_left
  · have e := hno (fun h => c1 h.1)
    have e2 : dc (repOk r) = false := by rw [dc_no]; exact c1
    simp [e2, e, Rep.res, Rep.zero]
  simp [c1]
  cases cok with
  | false =>
    have e := hno (by simp)
    simp [e, Rep.res, Rep.zero]
  | true =>
    have e := hyes ⟨c1, rfl⟩
    simp
    refine ACall.pure (l17Copy_c r (by omega)) (by simp [Rep.row]) ?_
    simp [Rep.res]
    intros
    refine ACall.inline tt_ok Try.func86 (by kernel_rfl) rfl rfl rfl (Nat.le_of_ble_eq_true rfl) 20000 (fun w1 F => ?_)
    simp
    intros
    have hn2 := @editRep_n r cb
    refine ACall.pure (specRepOk_i (editRep r cb) (by omega)) (by simp [Rep.row, editRep]) ?_
    by_cases h : repOk (editRep r cb)
    · rw [repOr_yes h] at e
      simp [h, e]
      simp [editRep]
    · rw [repOr_no h] at e
      have e2 : dc (repOk (editRep r cb)) = false := by rw [dc_no]; exact h
      simp [e2, e, Rep.zero]
theorem implRepEdit_c (r : Rep) (_ : r.fits) (h : nRep r ≤ 2 ^ 20) (o : List Part) (_ : o.length ≤ 9223372036854775807 ∧ ∀ y ∈ o, y.fits) (ho : nL nPart o ≤ 2 ^ 20) : PureC Try.prog 29 [.agg r.row, .c (.s (o.map Part.row))] (.tup [.agg (fRepEdit r o).1.res, .c (.v (.bool (fRepEdit r o).2)) 1]) := implRepEdit_i r (by omega) o (by omega)
theorem specRepEdit_c (r : Rep) (_ : r.fits) (h : nRep r ≤ 2 ^ 20) (o : List Part) (_ : o.length ≤ 9223372036854775807 ∧ ∀ y ∈ o, y.fits) (ho : nL nPart o ≤ 2 ^ 20) : PureC Try.prog 27 [.agg r.row, .c (.s (o.map Part.row))] (.tup [.agg (fRepEdit r o).1.res, .c (.v (.bool (fRepEdit r o).2)) 1]) := specRepEdit_i r (by omega) o (by omega)
end Go.Proofs.Ytljhopjmmcmioaa
