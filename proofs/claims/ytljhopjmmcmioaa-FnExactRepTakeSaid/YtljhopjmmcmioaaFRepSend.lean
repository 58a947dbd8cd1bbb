import Derived.Test.YtljhopjmmcmioaaFDocP
import Derived.Test.YtljhopjmmcmioaaFRepResend
import Derived.Test.YtljhopjmmcmioaaDRep
namespace Go.Proofs.Ytljhopjmmcmioaa
open Go.AM
set_option maxRecDepth 20000

theorem copyRep_c (r : Rep) (hl : nRep r ≤ 2 ^ 30) : PureC Try.prog 68 [.agg r.row] (.one (.agg r.res)) := by
  refine PureC.intro' tt_ok Try.func68 (by kernel_rfl) rfl rfl rfl (Nat.le_of_ble_eq_true rfl) (fun w0 base => ?_)
  unfold nRep at hl
  simp [Rep.row]
  intros
  refine ACall.pure (copyInts_c r.text (by omega)) (by simp) ?_
  simp
  intros
  refine ACall.pure (copyOp_c r.sent (by omega)) (by simp) ?_
  simp
  intros
  refine ACall.pure (copyOp_c r.buf (by omega)) (by simp) ?_
  simp [Rep.res]
theorem l17Copy_c (r : Rep) (hl : nRep r ≤ 2 ^ 30) : PureC Try.prog 61 [.agg r.row] (.one (.agg r.res)) := by
  refine PureC.intro' tt_ok Try.func61 (by kernel_rfl) rfl rfl rfl (Nat.le_of_ble_eq_true rfl) (fun w0 base => ?_)
  unfold nRep at hl
  simp [Rep.row]
  intros
  refine ⟨by omega, fun H1 => ?_⟩
  refine ACall.pure (l02Copy_c r.sent (by omega)) (by simp) ?_
  simp
  intros
  refine ACall.pure (l02Copy_c r.buf (by omega)) (by simp) ?_
  simp [Rep.res]

theorem sentRep_n (r : Rep) : nRep (sentRep r) ≤ nRep r + 1 := by
  have := keeping_n (opTo r.buf)
  unfold nRep sentRep
  simp only
  omega
theorem fRepSend_no {r : Rep} (h : ¬ (repOk r ∧ r.has = false ∧ ¬ idle r.buf ∧ r.seq ≠ 999999999)) : fRepSend r = (Rep.zero, Call.zero, false) := by unfold fRepSend; rw [if_neg h]; rfl
theorem fRepSend_yes {r : Rep} (h : repOk r ∧ r.has = false ∧ ¬ idle r.buf ∧ r.seq ≠ 999999999) : fRepSend r = (sentRep r, submit (sentRep r), true) := by unfold fRepSend; rw [if_pos h]; rfl
theorem fRepSend_b (r : Rep) (_ : r.fits) (h : nRep r ≤ 2 ^ 20) : nRep (fRepSend r).1 ≤ 2 ^ 40 ∧ nCall (fRepSend r).2.1 ≤ 2 ^ 40 := by
  by_cases c : repOk r ∧ r.has = false ∧ ¬ idle r.buf ∧ r.seq ≠ 999999999
  · rw [fRepSend_yes c]
    have h1 := sentRep_n r
    have h2 := submit_n (sentRep r)
    refine ⟨by simp only; omega, by simp only; omega⟩
  · rw [fRepSend_no c]
    simp [Rep.zero_n, Call.zero_n]
theorem implRepSend_c (r : Rep) (_ : r.fits) (hl : nRep r ≤ 2 ^ 20) : PureC Try.prog 14 [.agg r.row] (.tup [.agg (fRepSend r).1.res, .agg (fRepSend r).2.1.res, .c (.v (.bool (fRepSend r).2.2)) 1]) := by
  refine PureC.intro' tt_ok Try.func14 (by kernel_rfl) rfl rfl rfl (Nat.le_of_ble_eq_true rfl) (fun w0 base => ?_)
  have hbuf : nL nPart r.buf ≤ 2 ^ 20 := by unfold nRep at hl; omega
  simp [Rep.row]
  intros
  refine ACall.pure (implRepOk_i r (by omega)) (by simp [Rep.row]) ?_
  by_cases c1 : repOk r
  rotate_left
  · have e := fRepSend_no (r := r) (fun h => c1 h.1)
    have e2 : dc (repOk r) = false := by rw [dc_no]; exact c1
    simp [e2, e, Rep.res, Rep.zero, Call.res, Call.zero]
  simp [c1]
  by_cases ch : r.has = false
  rotate_left
  · have e := fRepSend_no (r := r) (fun h => ch h.2.1)
    have ch2 : r.has = true := by simpa using ch
    simp [ch2, e, Rep.res, Rep.zero, Call.res, Call.zero]
  simp [ch]
  refine ACall.pure (implIdle_c r.buf (by omega)) (by simp) ?_
  by_cases ci : idle r.buf
  · have e := fRepSend_no (r := r) (fun h => h.2.2.1 ci)
    simp [ci, e, Rep.res, Rep.zero, Call.res, Call.zero]
  have ci2 : dc (idle r.buf) = false := by rw [dc_no]; exact ci
  by_cases cs : r.seq = 999999999
  · have e := fRepSend_no (r := r) (fun h => h.2.2.2 cs)
    simp [ci2, cs, e, Rep.res, Rep.zero, Call.res, Call.zero]
  have e := fRepSend_yes (r := r) ⟨c1, ch, ci, cs⟩
  have hs := c1.2.1
  have ew : Go.IntKind.i64.wrap (r.seq + 1) = r.seq + 1 := Go.IntWalk.i64_in _ (by omega)
  simp [ci2, cs]
  refine ACall.pure (copyRep_c r (by omega)) (by simp [Rep.row, ch]) ?_
  simp [Rep.res, ew]
  intros
  refine ACall.pure (implOpTo_c r.buf (by omega)) (by simp) ?_
  simp
  refine ACall.pure (implKeeping_c (opTo r.buf)) (by simp) ?_
  simp
  intros
  refine DrawT.introP eok mix [0, 1, 5] [2, 3, 4] [([false, true, false], [true, false, true]), ([false, false, true], [true, false, false]), ([false, false, false], [true, false, false])] [true, false, false] (by kernel_rfl) ?_
  simp
  have hn := sentRep_n r
  refine ACall.pure (submitOf_c (sentRep r) (by omega)) (by simp [Rep.row, sentRep, ch]) ?_
  simp [e, sentRep, Call.res, submit]
theorem specRepSend_c (r : Rep) (_ : r.fits) (hl : nRep r ≤ 2 ^ 20) : PureC Try.prog 12 [.agg r.row] (.tup [.agg (fRepSend r).1.res, .agg (fRepSend r).2.1.res, .c (.v (.bool (fRepSend r).2.2)) 1]) := by
  refine PureC.intro' tt_ok Try.func12 (by kernel_rfl) rfl rfl rfl (Nat.le_of_ble_eq_true rfl) (fun w0 base => ?_)
  have hbuf : nL nPart r.buf ≤ 2 ^ 20 := by unfold nRep at hl; omega
  simp [Rep.row]
  intros
  refine ACall.pure (specRepOk_i r (by omega)) (by simp [Rep.row]) ?_
  by_cases c1 : repOk r
  rotate_left
  · have e := fRepSend_no (r := r) (fun h => c1 h.1)
    have e2 : dc (repOk r) = false := by rw [dc_no]; exact c1
    simp [e2, e, Rep.res, Rep.zero, Call.res, Call.zero]
  simp [c1]
  by_cases ch : r.has = false
  rotate_left
  · have e := fRepSend_no (r := r) (fun h => ch h.2.1)
    have ch2 : r.has = true := by simpa using ch
    simp [ch2, e, Rep.res, Rep.zero, Call.res, Call.zero]
  simp [ch]
  refine ACall.pure (specIdle_c r.buf (by omega)) (by simp) ?_
  by_cases ci : idle r.buf
  · have e := fRepSend_no (r := r) (fun h => h.2.2.1 ci)
    simp [ci, e, Rep.res, Rep.zero, Call.res, Call.zero]
  have ci2 : dc (idle r.buf) = false := by rw [dc_no]; exact ci
  by_cases cs : r.seq = 999999999
  · have e := fRepSend_no (r := r) (fun h => h.2.2.2 cs)
    simp [ci2, cs, e, Rep.res, Rep.zero, Call.res, Call.zero]
  have e := fRepSend_yes (r := r) ⟨c1, ch, ci, cs⟩
  have hs := c1.2.1
  have ew : Go.IntKind.i64.wrap (r.seq + 1) = r.seq + 1 := Go.IntWalk.i64_in _ (by omega)
  simp [ci2, cs]
  refine ACall.pure (l17Copy_c r (by omega)) (by simp [Rep.row, ch]) ?_
  simp [Rep.res, ew]
  intros
  refine ACall.pure (l02Copy_c r.buf (by omega)) (by simp) ?_
  simp
  intros
  refine ACall.pure (specOpTo_c r.buf (by omega)) (by simp) ?_
  simp
  refine ACall.pure (specKeeping_c (opTo r.buf)) (by simp) ?_
  simp
  intros
  refine DrawT.introP eok mix [0, 1, 5] [2, 3, 4] [([false, true, false], [true, false, true]), ([false, false, true], [true, false, false]), ([false, false, false], [true, false, false])] [true, false, false] (by kernel_rfl) ?_
  simp
  have hn := sentRep_n r
  refine ACall.pure (l17Call_c (sentRep r) (by omega)) (by simp [Rep.row, sentRep, ch]) ?_
  simp [e, sentRep, Call.res, submit]
end Go.Proofs.Ytljhopjmmcmioaa
