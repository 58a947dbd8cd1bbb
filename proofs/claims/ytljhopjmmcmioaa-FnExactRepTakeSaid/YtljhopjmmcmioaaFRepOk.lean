import Derived.Test.YtljhopjmmcmioaaFIdle
import Derived.Test.YtljhopjmmcmioaaDRep
namespace Go.Proofs.Ytljhopjmmcmioaa
open Go.AM
set_option maxRecDepth 20000

def headRev (d : Doc) : Int := Go.IntKind.i64.wrap (d.fr + d.list.length)
def repOk (r : Rep) : Prop := (1 ≤ r.client ∧ r.client ≤ 8) ∧ (0 ≤ r.seq ∧ r.seq ≤ 999999999) ∧ (0 ≤ r.rev ∧ r.rev ≤ 999999999) ∧ textOk r.text ∧ isNorm r.sent ∧ isNorm r.buf ∧ opFrom r.sent = r.text.length ∧ opFrom r.buf = opTo r.sent ∧ (if r.has then r.seq ≠ 0 else idle r.sent)

theorem implRepOk_i (r : Rep) (hl : nRep r ≤ 2 ^ 40) : PureC Try.prog 66 [.agg r.row] (.one (.c (vb (repOk r)) 1)) := by
  refine PureC.intro' tt_ok Try.func66 (by kernel_rfl) rfl rfl rfl (Nat.le_of_ble_eq_true rfl) (fun w0 base => ?_)
  unfold nRep at hl
  simp [Rep.row]
  intros
  refine ACall.pure (within_c r.client 1 8) (by simp) ?_
  by_cases c1 : 1 ≤ r.client ∧ r.client ≤ 8
  rotate_left
  · have e : dc (1 ≤ r.client ∧ r.client ≤ 8) = false := by rw [dc_no]; exact c1
    have hn : dc (repOk r) = false := by rw [dc_no]; exact fun h => c1 h.1
    simp [e, hn]
  simp [c1]
  refine ACall.pure (within_c r.seq 0 999999999) (by simp) ?_
  by_cases c2 : 0 ≤ r.seq ∧ r.seq ≤ 999999999
  rotate_left
  · have e : dc (0 ≤ r.seq ∧ r.seq ≤ 999999999) = false := by rw [dc_no]; exact c2
    have hn : dc (repOk r) = false := by rw [dc_no]; exact fun h => c2 h.2.1
    simp [e, hn]
  simp [c2]
  refine ACall.pure (within_c r.rev 0 999999999) (by simp) ?_
  by_cases c3 : 0 ≤ r.rev ∧ r.rev ≤ 999999999
  rotate_left
  · have e : dc (0 ≤ r.rev ∧ r.rev ≤ 999999999) = false := by rw [dc_no]; exact c3
    have hn : dc (repOk r) = false := by rw [dc_no]; exact fun h => c3 h.2.2.1
    simp [e, hn]
  simp [c3]
  refine ACall.pure (implTextOk_c r.text (by omega)) (by simp) ?_
  by_cases c4 : textOk r.text
  rotate_left
  · have hn : dc (repOk r) = false := by rw [dc_no]; exact fun h => c4 h.2.2.2.1
    simp [c4, hn]
  simp [c4]
  refine ACall.pure (implIsNorm_c r.sent (by omega)) (by simp) ?_
  by_cases c5 : isNorm r.sent
  rotate_left
  · have hn : dc (repOk r) = false := by rw [dc_no]; exact fun h => c5 h.2.2.2.2.1
    simp [c5, hn]
  simp [c5]
  refine ACall.pure (implIsNorm_c r.buf (by omega)) (by simp) ?_
  by_cases c6 : isNorm r.buf
  rotate_left
  · have hn : dc (repOk r) = false := by rw [dc_no]; exact fun h => c6 h.2.2.2.2.2.1
    simp [c6, hn]
  simp [c6]
  refine DrawT.quiet eok mix (by kernel_rfl) ?_
  simp
  refine ⟨_, _, implOpFrom_c r.sent (by omega), by simp, ?_⟩
  by_cases c7 : opFrom r.sent = r.text.length
  rotate_left
  · have hn : dc (repOk r) = false := by rw [dc_no]; exact fun h => c7 h.2.2.2.2.2.2.1
    simp [c7, hn]
  simp [c7]
  refine ⟨_, _, implOpFrom_c r.buf (by omega), by simp, ?_⟩
  simp
  refine ⟨_, _, implOpTo_c r.sent (by omega), by simp, ?_⟩
  by_cases c8 : opFrom r.buf = opTo r.sent
  rotate_left
  · have hn : dc (repOk r) = false := by rw [dc_no]; exact fun h => c8 h.2.2.2.2.2.2.2.1
    simp [c8, hn]
  simp [c8]
  cases ch : r.has
  · have e : dc (repOk r) = dc (idle r.sent) := dc_congr ⟨fun h => by have := h.2.2.2.2.2.2.2.2; rw [ch] at this; simpa using this, fun h => ⟨c1, c2, c3, c4, c5, c6, c7, c8, by rw [ch]; simpa using h⟩⟩
    simp
    refine ACall.pure (implIdle_c r.sent (by omega)) (by simp) ?_
    simp
    exact e
  · have e : dc (repOk r) = dc (r.seq ≠ 0) := dc_congr ⟨fun h => by have := h.2.2.2.2.2.2.2.2; rw [ch] at this; simpa using this, fun h => ⟨c1, c2, c3, c4, c5, c6, c7, c8, by rw [ch]; simpa using h⟩⟩
    simp [e]
    by_cases h0 : r.seq = 0 <;> simp [h0]
theorem specRepOk_i (r : Rep) (hl : nRep r ≤ 2 ^ 40) : PureC Try.prog 59 [.agg r.row] (.one (.c (vb (repOk r)) 1)) := by
  refine PureC.intro' tt_ok Try.func59 (by kernel_rfl) rfl rfl rfl (Nat.le_of_ble_eq_true rfl) (fun w0 base => ?_)
  unfold nRep at hl
  simp [Rep.row]
  intros
  refine ACall.pure (l01In_c r.client 1 8) (by simp) ?_
  by_cases c1 : 1 ≤ r.client ∧ r.client ≤ 8
  rotate_left
  · have e : dc (1 ≤ r.client ∧ r.client ≤ 8) = false := by rw [dc_no]; exact c1
    have hn : dc (repOk r) = false := by rw [dc_no]; exact fun h => c1 h.1
    simp [e, hn]
  simp [c1]
  refine ACall.pure (l01In_c r.seq 0 999999999) (by simp) ?_
  by_cases c2 : 0 ≤ r.seq ∧ r.seq ≤ 999999999
  rotate_left
  · have e : dc (0 ≤ r.seq ∧ r.seq ≤ 999999999) = false := by rw [dc_no]; exact c2
    have hn : dc (repOk r) = false := by rw [dc_no]; exact fun h => c2 h.2.1
    simp [e, hn]
  simp [c2]
  refine ACall.pure (l01In_c r.rev 0 999999999) (by simp) ?_
  by_cases c3 : 0 ≤ r.rev ∧ r.rev ≤ 999999999
  rotate_left
  · have e : dc (0 ≤ r.rev ∧ r.rev ≤ 999999999) = false := by rw [dc_no]; exact c3
    have hn : dc (repOk r) = false := by rw [dc_no]; exact fun h => c3 h.2.2.1
    simp [e, hn]
  simp [c3]
  refine ACall.pure (specTextOk_c r.text (by omega)) (by simp) ?_
  by_cases c4 : textOk r.text
  rotate_left
  · have hn : dc (repOk r) = false := by rw [dc_no]; exact fun h => c4 h.2.2.2.1
    simp [c4, hn]
  simp [c4]
  refine ACall.pure (specIsNorm_c r.sent (by omega)) (by simp) ?_
  by_cases c5 : isNorm r.sent
  rotate_left
  · have hn : dc (repOk r) = false := by rw [dc_no]; exact fun h => c5 h.2.2.2.2.1
    simp [c5, hn]
  simp [c5]
  refine ACall.pure (specIsNorm_c r.buf (by omega)) (by simp) ?_
  by_cases c6 : isNorm r.buf
  rotate_left
  · have hn : dc (repOk r) = false := by rw [dc_no]; exact fun h => c6 h.2.2.2.2.2.1
    simp [c6, hn]
  simp [c6]
  refine DrawT.quiet eok mix (by kernel_rfl) ?_
  simp
  refine ⟨_, _, specOpFrom_c r.sent (by omega), by simp, ?_⟩
  by_cases c7 : opFrom r.sent = r.text.length
  rotate_left
  · have hn : dc (repOk r) = false := by rw [dc_no]; exact fun h => c7 h.2.2.2.2.2.2.1
    simp [c7, hn]
  simp [c7]
  refine ⟨_, _, specOpFrom_c r.buf (by omega), by simp, ?_⟩
  simp
  refine ⟨_, _, specOpTo_c r.sent (by omega), by simp, ?_⟩
  by_cases c8 : opFrom r.buf = opTo r.sent
  rotate_left
  · have hn : dc (repOk r) = false := by rw [dc_no]; exact fun h => c8 h.2.2.2.2.2.2.2.1
    simp [c8, hn]
  simp [c8]
  cases ch : r.has
  · have e : dc (repOk r) = dc (idle r.sent) := dc_congr ⟨fun h => by have := h.2.2.2.2.2.2.2.2; rw [ch] at this; simpa using this, fun h => ⟨c1, c2, c3, c4, c5, c6, c7, c8, by rw [ch]; simpa using h⟩⟩
    simp
    refine ACall.pure (specIdle_c r.sent (by omega)) (by simp) ?_
    simp
    exact e
  · have e : dc (repOk r) = dc (r.seq ≠ 0) := dc_congr ⟨fun h => by have := h.2.2.2.2.2.2.2.2; rw [ch] at this; simpa using this, fun h => ⟨c1, c2, c3, c4, c5, c6, c7, c8, by rw [ch]; simpa using h⟩⟩
    simp [e]
    by_cases h0 : r.seq = 0
    · simp [h0]
    · have : 0 < r.seq := by omega
      simp [h0, this]

def repClean (r : Rep) : Prop := repOk r ∧ r.has = false ∧ idle r.buf
theorem implRepClean_i (r : Rep) (hl : nRep r ≤ 2 ^ 40) : PureC Try.prog 80 [.agg r.row] (.one (.c (vb (repClean r)) 1)) := by
  refine PureC.intro' tt_ok Try.func80 (by kernel_rfl) rfl rfl rfl (Nat.le_of_ble_eq_true rfl) (fun w0 base => ?_)
  simp [Rep.row]
  intros
  refine ACall.pure (implRepOk_i r hl) (by simp [Rep.row]) ?_
  unfold nRep at hl
  by_cases c1 : repOk r
  rotate_left
  · simp [c1, repClean]
  simp [c1]
  cases ch : r.has
  · simp
    refine ACall.pure (implIdle_c r.buf (by omega)) (by simp) ?_
    simp [repClean, c1, ch]
  · simp [ch, repClean]
theorem specRepClean_i (r : Rep) (hl : nRep r ≤ 2 ^ 40) : PureC Try.prog 76 [.agg r.row] (.one (.c (vb (repClean r)) 1)) := by
  refine PureC.intro' tt_ok Try.func76 (by kernel_rfl) rfl rfl rfl (Nat.le_of_ble_eq_true rfl) (fun w0 base => ?_)
  simp [Rep.row]
  intros
  refine ACall.pure (specRepOk_i r hl) (by simp [Rep.row]) ?_
  unfold nRep at hl
  by_cases c1 : repOk r
  rotate_left
  · simp [c1, repClean]
  simp [c1]
  cases ch : r.has
  · simp
    refine ACall.pure (specIdle_c r.buf (by omega)) (by simp) ?_
    simp [repClean, c1, ch]
  · simp [ch, repClean]

noncomputable def fRepOk (r : Rep) : Bool := dc (repOk r)
noncomputable def fRepClean (r : Rep) : Bool := dc (repClean r)
theorem fRepOk_b (r : Rep) (_ : r.fits) (_ : nRep r ≤ 2 ^ 20) : True := trivial
theorem fRepClean_b (r : Rep) (_ : r.fits) (_ : nRep r ≤ 2 ^ 20) : True := trivial
theorem specRepOk_c (r : Rep) (_ : r.fits) (h : nRep r ≤ 2 ^ 20) : PureC Try.prog 59 [.agg r.row] (.one (.c (.v (.bool (fRepOk r))) 1)) := specRepOk_i r (by omega)
theorem implRepOk_c (r : Rep) (_ : r.fits) (h : nRep r ≤ 2 ^ 20) : PureC Try.prog 66 [.agg r.row] (.one (.c (.v (.bool (fRepOk r))) 1)) := implRepOk_i r (by omega)
theorem specRepClean_c (r : Rep) (_ : r.fits) (h : nRep r ≤ 2 ^ 20) : PureC Try.prog 76 [.agg r.row] (.one (.c (.v (.bool (fRepClean r))) 1)) := specRepClean_i r (by omega)
theorem implRepClean_c (r : Rep) (_ : r.fits) (h : nRep r ≤ 2 ^ 20) : PureC Try.prog 80 [.agg r.row] (.one (.c (.v (.bool (fRepClean r))) 1)) := implRepClean_i r (by omega)
end Go.Proofs.Ytljhopjmmcmioaa
