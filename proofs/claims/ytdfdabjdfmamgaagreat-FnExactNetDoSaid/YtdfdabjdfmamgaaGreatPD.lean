import Derived.Test.YtdfdabjdfmamgaaGreatPB
import Derived.Test.YtdfdabjdfmamgaaGreatNA
import Derived.Test.YtdfdabjdfmamgaaGreatPC
namespace Go.Proofs.YtdfdabjdfmamgaaGreat
open Go.AM
set_option maxRecDepth 20000

def headRev (d : Doc) : Int := Go.IntKind.i64.wrap (d.fr + d.list.length)
def repOk (r : Rep) : Prop := (1 ≤ r.client ∧ r.client ≤ 8) ∧ (0 ≤ r.seq ∧ r.seq ≤ 999999999) ∧ (0 ≤ r.rev ∧ r.rev ≤ 999999999) ∧ textOk r.text ∧ isNorm r.sent ∧ isNorm r.buf ∧ opFrom r.sent = r.text.length ∧ opFrom r.buf = opTo r.sent ∧ (if r.has then r.seq ≠ 0 else idle r.sent)

theorem implRepOk_i (r : Rep) (hl : nRep r ≤ 2 ^ 40) : PureC Tryz.prog 175 [.agg r.row] (.one (.c (vb (repOk r)) 1)) := by
  refine PureC.intro' tt_ok Tryz.func175 (by kernel_rfl) rfl rfl rfl (Nat.le_of_ble_eq_true rfl) (fun w0 base => ?_)
  unfold nRep at hl
  simp [Rep.row]
  intros
  refine ACall.pure (within_c r.client 1 8) (by simp) ?_
  by_cases c1 : 1 ≤ r.client ∧ r.client ≤ 8
  rotate_left
  · have e : dc (1 ≤ r.client ∧ r.client ≤ 8) = false := by rw [dc_no]; exact c1
    have hn : dc (repOk r) = false := by rw [dc_no]; exact fun h => c1 h.1
    simp [e, hn]
  simp [c1]
  refine ACall.pure (within_c r.seq 0 999999999) (by simp) ?_
  by_cases c2 : 0 ≤ r.seq ∧ r.seq ≤ 999999999
  rotate_left
  · have e : dc (0 ≤ r.seq ∧ r.seq ≤ 999999999) = false := by rw [dc_no]; exact c2
    have hn : dc (repOk r) = false := by rw [dc_no]; exact fun h => c2 h.2.1
    simp [e, hn]
  simp [c2]
  refine ACall.pure (within_c r.rev 0 999999999) (by simp) ?_
  by_cases c3 : 0 ≤ r.rev ∧ r.rev ≤ 999999999
  rotate_left
  · have e : dc (0 ≤ r.rev ∧ r.rev ≤ 999999999) = false := by rw [dc_no]; exact c3
    have hn : dc (repOk r) = false := by rw [dc_no]; exact fun h => c3 h.2.2.1
    simp [e, hn]
  simp [c3]
  refine ACall.pure (implTextOk_c r.text (by omega)) (by simp) ?_
  by_cases c4 : textOk r.text
  rotate_left
  · have hn : dc (repOk r) = false := by rw [dc_no]; exact fun h => c4 h.2.2.2.1
    simp [c4, hn]
  simp [c4]
  refine ACall.pure (implIsNorm_c r.sent (by omega)) (by simp) ?_
  by_cases c5 : isNorm r.sent
  rotate_left
  · have hn : dc (repOk r) = false := by rw [dc_no]; exact fun h => c5 h.2.2.2.2.1
    simp [c5, hn]
  simp [c5]
  refine ACall.pure (implIsNorm_c r.buf (by omega)) (by simp) ?_
  by_cases c6 : isNorm r.buf
  rotate_left
  · have hn : dc (repOk r) = false := by rw [dc_no]; exact fun h => c6 h.2.2.2.2.2.1
    simp [c6, hn]
  simp [c6]
  refine DrawT.quiet eok mix (by kernel_rfl) ?_
  simp
  refine ⟨_, _, implOpFrom_c r.sent (by omega), by simp, ?_⟩
  by_cases c7 : opFrom r.sent = r.text.length
  rotate_left
  · have hn : dc (repOk r) = false := by rw [dc_no]; exact fun h => c7 h.2.2.2.2.2.2.1
    simp [c7, hn]
  simp [c7]
  refine ⟨_, _, implOpFrom_c r.buf (by omega), by simp, ?_⟩
  simp
  refine ⟨_, _, implOpTo_c r.sent (by omega), by simp, ?_⟩
  by_cases c8 : opFrom r.buf = opTo r.sent
  rotate_left
  · have hn : dc (repOk r) = false := by rw [dc_no]; exact fun h => c8 h.2.2.2.2.2.2.2.1
    simp [c8, hn]
  simp [c8]
  cases ch : r.has
  · have e : dc (repOk r) = dc (idle r.sent) := dc_congr ⟨fun h => by have := h.2.2.2.2.2.2.2.2; rw [ch] at this; simpa using this, fun h => ⟨c1, c2, c3, c4, c5, c6, c7, c8, by rw [ch]; simpa using h⟩⟩
    simp
    refine ACall.pure (implIdle_c r.sent (by omega)) (by simp) ?_
    simp
    exact e
  · have e : dc (repOk r) = dc (r.seq ≠ 0) := dc_congr ⟨fun h => by have := h.2.2.2.2.2.2.2.2; rw [ch] at this; simpa using this, fun h => ⟨c1, c2, c3, c4, c5, c6, c7, c8, by rw [ch]; simpa using h⟩⟩
    simp [e]
    by_cases h0 : r.seq = 0 <;> simp [h0]
theorem specRepOk_i (r : Rep) (hl : nRep r ≤ 2 ^ 40) : PureC Tryz.prog 170 [.agg r.row] (.one (.c (vb (repOk r)) 1)) := by
  refine PureC.intro' tt_ok Tryz.func170 (by kernel_rfl) rfl rfl rfl (Nat.le_of_ble_eq_true rfl) (fun w0 base => ?_)
  unfold nRep at hl
  simp [Rep.row]
  intros
  refine ACall.pure (l01In_c r.client 1 8) (by simp) ?_
  by_cases c1 : 1 ≤ r.client ∧ r.client ≤ 8
  rotate_left
  · have e : dc (1 ≤ r.client ∧ r.client ≤ 8) = false := by rw [dc_no]; exact c1
    have hn : dc (repOk r) = false := by rw [dc_no]; exact fun h => c1 h.1
    simp [e, hn]
  simp [c1]
  refine ACall.pure (l01In_c r.seq 0 999999999) (by simp) ?_
  by_cases c2 : 0 ≤ r.seq ∧ r.seq ≤ 999999999
  rotate_left
  · have e : dc (0 ≤ r.seq ∧ r.seq ≤ 999999999) = false := by rw [dc_no]; exact c2
    have hn : dc (repOk r) = false := by rw [dc_no]; exact fun h => c2 h.2.1
    simp [e, hn]
  simp [c2]
  refine ACall.pure (l01In_c r.rev 0 999999999) (by simp) ?_
  by_cases c3 : 0 ≤ r.rev ∧ r.rev ≤ 999999999
  rotate_left
  · have e : dc (0 ≤ r.rev ∧ r.rev ≤ 999999999) = false := by rw [dc_no]; exact c3
    have hn : dc (repOk r) = false := by rw [dc_no]; exact fun h => c3 h.2.2.1
    simp [e, hn]
  simp [c3]
  refine ACall.pure (specTextOk_c r.text (by omega)) (by simp) ?_
  by_cases c4 : textOk r.text
  rotate_left
  · have hn : dc (repOk r) = false := by rw [dc_no]; exact fun h => c4 h.2.2.2.1
    simp [c4, hn]
  simp [c4]
  refine ACall.pure (specIsNorm_c r.sent (by omega)) (by simp) ?_
  by_cases c5 : isNorm r.sent
  rotate_left
  · have hn : dc (repOk r) = false := by rw [dc_no]; exact fun h => c5 h.2.2.2.2.1
    simp [c5, hn]
  simp [c5]
  refine ACall.pure (specIsNorm_c r.buf (by omega)) (by simp) ?_
  by_cases c6 : isNorm r.buf
  rotate_left
  · have hn : dc (repOk r) = false := by rw [dc_no]; exact fun h => c6 h.2.2.2.2.2.1
    simp [c6, hn]
  simp [c6]
  refine DrawT.quiet eok mix (by kernel_rfl) ?_
  simp
  refine ⟨_, _, specOpFrom_c r.sent (by omega), by simp, ?_⟩
  by_cases c7 : opFrom r.sent = r.text.length
  rotate_left
  · have hn : dc (repOk r) = false := by rw [dc_no]; exact fun h => c7 h.2.2.2.2.2.2.1
    simp [c7, hn]
  simp [c7]
  refine ⟨_, _, specOpFrom_c r.buf (by omega), by simp, ?_⟩
  simp
  refine ⟨_, _, specOpTo_c r.sent (by omega), by simp, ?_⟩
  by_cases c8 : opFrom r.buf = opTo r.sent
  rotate_left
  · have hn : dc (repOk r) = false := by rw [dc_no]; exact fun h => c8 h.2.2.2.2.2.2.2.1
    simp [c8, hn]
  simp [c8]
  cases ch : r.has
  · have e : dc (repOk r) = dc (idle r.sent) := dc_congr ⟨fun h => by have := h.2.2.2.2.2.2.2.2; rw [ch] at this; simpa using this, fun h => ⟨c1, c2, c3, c4, c5, c6, c7, c8, by rw [ch]; simpa using h⟩⟩
    simp
    refine ACall.pure (specIdle_c r.sent (by omega)) (by simp) ?_
    simp
    exact e
  · have e : dc (repOk r) = dc (r.seq ≠ 0) := dc_congr ⟨fun h => by have := h.2.2.2.2.2.2.2.2; rw [ch] at this; simpa using this, fun h => ⟨c1, c2, c3, c4, c5, c6, c7, c8, by rw [ch]; simpa using h⟩⟩
    simp [e]
    by_cases h0 : r.seq = 0
    · simp [h0]
    · have : 0 < r.seq := by omega
      simp [h0, this]

def repClean (r : Rep) : Prop := repOk r ∧ r.has = false ∧ idle r.buf
theorem implRepClean_i (r : Rep) (hl : nRep r ≤ 2 ^ 40) : PureC Tryz.prog 252 [.agg r.row] (.one (.c (vb (repClean r)) 1)) := by
  refine PureC.intro' tt_ok Tryz.func252 (by kernel_rfl) rfl rfl rfl (Nat.le_of_ble_eq_true rfl) (fun w0 base => ?_)
  simp [Rep.row]
  intros
  refine ACall.pure (implRepOk_i r hl) (by simp [Rep.row]) ?_
  unfold nRep at hl
  by_cases c1 : repOk r
  rotate_left
  · simp [c1, repClean]
  simp [c1]
  cases ch : r.has
  · simp
    refine ACall.pure (implIdle_c r.buf (by omega)) (by simp) ?_
    simp [repClean, c1, ch]
  · simp [ch, repClean]
theorem specRepClean_i (r : Rep) (hl : nRep r ≤ 2 ^ 40) : PureC Tryz.prog 251 [.agg r.row] (.one (.c (vb (repClean r)) 1)) := by
  refine PureC.intro' tt_ok Tryz.func251 (by kernel_rfl) rfl rfl rfl (Nat.le_of_ble_eq_true rfl) (fun w0 base => ?_)
  simp [Rep.row]
  intros
  refine ACall.pure (specRepOk_i r hl) (by simp [Rep.row]) ?_
  unfold nRep at hl
  by_cases c1 : repOk r
  rotate_left
  · simp [c1, repClean]
  simp [c1]
  cases ch : r.has
  · simp
    refine ACall.pure (specIdle_c r.buf (by omega)) (by simp) ?_
    simp [repClean, c1, ch]
  · simp [ch, repClean]

noncomputable def fRepOk (r : Rep) : Bool := dc (repOk r)
noncomputable def fRepClean (r : Rep) : Bool := dc (repClean r)
theorem fRepOk_b (r : Rep) (_ : r.fits) (_ : nRep r ≤ 2 ^ 20) : True := trivial
theorem fRepClean_b (r : Rep) (_ : r.fits) (_ : nRep r ≤ 2 ^ 20) : True := trivial
theorem specRepOk_c (r : Rep) (_ : r.fits) (h : nRep r ≤ 2 ^ 20) : PureC Tryz.prog 170 [.agg r.row] (.one (.c (.v (.bool (fRepOk r))) 1)) := specRepOk_i r (by omega)
theorem implRepOk_c (r : Rep) (_ : r.fits) (h : nRep r ≤ 2 ^ 20) : PureC Tryz.prog 175 [.agg r.row] (.one (.c (.v (.bool (fRepOk r))) 1)) := implRepOk_i r (by omega)
theorem specRepClean_c (r : Rep) (_ : r.fits) (h : nRep r ≤ 2 ^ 20) : PureC Tryz.prog 251 [.agg r.row] (.one (.c (.v (.bool (fRepClean r))) 1)) := specRepClean_i r (by omega)
theorem implRepClean_c (r : Rep) (_ : r.fits) (h : nRep r ≤ 2 ^ 20) : PureC Tryz.prog 252 [.agg r.row] (.one (.c (.v (.bool (fRepClean r))) 1)) := implRepClean_i r (by omega)
end Go.Proofs.YtdfdabjdfmamgaaGreat

namespace Go.Proofs.YtdfdabjdfmamgaaGreat
open Go.AM
set_option maxRecDepth 20000

theorem copyInts_c (l : List Int) (hl : l.length ≤ 2 ^ 40) : PureC Tryz.prog 226 [.c (.s (l.map intR))] (.one (.c (.s (l.map intR)) 1)) := by
  refine PureC.intro' tt_ok Tryz.func226 (by kernel_rfl) rfl rfl rfl (Nat.le_of_ble_eq_true rfl) (fun w0 base => ?_)
  simp
  omega

def Rep.zero : Rep := ⟨0, 0, 0, [], false, [], []⟩
noncomputable def repNew0 (c s v : Int) (t : List Int) : Rep := ⟨c, s, v, t, false, keeping t.length, keeping t.length⟩
open Classical in
noncomputable def repOr (r : Rep) : Rep × Bool := if repOk r then (r, true) else (Rep.zero, false)
noncomputable def fRepNew (c s v : Int) (t : List Int) : Rep × Bool := repOr (repNew0 c s v t)

theorem keeping_n (n : Int) : nL nPart (keeping n) ≤ 1 := by
  unfold keeping
  split <;> simp [nL, sumN, nPart]
theorem repNew0_n (c s v : Int) (t : List Int) : nRep (repNew0 c s v t) ≤ t.length + 2 := by
  have h := keeping_n t.length
  unfold nRep repNew0
  simp only
  omega
theorem Rep.zero_n : nRep Rep.zero = 0 := rfl

theorem fRepNew_b (a0 : Int) (_ : i64r a0) (a1 : Int) (_ : i64r a1) (a2 : Int) (_ : i64r a2) (a3 : List Int) (_ : a3.length ≤ 9223372036854775807 ∧ ∀ n ∈ a3, i64r n) (n3 : a3.length ≤ 2 ^ 20) : nRep (fRepNew a0 a1 a2 a3).1 ≤ 2 ^ 40 := by
  unfold fRepNew repOr
  split
  · have := repNew0_n a0 a1 a2 a3
    simp only; omega
  · simp [Rep.zero_n]

theorem implRepNew_i (a0 a1 a2 : Int) (a3 : List Int) (n3 : a3.length ≤ 2 ^ 20) :
    PureC Tryz.prog 156 [.c (vi a0), .c (vi a1), .c (vi a2), .c (.s (a3.map intR))] (.tup [.agg (fRepNew a0 a1 a2 a3).1.res, .c (.v (.bool (fRepNew a0 a1 a2 a3).2)) 1]) := by
  refine PureC.intro' tt_ok Tryz.func156 (by kernel_rfl) rfl rfl rfl (Nat.le_of_ble_eq_true rfl) (fun w0 base => ?_)
  simp
  intro b8
  refine ACall.pure (copyInts_c a3 (by omega)) (by simp) ?_
  simp
  intro H1
  refine ACall.pure (implKeeping_c a3.length) (by simp) ?_
  simp
  intro H2
  refine ACall.pure (implKeeping_c a3.length) (by simp) ?_
  simp
  intro H3
  refine ACall.inline tt_ok Tryz.func242 (by kernel_rfl) rfl rfl rfl (Nat.le_of_ble_eq_true rfl) 20000 (fun w1 F => ?_)
  simp
  intros
  have hn := repNew0_n a0 a1 a2 a3
  refine ACall.pure (implRepOk_i (repNew0 a0 a1 a2 a3) (by omega)) (by simp [Rep.row, repNew0]) ?_
  by_cases h : repOk (repNew0 a0 a1 a2 a3)
  · have e : fRepNew a0 a1 a2 a3 = (repNew0 a0 a1 a2 a3, true) := by unfold fRepNew repOr; rw [if_pos h]
    simp [h, e, Rep.res]
    simp [repNew0]
  · have e : fRepNew a0 a1 a2 a3 = (Rep.zero, false) := by unfold fRepNew repOr; rw [if_neg h]
    have e2 : dc (repOk (repNew0 a0 a1 a2 a3)) = false := by rw [dc_no]; exact h
    simp [e2, e, Rep.res, Rep.zero]

theorem specRepNew_i (a0 a1 a2 : Int) (a3 : List Int) (n3 : a3.length ≤ 2 ^ 20) :
    PureC Tryz.prog 147 [.c (vi a0), .c (vi a1), .c (vi a2), .c (.s (a3.map intR))] (.tup [.agg (fRepNew a0 a1 a2 a3).1.res, .c (.v (.bool (fRepNew a0 a1 a2 a3).2)) 1]) := by
  refine PureC.intro' tt_ok Tryz.func147 (by kernel_rfl) rfl rfl rfl (Nat.le_of_ble_eq_true rfl) (fun w0 base => ?_)
  simp
  intro b8 b9
  refine ⟨by omega, fun H1 => ?_⟩
  refine ACall.pure (specKeeping_c a3.length) (by simp) ?_
  simp
  intro H2
  refine ACall.pure (specKeeping_c a3.length) (by simp) ?_
  simp
  intro H3
  refine ACall.inline tt_ok Tryz.func232 (by kernel_rfl) rfl rfl rfl (Nat.le_of_ble_eq_true rfl) 20000 (fun w1 F => ?_)
  simp
  intros
  have hn := repNew0_n a0 a1 a2 a3
  refine ACall.pure (specRepOk_i (repNew0 a0 a1 a2 a3) (by omega)) (by simp [Rep.row, repNew0]) ?_
  by_cases h : repOk (repNew0 a0 a1 a2 a3)
  · have e : fRepNew a0 a1 a2 a3 = (repNew0 a0 a1 a2 a3, true) := by unfold fRepNew repOr; rw [if_pos h]
    simp [h, e, Rep.res]
    simp [repNew0]
  · have e : fRepNew a0 a1 a2 a3 = (Rep.zero, false) := by unfold fRepNew repOr; rw [if_neg h]
    have e2 : dc (repOk (repNew0 a0 a1 a2 a3)) = false := by rw [dc_no]; exact h
    simp [e2, e, Rep.res, Rep.zero]
theorem implRepNew_c (a0 : Int) (_ : i64r a0) (a1 : Int) (_ : i64r a1) (a2 : Int) (_ : i64r a2) (a3 : List Int) (_ : a3.length ≤ 9223372036854775807 ∧ ∀ n ∈ a3, i64r n) (n3 : a3.length ≤ 2 ^ 20) : PureC Tryz.prog 156 [.c (vi a0), .c (vi a1), .c (vi a2), .c (.s (a3.map intR))] (.tup [.agg (fRepNew a0 a1 a2 a3).1.res, .c (.v (.bool (fRepNew a0 a1 a2 a3).2)) 1]) := implRepNew_i a0 a1 a2 a3 n3
theorem specRepNew_c (a0 : Int) (_ : i64r a0) (a1 : Int) (_ : i64r a1) (a2 : Int) (_ : i64r a2) (a3 : List Int) (_ : a3.length ≤ 9223372036854775807 ∧ ∀ n ∈ a3, i64r n) (n3 : a3.length ≤ 2 ^ 20) : PureC Tryz.prog 147 [.c (vi a0), .c (vi a1), .c (vi a2), .c (.s (a3.map intR))] (.tup [.agg (fRepNew a0 a1 a2 a3).1.res, .c (.v (.bool (fRepNew a0 a1 a2 a3).2)) 1]) := specRepNew_i a0 a1 a2 a3 n3
end Go.Proofs.YtdfdabjdfmamgaaGreat

namespace Go.Proofs.YtdfdabjdfmamgaaGreat
open Go.AM
set_option maxRecDepth 20000

theorem take_snoc {α β : Type} {f : α → β} {l : List α} {i : Nat} (h : i < l.length) : List.take i (l.map f) ++ [f l[i]] = List.take (i + 1) (l.map f) := by
  rw [List.take_add_one]; simp [h]

theorem copyOp_c (o : List Part) (hl : nL nPart o ≤ 2 ^ 30) : PureC Tryz.prog 228 [.c (.s (o.map Part.row))] (.one (.c (.s (o.map Part.row)) 3)) := by
  refine PureC.intro' tt_ok Tryz.func228 (by kernel_rfl) rfl rfl rfl (Nat.le_of_ble_eq_true rfl) (fun w0 base => ?_)
  have hle := nL_len hl
  simp
  refine LoopT.intro eok (fun x : Nat × Hd => x.1 ≤ o.length) (fun x => ⟨22, 0, [(8, .v (.int .i64 x.1)), (7, .v (.int .i64 o.length)), (6, .ro (o.map Part.row)), (3, .sl 304 x.2 3 0 x.1)], [(304, .rows x.2 3 ((o.take x.1).map Part.row) true)]⟩) (fun x => o.length - x.1) (0, none) (by simp) (by simp) (fun x hi => ?_)
  obtain ⟨i, H⟩ := x
  simp only at hi ⊢
  by_cases h : i < o.length
  · have e : Go.IntKind.i64.wrap ((i : Int) + 1) = ((i + 1 : Nat) : Int) := i64_suc (by omega)
    have hm : min i o.length = i := by omega
    have hs := nL_at hl h
    simp [h, Part.row]
    intro b5
    refine ACall.pure (copyInts_c o[i].signs (by unfold nPart at hs; omega)) (by simp) ?_
    simp [hm]
    exact ⟨by omega, fun H3 => ⟨i + 1, by omega, by omega, H3, ⟨e, rfl, rfl⟩, rfl, take_snoc (f := Part.row) h⟩⟩
  · have : i = o.length := by omega
    subst this
    simp [cut]

theorem l02Copy_c (o : List Part) (hl : nL nPart o ≤ 2 ^ 30) : PureC Tryz.prog 220 [.c (.s (o.map Part.row))] (.one (.c (.s (o.map Part.row)) 3)) := by
  refine PureC.intro' tt_ok Tryz.func220 (by kernel_rfl) rfl rfl rfl (Nat.le_of_ble_eq_true rfl) (fun w0 base => ?_)
  have hle := nL_len hl
  simp
  intro b
  refine LoopT.intro eok (fun x : Nat × Hd => x.1 ≤ o.length) (fun x => ⟨27, 0, [(9, .v (.int .i64 x.1)), (8, .v (.int .i64 o.length)), (7, .ro (o.map Part.row)), (3, .sl 96 x.2 3 0 x.1)], [(96, .rows x.2 3 ((o.take x.1).map Part.row) true)]⟩) (fun x => o.length - x.1) (0, some (b, 0, 0)) (by simp) (by simp) (fun x hi => ?_)
  obtain ⟨i, H⟩ := x
  simp only at hi ⊢
  by_cases h : i < o.length
  · have e : Go.IntKind.i64.wrap ((i : Int) + 1) = ((i + 1 : Nat) : Int) := i64_suc (by omega)
    have hm : min i o.length = i := by omega
    have hs := nL_at hl h
    unfold nPart at hs
    simp [h, Part.row]
    intro b5
    refine DrawT.introP eok mix [0, 1, 2, 3, 4, 6, 7] [5, 8, 9, 10, 11, 12] [([false, false, false, false, false, false, false], [true, true, true, true, true, true, true]), ([true, false, false, false, false, false, false], [false, true, true, true, true, true, true]), ([false, false, true, false, true, false, false], [false, true, false, true, false, true, true]), ([false, false, false, false, false, false, false], [false, true, false, true, false, true, true]), ([false, false, false, false, false, false, true], [false, true, false, true, false, true, false]), ([false, true, false, true, false, true, false], [false, false, false, false, false, false, false])] [false, false, false, false, false, false, false] (by kernel_rfl) ?_
    simp [hm]
    exact ⟨by omega, by omega, fun H3 => ⟨i + 1, by omega, by omega, H3, ⟨e, rfl, rfl⟩, rfl, take_snoc (f := Part.row) h⟩⟩
  · have : i = o.length := by omega
    subst this
    simp [cut]

def Call.zero : Call := ⟨0, ⟨#[]⟩, 0, 0, 0, [], []⟩
def submit (r : Rep) : Call := ⟨2, ⟨#[]⟩, r.client, r.seq, r.rev, r.sent, []⟩
theorem submitOf_c (r : Rep) (hl : nRep r ≤ 2 ^ 30) : PureC Tryz.prog 246 [.agg r.row] (.one (.agg (submit r).res)) := by
  refine PureC.intro' tt_ok Tryz.func246 (by kernel_rfl) rfl rfl rfl (Nat.le_of_ble_eq_true rfl) (fun w0 base => ?_)
  unfold nRep at hl
  simp [Rep.row]
  intros
  refine DrawT.introP eok mix [0, 1, 2, 3, 4, 5, 6, 7] [8, 9, 10] [([true, false, false, false, false, false, false, false], [false, true, true, true, true, true, true, true]), ([false, false, true, false, true, false, true, false], [false, true, false, true, false, true, false, true]), ([false, true, false, true, false, true, false, true], [false, false, false, false, false, false, false, false])] [false, false, false, false, false, false, false, false] (by kernel_rfl) ?_
  simp
  refine ACall.pure (copyOp_c r.sent (by omega)) (by simp) ?_
  simp [submit, Call.res]
theorem l17Call_c (r : Rep) (hl : nRep r ≤ 2 ^ 30) : PureC Tryz.prog 236 [.agg r.row] (.one (.agg (submit r).res)) := by
  refine PureC.intro' tt_ok Tryz.func236 (by kernel_rfl) rfl rfl rfl (Nat.le_of_ble_eq_true rfl) (fun w0 base => ?_)
  unfold nRep at hl
  simp [Rep.row]
  intros
  refine DrawT.introP eok mix [0, 1, 2, 3, 4, 5, 6, 7] [8, 9, 10] [([true, false, false, false, false, false, false, false], [false, true, true, true, true, true, true, true]), ([false, false, true, false, true, false, true, false], [false, true, false, true, false, true, false, true]), ([false, true, false, true, false, true, false, true], [false, false, false, false, false, false, false, false])] [false, false, false, false, false, false, false, false] (by kernel_rfl) ?_
  simp
  refine ACall.pure (l02Copy_c r.sent (by omega)) (by simp) ?_
  simp [submit, Call.res]

theorem Call.zero_n : nCall Call.zero = 0 := rfl
theorem submit_n (r : Rep) : nCall (submit r) ≤ nRep r := by
  unfold nCall submit nRep
  simp only [List.length_nil]
  have : ByteArray.size ⟨#[]⟩ = 0 := rfl
  omega
end Go.Proofs.YtdfdabjdfmamgaaGreat

namespace Go.Proofs.YtdfdabjdfmamgaaGreat
open Go.AM
set_option maxRecDepth 20000

/-- what is made of a text, from a place on -/
def apStep (t : List Int) (s : List Int × Int) (p : Part) : List Int × Int :=
  if p.kind = 1 then (s.1 ++ (t.drop s.2.toNat).take p.n.toNat, s.2 + p.n) else if p.kind = 2 then (s.1 ++ p.signs, s.2) else (s.1, s.2 + p.n)
def apRun (o : List Part) (t : List Int) : List Int × Int := o.foldl (apStep t) ([], 0)
theorem apRun_suc {o : List Part} {t : List Int} {i : Nat} (h : i < o.length) : apRun (o.take (i + 1)) t = apStep t (apRun (o.take i) t) o[i] := by
  unfold apRun
  rw [← List.take_append_getElem h, List.foldl_append]
  rfl

def fits3 (o : List Part) (t : List Int) : Prop := opOk o ∧ textOk t ∧ opFrom o = t.length
open Classical in
noncomputable def apply (o : List Part) (t : List Int) : List Int × Bool := if fits3 o t then ((apRun o t).1, true) else ([], false)

/-- how far the text has been read -/
theorem apRun_at {o : List Part} {t : List Int} (ho : ∀ p ∈ o, partOk p) : ∀ (i : Nat), i ≤ o.length → (apRun (o.take i) t).2 = sumI fK (o.take i) + sumI fD (o.take i) ∧ (apRun (o.take i) t).1.length ≤ 200 * i
  | 0, _ => by simp [apRun, sumI]
  | i + 1, hi => by
    have hlt : i < o.length := by omega
    obtain ⟨h1, h2⟩ := apRun_at ho i (by omega)
    have hb := (ho _ (List.getElem_mem hlt)).bounds
    rw [apRun_suc hlt, sumI_suc hlt, sumI_suc hlt]
    generalize apRun (o.take i) t = s at h1 h2
    obtain ⟨L, a⟩ := s
    simp only at h1 h2
    generalize sumI fK (o.take i) = x1 at h1 ⊢
    generalize sumI fD (o.take i) = x2 at h1 ⊢
    unfold apStep fK fD
    by_cases k1 : o[i].kind = 1
    · simp [k1]
      omega
    · by_cases k2 : o[i].kind = 2
      · simp [k2]; omega
      · simp [k1, k2]; omega

theorem sumI_take_le {f : Part → Int} (hf : ∀ p, partOk p → 0 ≤ f p) : ∀ {o : List Part} (_ : ∀ p ∈ o, partOk p) (i : Nat), sumI f (o.take i) ≤ sumI f o
  | [], _, i => by simp
  | p :: o, ho, 0 => by
    have h1 := hf p (ho p (List.mem_cons_self ..))
    have h2 := sumI_take_le hf (o := o) (fun q hq => ho q (List.mem_cons_of_mem _ hq)) 0
    simp only [List.take_zero, sumI] at h2 ⊢
    omega
  | p :: o, ho, i + 1 => by
    have h2 := sumI_take_le hf (o := o) (fun q hq => ho q (List.mem_cons_of_mem _ hq)) i
    simp only [List.take_succ_cons, sumI]
    omega

/-- the places lie in the text -/
theorem apRun_in {o : List Part} {t : List Int} (h : fits3 o t) {i : Nat} (hi : i < o.length) : 0 ≤ (apRun (o.take i) t).2 ∧ (o[i].kind ≠ 2 → (apRun (o.take i) t).2 + o[i].n ≤ t.length) ∧ (apRun (o.take i) t).2 ≤ t.length := by
  have ho := h.1.1.1
  have h1 := (apRun_at (t := t) ho i (by omega)).1
  have hf : opFrom o = sumI fK o + sumI fD o := by unfold opFrom l02Sum; rw [if_pos h.1.1]
  have h2 := sumI_take_le (fun p hp => (fK_b hp).1) ho (i + 1)
  have h3 := sumI_take_le (fun p hp => (fD_b hp).1) ho (i + 1)
  have h4 := sumI_bound (f := fK) (fun p h => fK_b h) (take_ok ho i)
  have h5 := sumI_bound (f := fD) (fun p h => fD_b h) (take_ok ho i)
  have h6 := sumI_suc (f := fK) hi
  have h7 := sumI_suc (f := fD) hi
  have h8 := h.2.2
  have hb := (ho _ (List.getElem_mem hi)).bounds
  have k1 := fK_b (ho _ (List.getElem_mem hi))
  have k2 := fD_b (ho _ (List.getElem_mem hi))
  refine ⟨by omega, fun hk => ?_, by omega⟩
  have : fK o[i] + fD o[i] = o[i].n := by
    unfold fK fD
    by_cases c1 : o[i].kind = 1
    · simp [c1]
    · simp [c1, hk]
  omega

theorem implApply_c (o : List Part) (t : List Int) (hl : nL nPart o ≤ 2 ^ 40) (ht : t.length ≤ 2 ^ 40) : PureC Tryz.prog 263 [.c (.s (o.map Part.row)), .c (.s (t.map intR))] (.tup [.c (.s ((apply o t).1.map intR)) 1, .c (.v (.bool (apply o t).2)) 1]) := by
  refine PureC.intro' tt_ok Tryz.func263 (by kernel_rfl) rfl rfl rfl (Nat.le_of_ble_eq_true rfl) (fun w0 base => ?_)
  simp
  have no : ¬ fits3 o t → apply o t = ([], false) := fun h => by unfold apply; rw [if_neg h]
  refine ACall.pure (implOpOk_c o hl) (by simp) ?_
  by_cases c1 : opOk o
  rotate_left
  · have e : dc (opOk o) = false := by rw [dc_no]; exact c1
    simp [e, no (fun h => c1 h.1)]
  simp [c1]
  refine ACall.pure (implTextOk_c t ht) (by simp) ?_
  by_cases c2 : textOk t
  rotate_left
  · have e : dc (textOk t) = false := by rw [dc_no]; exact c2
    simp [e, no (fun h => c2 h.2.1)]
  simp [c2]
  refine ACall.pure (implOpFrom_c o hl) (by simp) ?_
  by_cases c3 : opFrom o = t.length
  rotate_left
  · simp [c3, no (fun h => c3 h.2.2)]
  have hf : fits3 o t := ⟨c1, c2, c3⟩
  have e : apply o t = ((apRun o t).1, true) := by unfold apply; rw [if_pos hf]
  have ho := c1.1.1
  have hlen := c1.1.2
  simp [c3, e]
  refine LoopT.intro eok (fun x : Nat × Hd => x.1 ≤ o.length) (fun x => ⟨60, 0, [(27, .v (.int .i64 x.1)), (26, .v (.int .i64 o.length)), (25, .ro (o.map Part.row)), (7, .v (.int .i64 (apRun (o.take x.1) t).2)), (6, .sl 752 x.2 1 0 (apRun (o.take x.1) t).1.length), (1, .ro (t.map intR))], [(752, .rows x.2 1 ((apRun (o.take x.1) t).1.map intR) true)]⟩) (fun x => o.length - x.1) (0, none) (by simp) (by simp [apRun]) (fun x hi => ?_)
  obtain ⟨i, H⟩ := x
  simp only at hi ⊢
  by_cases h : i < o.length
  · have hin := apRun_in hf h
    have hat := apRun_at (t := t) ho i hi
    have hb := (ho _ (List.getElem_mem h)).bounds
    have hs := apRun_suc (t := t) h
    generalize apRun (o.take i) t = s at hin hat hs
    obtain ⟨L, a⟩ := s
    simp only at hin hat hs
    obtain ⟨a', rfl⟩ : ∃ a' : Nat, a = a' := ⟨a.toNat, by omega⟩
    obtain ⟨n, hn⟩ : ∃ n : Nat, o[i].n = n := ⟨o[i].n.toNat, by omega⟩
    have e : Go.IntKind.i64.wrap ((i : Int) + 1) = ((i + 1 : Nat) : Int) := i64_suc (by omega)
    have ea : Go.IntKind.i64.wrap ((a' : Int) + n) = (a' : Int) + n := Go.IntWalk.i64_in _ (by omega)
    rw [hn] at hin
    simp [h, Part.row]
    intro b9
    by_cases k1 : o[i].kind = 1
    · have hle : a' + n ≤ t.length := by have := hin.2.1 (by omega); omega
      have hst : apStep t (L, (a' : Int)) o[i] = (L ++ (t.drop a').take n, (a' : Int) + n) := by simp [apStep, k1, hn]
      rw [hst] at hs
      obtain ⟨m, hm⟩ : ∃ m, (t.drop a').take n = m := ⟨_, rfl⟩
      have hcut : cut (t.map intR) a' n = m.map intR := by rw [cut_eq, ← hm]; simp
      have hlen2 : m.length = n := by rw [← hm]; simp; omega
      rw [hm] at hs
      simp [k1, hn, ea, hle, hcut]
      refine ⟨by omega, fun H2 => ⟨i + 1, by omega, by omega, H2, ?_⟩⟩
      rw [hs]
      simp [e]
    · by_cases k3 : o[i].kind = 3
      · have hst : apStep t (L, (a' : Int)) o[i] = (L, (a' : Int) + n) := by simp [apStep, k3, hn]
        rw [hst] at hs
        simp [k3, hn, ea]
        refine ⟨i + 1, by omega, by omega, H, ?_⟩
        rw [hs]
        simp [e]
      · have k2 : o[i].kind = 2 := by omega
        have hst : apStep t (L, (a' : Int)) o[i] = (L ++ o[i].signs, (a' : Int)) := by simp [apStep, k2]
        rw [hst] at hs
        simp [k2]
        refine ⟨by omega, fun H2 => ⟨i + 1, by omega, by omega, H2, ?_⟩⟩
        rw [hs]
        simp [e]
  · have he : o.take i = o := List.take_of_length_le (by omega)
    rw [he]
    simp [h]
end Go.Proofs.YtdfdabjdfmamgaaGreat

namespace Go.Proofs.YtdfdabjdfmamgaaGreat
open Go.AM
set_option maxRecDepth 20000

theorem l03Fits_c (o : List Part) (t : List Int) (hl : nL nPart o ≤ 2 ^ 40) (ht : t.length ≤ 2 ^ 40) : PureC Tryz.prog 324 [.c (.s (o.map Part.row)), .c (.s (t.map intR))] (.one (.c (vb (fits3 o t)) 1)) := by
  refine PureC.intro' tt_ok Tryz.func324 (by kernel_rfl) rfl rfl rfl (Nat.le_of_ble_eq_true rfl) (fun w0 base => ?_)
  simp
  refine ACall.pure (specOpOk_c o hl) (by simp) ?_
  by_cases c1 : opOk o
  rotate_left
  · simp [c1, fits3]
  simp [c1]
  refine ACall.pure (specTextOk_c t ht) (by simp) ?_
  by_cases c2 : textOk t
  rotate_left
  · simp [c2, fits3]
  simp [c2]
  refine ACall.pure (specOpFrom_c o hl) (by simp) ?_
  simp [fits3, c1, c2]

theorem specApply_c (o : List Part) (t : List Int) (hl : nL nPart o ≤ 2 ^ 40) (ht : t.length ≤ 2 ^ 40) : PureC Tryz.prog 256 [.c (.s (o.map Part.row)), .c (.s (t.map intR))] (.tup [.c (.s ((apply o t).1.map intR)) 1, .c (.v (.bool (apply o t).2)) 1]) := by
  refine PureC.intro' tt_ok Tryz.func256 (by kernel_rfl) rfl rfl rfl (Nat.le_of_ble_eq_true rfl) (fun w0 base => ?_)
  simp
  refine ACall.pure (l03Fits_c o t hl ht) (by simp) ?_
  by_cases hf : fits3 o t
  rotate_left
  · have e : dc (fits3 o t) = false := by rw [dc_no]; exact hf
    have e2 : apply o t = ([], false) := by unfold apply; rw [if_neg hf]
    simp [e, e2]
  have e : apply o t = ((apRun o t).1, true) := by unfold apply; rw [if_pos hf]
  have ho := hf.1.1.1
  have hlen := hf.1.1.2
  simp [hf, e]
  intro b
  refine LoopT.intro eok (fun x : Nat × Hd => x.1 ≤ o.length) (fun x => ⟨50, 0, [(17, .v (.int .i64 x.1)), (16, .v (.int .i64 o.length)), (15, .ro (o.map Part.row)), (7, .v (.int .i64 (apRun (o.take x.1) t).2)), (6, .sl 224 x.2 1 0 (apRun (o.take x.1) t).1.length), (1, .ro (t.map intR))], [(224, .rows x.2 1 ((apRun (o.take x.1) t).1.map intR) true)]⟩) (fun x => o.length - x.1) (0, some (b, 0, 0)) (by simp) (by simp [apRun]) (fun x hi => ?_)
  obtain ⟨i, H⟩ := x
  simp only at hi ⊢
  by_cases h : i < o.length
  · have hin := apRun_in hf h
    have hat := apRun_at (t := t) ho i hi
    have hb := (ho _ (List.getElem_mem h)).bounds
    have hs := apRun_suc (t := t) h
    generalize apRun (o.take i) t = s at hin hat hs
    obtain ⟨L, a⟩ := s
    simp only at hin hat hs
    obtain ⟨a', rfl⟩ : ∃ a' : Nat, a = a' := ⟨a.toNat, by omega⟩
    obtain ⟨n, hn⟩ : ∃ n : Nat, o[i].n = n := ⟨o[i].n.toNat, by omega⟩
    have e : Go.IntKind.i64.wrap ((i : Int) + 1) = ((i + 1 : Nat) : Int) := i64_suc (by omega)
    have ea : Go.IntKind.i64.wrap ((a' : Int) + n) = (a' : Int) + n := Go.IntWalk.i64_in _ (by omega)
    rw [hn] at hin
    simp [h, Part.row]
    intro b9
    by_cases k1 : o[i].kind = 1
    · have hle : a' + n ≤ t.length := by have := hin.2.1 (by omega); omega
      have hst : apStep t (L, (a' : Int)) o[i] = (L ++ (t.drop a').take n, (a' : Int) + n) := by simp [apStep, k1, hn]
      rw [hst] at hs
      obtain ⟨m, hm⟩ : ∃ m, (t.drop a').take n = m := ⟨_, rfl⟩
      have hcut : cut (t.map intR) a' n = m.map intR := by rw [cut_eq, ← hm]; simp
      have hlen2 : m.length = n := by rw [← hm]; simp; omega
      rw [hm] at hs
      simp [k1, hn, ea, hle, hcut]
      refine ⟨by omega, fun H2 => ⟨i + 1, by omega, by omega, H2, ?_⟩⟩
      rw [hs]
      simp [e]
    · by_cases k2 : o[i].kind = 2
      · have hst : apStep t (L, (a' : Int)) o[i] = (L ++ o[i].signs, (a' : Int)) := by simp [apStep, k2]
        rw [hst] at hs
        simp [k2]
        refine ⟨by omega, fun H2 => ⟨i + 1, by omega, by omega, H2, ?_⟩⟩
        rw [hs]
        simp [e]
      · have k3 : o[i].kind = 3 := by omega
        have hst : apStep t (L, (a' : Int)) o[i] = (L, (a' : Int) + n) := by simp [apStep, k3, hn]
        rw [hst] at hs
        simp [k1, k2, hn, ea]
        refine ⟨i + 1, by omega, by omega, H, ?_⟩
        rw [hs]
        simp [e]
  · have he : o.take i = o := List.take_of_length_le (by omega)
    rw [he]
    simp [h]

theorem apply_len (o : List Part) (t : List Int) : (apply o t).1.length ≤ 2 ^ 17 := by
  unfold apply
  split
  · rename_i h
    have h1 := (apRun_at (t := t) h.1.1.1 o.length (by omega)).2
    rw [List.take_length] at h1
    have := h.1.1.2
    simp only; omega
  · simp

abbrev partsR (o : List Part) : List CD := [.s (o.map Part.row)]
open Classical in
noncomputable def applyFrom : List (List Part) → List Int → Option (List Int)
  | [], t => some t
  | o :: l, t => if (apply o t).2 = true then applyFrom l (apply o t).1 else none
open Classical in
noncomputable def applyAll (l : List (List Part)) (t : List Int) : List Int × Bool :=
  if textOk t then match applyFrom l t with
    | some u => (u, true)
    | none => ([], false)
  else ([], false)

theorem applyFrom_drop {l : List (List Part)} {i : Nat} {u : List Int} (h : i < l.length) : applyFrom (l.drop i) u = if (apply l[i] u).2 = true then applyFrom (l.drop (i + 1)) (apply l[i] u).1 else none := by
  rw [List.drop_eq_getElem_cons h, applyFrom]

theorem implApplyAll_c (l : List (List Part)) (t : List Int) (hl : l.length ≤ 2 ^ 30) (hs : ∀ o ∈ l, nL nPart o ≤ 2 ^ 40) (ht : t.length ≤ 2 ^ 40) : PureC Tryz.prog 176 [.c (.s (l.map partsR)), .c (.s (t.map intR))] (.tup [.c (.s ((applyAll l t).1.map intR)) 1, .c (.v (.bool (applyAll l t).2)) 1]) := by
  refine PureC.intro' tt_ok Tryz.func176 (by kernel_rfl) rfl rfl rfl (Nat.le_of_ble_eq_true rfl) (fun w0 base => ?_)
  simp
  refine ACall.pure (implTextOk_c t ht) (by simp) ?_
  by_cases c2 : textOk t
  rotate_left
  · have e : dc (textOk t) = false := by rw [dc_no]; exact c2
    have e2 : applyAll l t = ([], false) := by unfold applyAll; rw [if_neg c2]
    simp [e, e2]
  obtain ⟨r, hr⟩ : ∃ r, applyAll l t = r := ⟨_, rfl⟩
  have hr' : (match applyFrom l t with | some u => (u, true) | none => ([], false)) = r := by rw [← hr]; unfold applyAll; rw [if_pos c2]
  rw [hr]
  simp [c2]
  refine ACall.pure (copyInts_c t ht) (by simp) ?_
  simp
  intro H0
  refine LoopT.intro eok (fun x : Nat × Nat × Hd × List Int => x.1 ≤ l.length ∧ x.2.2.2.length ≤ 2 ^ 40 ∧ (match applyFrom (l.drop x.1) x.2.2.2 with | some u => (u, true) | none => ([], false)) = r)
    (fun x => ⟨33, 0, [(18, .v (.int .i64 x.1)), (17, .v (.int .i64 l.length)), (16, .ro (l.map partsR)), (6, .sl x.2.1 x.2.2.1 1 0 x.2.2.2.length)], [(x.2.1, .rows x.2.2.1 1 (x.2.2.2.map intR) true)]⟩) (fun x => l.length - x.1) (0, 240, H0, t) (by simp [ht, hr']) (by simp) (fun x hi => ?_)
  obtain ⟨i, K, H, u⟩ := x
  simp only at hi ⊢
  obtain ⟨hi1, hi2, hi3⟩ := hi
  by_cases h : i < l.length
  · have e : Go.IntKind.i64.wrap ((i : Int) + 1) = ((i + 1 : Nat) : Int) := i64_suc (by omega)
    rw [applyFrom_drop h] at hi3
    have hlen := apply_len l[i] u
    simp [h]
    refine ACall.pure (implApply_c l[i] u (hs _ (List.getElem_mem h)) hi2) (by simp) ?_
    generalize apply l[i] u = q at hi3 hlen
    obtain ⟨v, ok⟩ := q
    simp only at hi3 hlen
    cases ok
    · simp at hi3
      simp [← hi3]
    · simp at hi3
      simp
      intro H2
      exact ⟨i + 1, 400, H2, v, ⟨by omega, by omega, hi3⟩, by omega, ⟨e, rfl, rfl, rfl⟩, .inl rfl⟩
  · have hd : l.drop i = [] := List.drop_eq_nil_of_le (by omega)
    rw [hd] at hi3
    simp [applyFrom] at hi3
    simp [h, ← hi3]

end Go.Proofs.YtdfdabjdfmamgaaGreat

namespace Go.Proofs.YtdfdabjdfmamgaaGreat
open Go.AM
set_option maxRecDepth 20000

theorem apRun_len {o : List Part} {t : List Int} (h : fits3 o t) : ∀ (i : Nat), i ≤ o.length → ((apRun (o.take i) t).1.length : Int) = sumI fK (o.take i) + sumI fP (o.take i) ∧ signsOk (apRun (o.take i) t).1
  | 0, _ => by simp [apRun, sumI, signsOk]
  | i + 1, hi => by
    have hlt : i < o.length := by omega
    obtain ⟨h1, h2⟩ := apRun_len h i (by omega)
    have hin := apRun_in h hlt
    have hpo := h.1.1.1 _ (List.getElem_mem hlt)
    have hb := hpo.bounds
    rw [apRun_suc hlt, sumI_suc hlt, sumI_suc hlt]
    generalize apRun (o.take i) t = s at h1 h2 hin
    generalize o[i] = p at hin hpo hb
    unfold apStep
    rw [show fK p = (if p.kind = 1 then p.n else 0) from rfl, show fP p = (if p.kind = 2 then (p.signs.length : Int) else 0) from rfl]
    rcases hb.1 with k | k | k
    · have := hin.2.1 (by omega)
      have e : ((t.drop s.2.toNat).take p.n.toNat).length = p.n.toNat := by simp; omega
      refine ⟨?_, ?_⟩
      · simp only [k, if_true, List.length_append, e]
        have k2 : ¬ (1 : Int) = 2 := by decide
        simp only [k2, if_false]
        omega
      simp only [k, if_true]
      intro n hn
      rcases List.mem_append.1 hn with hn | hn
      · exact h2 n hn
      · exact h.2.1.2 n (List.mem_of_mem_drop (List.mem_of_mem_take hn))
    · refine ⟨by simp [k]; omega, ?_⟩
      have k1 : ¬ p.kind = 1 := by omega
      simp only [k, if_true]
      rw [partOk_put k] at hpo
      intro n hn
      rcases List.mem_append.1 hn with hn | hn
      · exact h2 n hn
      · exact hpo.2.2 n hn
    · exact ⟨by simp [k]; omega, by simpa [k] using h2⟩
theorem apply_textOk {o : List Part} {t : List Int} (h : fits3 o t) : textOk (apply o t).1 ∧ ((apply o t).1.length : Int) = opTo o := by
  have h1 := apRun_len h o.length (Nat.le_refl _)
  rw [List.take_length] at h1
  have e : apply o t = ((apRun o t).1, true) := by unfold apply; rw [if_pos h]
  have ht : opTo o = sumI fK o + sumI fP o := by unfold opTo l02Sum; rw [if_pos h.1.1]
  have h3 := h.1.2.2
  rw [e]
  refine ⟨⟨by simp only; omega, h1.2⟩, by simp only; omega⟩
theorem apply_yes {o : List Part} {t : List Int} : (apply o t).2 = true ↔ fits3 o t := by
  unfold apply
  split <;> simp_all

def nameOk (s : ByteArray) : Prop := (1 ≤ s.size ∧ s.size ≤ 8) ∧ ∀ (i : Nat) (h : i < s.size), 97 ≤ s[i].toNat ∧ s[i].toNat ≤ 122
def entryOk (e : Entry) : Prop := (1 ≤ e.client ∧ e.client ≤ 8) ∧ (1 ≤ e.seq ∧ e.seq ≤ 1000000000) ∧ isNorm e.o
def seensOk (d : Doc) : Prop := ∀ (i : Nat) (h : i < d.seen.length), (1 ≤ d.seen[i].client ∧ d.seen[i].client ≤ 8) ∧ (1 ≤ d.seen[i].seq ∧ d.seen[i].seq ≤ 1000000000) ∧ (1 ≤ d.seen[i].rev ∧ d.seen[i].rev ≤ headRev d) ∧ (∀ h0 : 0 < i, d.seen[i - 1].client < d.seen[i].client)
def docOk (d : Doc) : Prop := nameOk d.name ∧ (0 ≤ d.fr ∧ d.fr ≤ 999999000) ∧ textOk d.text ∧ d.list.length ≤ 8 ∧ (∀ e ∈ d.list, entryOk e) ∧ (applyFrom (d.list.map Entry.o) d.text).isSome = true ∧ seensOk d
open Classical in
noncomputable def textAt (d : Doc) (rev : Int) : List Int × Bool := if docOk d ∧ d.fr ≤ rev ∧ rev ≤ headRev d then applyAll ((d.list.take (rev - d.fr).toNat).map Entry.o) d.text else ([], false)
noncomputable def headText (d : Doc) : List Int := (textAt d (headRev d)).1
open Classical in
noncomputable def seenOf (d : Doc) (c : Int) : Seen × Bool := match d.seen.find? (fun s => decide (s.client = c)) with
  | some s => (s, true)
  | none => (⟨0, 0, 0⟩, false)

noncomputable def sentRep (r : Rep) : Rep := ⟨r.client, r.seq + 1, r.rev, r.text, true, r.buf, keeping (opTo r.buf)⟩
open Classical in
noncomputable def fRepSend (r : Rep) : Rep × Call × Bool := if repOk r ∧ r.has = false ∧ ¬ idle r.buf ∧ r.seq ≠ 999999999 then (sentRep r, ⟨2, ⟨#[]⟩, r.client, r.seq + 1, r.rev, r.buf, []⟩, true) else (Rep.zero, ⟨0, ⟨#[]⟩, 0, 0, 0, [], []⟩, false)
end Go.Proofs.YtdfdabjdfmamgaaGreat

namespace Go.Proofs.YtdfdabjdfmamgaaGreat
open Go.AM
set_option maxRecDepth 20000

theorem copyRep_c (r : Rep) (hl : nRep r ≤ 2 ^ 30) : PureC Tryz.prog 240 [.agg r.row] (.one (.agg r.res)) := by
  refine PureC.intro' tt_ok Tryz.func240 (by kernel_rfl) rfl rfl rfl (Nat.le_of_ble_eq_true rfl) (fun w0 base => ?_)
  unfold nRep at hl
  simp [Rep.row]
  intros
  refine ACall.pure (copyInts_c r.text (by omega)) (by simp) ?_
  simp
  intros
  refine ACall.pure (copyOp_c r.sent (by omega)) (by simp) ?_
  simp
  intros
  refine ACall.pure (copyOp_c r.buf (by omega)) (by simp) ?_
  simp [Rep.res]
theorem l17Copy_c (r : Rep) (hl : nRep r ≤ 2 ^ 30) : PureC Tryz.prog 230 [.agg r.row] (.one (.agg r.res)) := by
  refine PureC.intro' tt_ok Tryz.func230 (by kernel_rfl) rfl rfl rfl (Nat.le_of_ble_eq_true rfl) (fun w0 base => ?_)
  unfold nRep at hl
  simp [Rep.row]
  intros
  refine ⟨by omega, fun H1 => ?_⟩
  refine ACall.pure (l02Copy_c r.sent (by omega)) (by simp) ?_
  simp
  intros
  refine ACall.pure (l02Copy_c r.buf (by omega)) (by simp) ?_
  simp [Rep.res]

theorem sentRep_n (r : Rep) : nRep (sentRep r) ≤ nRep r + 1 := by
  have := keeping_n (opTo r.buf)
  unfold nRep sentRep
  simp only
  omega
theorem fRepSend_no {r : Rep} (h : ¬ (repOk r ∧ r.has = false ∧ ¬ idle r.buf ∧ r.seq ≠ 999999999)) : fRepSend r = (Rep.zero, Call.zero, false) := by unfold fRepSend; rw [if_neg h]; rfl
theorem fRepSend_yes {r : Rep} (h : repOk r ∧ r.has = false ∧ ¬ idle r.buf ∧ r.seq ≠ 999999999) : fRepSend r = (sentRep r, submit (sentRep r), true) := by unfold fRepSend; rw [if_pos h]; rfl
theorem fRepSend_b (r : Rep) (_ : r.fits) (h : nRep r ≤ 2 ^ 20) : nRep (fRepSend r).1 ≤ 2 ^ 40 ∧ nCall (fRepSend r).2.1 ≤ 2 ^ 40 := by
  by_cases c : repOk r ∧ r.has = false ∧ ¬ idle r.buf ∧ r.seq ≠ 999999999
  · rw [fRepSend_yes c]
    have h1 := sentRep_n r
    have h2 := submit_n (sentRep r)
    refine ⟨by simp only; omega, by simp only; omega⟩
  · rw [fRepSend_no c]
    simp [Rep.zero_n, Call.zero_n]
theorem implRepSend_i (r : Rep) (hl : nRep r ≤ 2 ^ 20) : PureC Tryz.prog 151 [.agg r.row] (.tup [.agg (fRepSend r).1.res, .agg (fRepSend r).2.1.res, .c (.v (.bool (fRepSend r).2.2)) 1]) := by
  refine PureC.intro' tt_ok Tryz.func151 (by kernel_rfl) rfl rfl rfl (Nat.le_of_ble_eq_true rfl) (fun w0 base => ?_)
  have hbuf : nL nPart r.buf ≤ 2 ^ 20 := by unfold nRep at hl; omega
  simp [Rep.row]
  intros
  refine ACall.pure (implRepOk_i r (by omega)) (by simp [Rep.row]) ?_
  by_cases c1 : repOk r
  rotate_left
  · have e := fRepSend_no (r := r) (fun h => c1 h.1)
    have e2 : dc (repOk r) = false := by rw [dc_no]; exact c1
    simp [e2, e, Rep.res, Rep.zero, Call.res, Call.zero]
  simp [c1]
  by_cases ch : r.has = false
  rotate_left
  · have e := fRepSend_no (r := r) (fun h => ch h.2.1)
    have ch2 : r.has = true := by simpa using ch
    simp [ch2, e, Rep.res, Rep.zero, Call.res, Call.zero]
  simp [ch]
  refine ACall.pure (implIdle_c r.buf (by omega)) (by simp) ?_
  by_cases ci : idle r.buf
  · have e := fRepSend_no (r := r) (fun h => h.2.2.1 ci)
    simp [ci, e, Rep.res, Rep.zero, Call.res, Call.zero]
  have ci2 : dc (idle r.buf) = false := by rw [dc_no]; exact ci
  by_cases cs : r.seq = 999999999
  · have e := fRepSend_no (r := r) (fun h => h.2.2.2 cs)
    simp [ci2, cs, e, Rep.res, Rep.zero, Call.res, Call.zero]
  have e := fRepSend_yes (r := r) ⟨c1, ch, ci, cs⟩
  have hs := c1.2.1
  have ew : Go.IntKind.i64.wrap (r.seq + 1) = r.seq + 1 := Go.IntWalk.i64_in _ (by omega)
  simp [ci2, cs]
  refine ACall.pure (copyRep_c r (by omega)) (by simp [Rep.row, ch]) ?_
  simp [Rep.res, ew]
  intros
  refine ACall.pure (implOpTo_c r.buf (by omega)) (by simp) ?_
  simp
  refine ACall.pure (implKeeping_c (opTo r.buf)) (by simp) ?_
  simp
  intros
  refine DrawT.introP eok mix [0, 1, 5] [2, 3, 4] [([false, true, false], [true, false, true]), ([false, false, true], [true, false, false]), ([false, false, false], [true, false, false])] [true, false, false] (by kernel_rfl) ?_
  simp
  have hn := sentRep_n r
  refine ACall.pure (submitOf_c (sentRep r) (by omega)) (by simp [Rep.row, sentRep, ch]) ?_
  simp [e, sentRep, Call.res, submit]
theorem specRepSend_i (r : Rep) (hl : nRep r ≤ 2 ^ 20) : PureC Tryz.prog 142 [.agg r.row] (.tup [.agg (fRepSend r).1.res, .agg (fRepSend r).2.1.res, .c (.v (.bool (fRepSend r).2.2)) 1]) := by
  refine PureC.intro' tt_ok Tryz.func142 (by kernel_rfl) rfl rfl rfl (Nat.le_of_ble_eq_true rfl) (fun w0 base => ?_)
  have hbuf : nL nPart r.buf ≤ 2 ^ 20 := by unfold nRep at hl; omega
  simp [Rep.row]
  intros
  refine ACall.pure (specRepOk_i r (by omega)) (by simp [Rep.row]) ?_
  by_cases c1 : repOk r
  rotate_left
  · have e := fRepSend_no (r := r) (fun h => c1 h.1)
    have e2 : dc (repOk r) = false := by rw [dc_no]; exact c1
    simp [e2, e, Rep.res, Rep.zero, Call.res, Call.zero]
  simp [c1]
  by_cases ch : r.has = false
  rotate_left
  · have e := fRepSend_no (r := r) (fun h => ch h.2.1)
    have ch2 : r.has = true := by simpa using ch
    simp [ch2, e, Rep.res, Rep.zero, Call.res, Call.zero]
  simp [ch]
  refine ACall.pure (specIdle_c r.buf (by omega)) (by simp) ?_
  by_cases ci : idle r.buf
  · have e := fRepSend_no (r := r) (fun h => h.2.2.1 ci)
    simp [ci, e, Rep.res, Rep.zero, Call.res, Call.zero]
  have ci2 : dc (idle r.buf) = false := by rw [dc_no]; exact ci
  by_cases cs : r.seq = 999999999
  · have e := fRepSend_no (r := r) (fun h => h.2.2.2 cs)
    simp [ci2, cs, e, Rep.res, Rep.zero, Call.res, Call.zero]
  have e := fRepSend_yes (r := r) ⟨c1, ch, ci, cs⟩
  have hs := c1.2.1
  have ew : Go.IntKind.i64.wrap (r.seq + 1) = r.seq + 1 := Go.IntWalk.i64_in _ (by omega)
  simp [ci2, cs]
  refine ACall.pure (l17Copy_c r (by omega)) (by simp [Rep.row, ch]) ?_
  simp [Rep.res, ew]
  intros
  refine ACall.pure (l02Copy_c r.buf (by omega)) (by simp) ?_
  simp
  intros
  refine ACall.pure (specOpTo_c r.buf (by omega)) (by simp) ?_
  simp
  refine ACall.pure (specKeeping_c (opTo r.buf)) (by simp) ?_
  simp
  intros
  refine DrawT.introP eok mix [0, 1, 5] [2, 3, 4] [([false, true, false], [true, false, true]), ([false, false, true], [true, false, false]), ([false, false, false], [true, false, false])] [true, false, false] (by kernel_rfl) ?_
  simp
  have hn := sentRep_n r
  refine ACall.pure (l17Call_c (sentRep r) (by omega)) (by simp [Rep.row, sentRep, ch]) ?_
  simp [e, sentRep, Call.res, submit]
theorem implRepSend_c (r : Rep) (_ : r.fits) (hl : nRep r ≤ 2 ^ 20) : PureC Tryz.prog 151 [.agg r.row] (.tup [.agg (fRepSend r).1.res, .agg (fRepSend r).2.1.res, .c (.v (.bool (fRepSend r).2.2)) 1]) := implRepSend_i r hl
theorem specRepSend_c (r : Rep) (_ : r.fits) (hl : nRep r ≤ 2 ^ 20) : PureC Tryz.prog 142 [.agg r.row] (.tup [.agg (fRepSend r).1.res, .agg (fRepSend r).2.1.res, .c (.v (.bool (fRepSend r).2.2)) 1]) := specRepSend_i r hl
end Go.Proofs.YtdfdabjdfmamgaaGreat

namespace Go.Proofs.YtdfdabjdfmamgaaGreat
open Go.AM
set_option maxRecDepth 20000

theorem opOk_n {o : List Part} (h : opOk o) : nL nPart o ≤ 2 ^ 18 := by
  have := nL_parts h.1.1
  have := h.1.2
  omega
theorem fCompose_n (a b : List Part) : nL nPart (fCompose a b).1 ≤ 2 ^ 18 := by
  unfold fCompose
  split
  · split
    · rename_i h; exact opOk_n h
    · simp [nL, sumN]
  · simp [nL, sumN]
def editRep (r : Rep) (b : List Part) : Rep := ⟨r.client, r.seq, r.rev, r.text, r.has, r.sent, b⟩
open Classical in
noncomputable def fRepEdit (r : Rep) (o : List Part) : Rep × Bool := if repOk r ∧ (fCompose r.buf o).2 = true then repOr (editRep r (fCompose r.buf o).1) else (Rep.zero, false)
theorem fRepEdit_no {r : Rep} {o : List Part} (h : ¬ (repOk r ∧ (fCompose r.buf o).2 = true)) : fRepEdit r o = (Rep.zero, false) := by unfold fRepEdit; rw [if_neg h]
theorem fRepEdit_yes {r : Rep} {o : List Part} (h : repOk r ∧ (fCompose r.buf o).2 = true) : fRepEdit r o = repOr (editRep r (fCompose r.buf o).1) := by unfold fRepEdit; rw [if_pos h]
theorem repOr_yes {r : Rep} (h : repOk r) : repOr r = (r, true) := by unfold repOr; rw [if_pos h]
theorem repOr_no {r : Rep} (h : ¬ repOk r) : repOr r = (Rep.zero, false) := by unfold repOr; rw [if_neg h]
theorem repOr_n {r : Rep} {B : Nat} (h : nRep r ≤ B) : nRep (repOr r).1 ≤ B := by
  unfold repOr
  split
  · exact h
  · simp [Rep.zero_n]
theorem editRep_n {r : Rep} {b : List Part} : nRep (editRep r b) ≤ nRep r + nL nPart b := by unfold nRep editRep; simp only; omega
theorem fRepEdit_n (r : Rep) (o : List Part) : nRep (fRepEdit r o).1 ≤ nRep r + 2 ^ 18 := by
  unfold fRepEdit
  split
  · have := fCompose_n r.buf o
    have := @editRep_n r (fCompose r.buf o).1
    exact repOr_n (by omega)
  · simp [Rep.zero_n]
theorem fRepEdit_b (r : Rep) (_ : r.fits) (h : nRep r ≤ 2 ^ 20) (o : List Part) (_ : o.length ≤ 9223372036854775807 ∧ ∀ y ∈ o, y.fits) (_ : nL nPart o ≤ 2 ^ 20) : nRep (fRepEdit r o).1 ≤ 2 ^ 40 := by
  have := fRepEdit_n r o
  omega

theorem implRepEdit_i (r : Rep) (hl : nRep r ≤ 2 ^ 28) (o : List Part) (ho : nL nPart o ≤ 2 ^ 40) : PureC Tryz.prog 150 [.agg r.row, .c (.s (o.map Part.row))] (.tup [.agg (fRepEdit r o).1.res, .c (.v (.bool (fRepEdit r o).2)) 1]) := by
  refine PureC.intro' tt_ok Tryz.func150 (by kernel_rfl) rfl rfl rfl (Nat.le_of_ble_eq_true rfl) (fun w0 base => ?_)
  have hbuf : nL nPart r.buf ≤ 2 ^ 40 := by unfold nRep at hl; omega
  simp [Rep.row]
  intros
  refine ACall.pure (implRepOk_i r (by omega)) (by simp [Rep.row]) ?_
  by_cases c1 : repOk r
  rotate_left
  · have e := fRepEdit_no (r := r) (o := o) (fun h => c1 h.1)
    have e2 : dc (repOk r) = false := by rw [dc_no]; exact c1
    simp [e2, e, Rep.res, Rep.zero]
  simp [c1]
  refine ACall.pure (implCompose_i r.buf o hbuf ho) (by simp) ?_
  simp
  have hn := fCompose_n r.buf o
  have hno := fRepEdit_no (r := r) (o := o)
  have hyes := fRepEdit_yes (r := r) (o := o)
  generalize fCompose r.buf o = C at hn hno hyes ⊢
  obtain ⟨cb, cok⟩ := C
  simp only at hn hno hyes ⊢
  intro H1
  cases cok with
  | false =>
    have e := hno (by simp)
    simp [e, Rep.res, Rep.zero]
  | true =>
    have e := hyes ⟨c1, rfl⟩
    simp
    refine ACall.pure (copyRep_c r (by omega)) (by simp [Rep.row]) ?_
    simp [Rep.res]
    intros
    refine ACall.inline tt_ok Tryz.func242 (by kernel_rfl) rfl rfl rfl (Nat.le_of_ble_eq_true rfl) 20000 (fun w1 F => ?_)
    simp
    intros
    have hn2 := @editRep_n r cb
    refine ACall.pure (implRepOk_i (editRep r cb) (by omega)) (by simp [Rep.row, editRep]) ?_
    by_cases h : repOk (editRep r cb)
    · rw [repOr_yes h] at e
      simp [h, e]
      simp [editRep]
    · rw [repOr_no h] at e
      have e2 : dc (repOk (editRep r cb)) = false := by rw [dc_no]; exact h
      simp [e2, e, Rep.zero]
theorem specRepEdit_i (r : Rep) (hl : nRep r ≤ 2 ^ 28) (o : List Part) (ho : nL nPart o ≤ 2 ^ 40) : PureC Tryz.prog 141 [.agg r.row, .c (.s (o.map Part.row))] (.tup [.agg (fRepEdit r o).1.res, .c (.v (.bool (fRepEdit r o).2)) 1]) := by
  refine PureC.intro' tt_ok Tryz.func141 (by kernel_rfl) rfl rfl rfl (Nat.le_of_ble_eq_true rfl) (fun w0 base => ?_)
  have hbuf : nL nPart r.buf ≤ 2 ^ 40 := by unfold nRep at hl; omega
  simp [Rep.row]
  intros
  refine ACall.pure (specCompose_i r.buf o hbuf ho) (by simp) ?_
  simp
  have hn := fCompose_n r.buf o
  have hno := fRepEdit_no (r := r) (o := o)
  have hyes := fRepEdit_yes (r := r) (o := o)
  generalize fCompose r.buf o = C at hn hno hyes ⊢
  obtain ⟨cb, cok⟩ := C
  simp only at hn hno hyes ⊢
  intro H1
  refine ACall.pure (specRepOk_i r (by omega)) (by simp [Rep.row]) ?_
  by_cases c1 : repOk r
  rotate_left
  · have e := hno (fun h => c1 h.1)
    have e2 : dc (repOk r) = false := by rw [dc_no]; exact c1
    simp [e2, e, Rep.res, Rep.zero]
  simp [c1]
  cases cok with
  | false =>
    have e := hno (by simp)
    simp [e, Rep.res, Rep.zero]
  | true =>
    have e := hyes ⟨c1, rfl⟩
    simp
    refine ACall.pure (l17Copy_c r (by omega)) (by simp [Rep.row]) ?_
    simp [Rep.res]
    intros
    refine ACall.inline tt_ok Tryz.func232 (by kernel_rfl) rfl rfl rfl (Nat.le_of_ble_eq_true rfl) 20000 (fun w1 F => ?_)
    simp
    intros
    have hn2 := @editRep_n r cb
    refine ACall.pure (specRepOk_i (editRep r cb) (by omega)) (by simp [Rep.row, editRep]) ?_
    by_cases h : repOk (editRep r cb)
    · rw [repOr_yes h] at e
      simp [h, e]
      simp [editRep]
    · rw [repOr_no h] at e
      have e2 : dc (repOk (editRep r cb)) = false := by rw [dc_no]; exact h
      simp [e2, e, Rep.zero]
theorem implRepEdit_c (r : Rep) (_ : r.fits) (h : nRep r ≤ 2 ^ 20) (o : List Part) (_ : o.length ≤ 9223372036854775807 ∧ ∀ y ∈ o, y.fits) (ho : nL nPart o ≤ 2 ^ 20) : PureC Tryz.prog 150 [.agg r.row, .c (.s (o.map Part.row))] (.tup [.agg (fRepEdit r o).1.res, .c (.v (.bool (fRepEdit r o).2)) 1]) := implRepEdit_i r (by omega) o (by omega)
theorem specRepEdit_c (r : Rep) (_ : r.fits) (h : nRep r ≤ 2 ^ 20) (o : List Part) (_ : o.length ≤ 9223372036854775807 ∧ ∀ y ∈ o, y.fits) (ho : nL nPart o ≤ 2 ^ 20) : PureC Tryz.prog 141 [.agg r.row, .c (.s (o.map Part.row))] (.tup [.agg (fRepEdit r o).1.res, .c (.v (.bool (fRepEdit r o).2)) 1]) := specRepEdit_i r (by omega) o (by omega)
end Go.Proofs.YtdfdabjdfmamgaaGreat

