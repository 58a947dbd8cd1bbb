import Derived.Test.YtljhopjmmcmioaaFRepEdit
import Derived.Test.YtljhopjmmcmioaaFTransform2
import Derived.Test.YtljhopjmmcmioaaDEntry
namespace Go.Proofs.Ytljhopjmmcmioaa
open Go.AM
set_option maxRecDepth 20000
set_option maxHeartbeats 1600000

theorem dc_neg {p : Prop} (h : ¬ p) : dc p = false := by rw [dc_no]; exact h
theorem entryOk_n {e : Entry} (hl : nEntry e ≤ 2 ^ 40) : nL nPart e.o ≤ 2 ^ 40 := by unfold nEntry at hl; omega
theorem implEntryOk_c (e : Entry) (hl : nEntry e ≤ 2 ^ 40) : PureC Try.prog 96 [.agg e.row] (.one (.c (vb (entryOk e)) 1)) := by
  refine PureC.intro' tt_ok Try.func96 (by kernel_rfl) rfl rfl rfl (Nat.le_of_ble_eq_true rfl) (fun w0 base => ?_)
  simp [Entry.row]
  intros
  refine ACall.pure (within_c e.client 1 8) (by simp) ?_
  by_cases c1 : 1 ≤ e.client ∧ e.client ≤ 8
  rotate_left
  · have h : ¬ entryOk e := fun h => c1 h.1
    simp [dc_neg c1, dc_neg h]
  simp [c1]
  refine ACall.pure (within_c e.seq 1 1000000000) (by simp) ?_
  by_cases c2 : 1 ≤ e.seq ∧ e.seq ≤ 1000000000
  rotate_left
  · have h : ¬ entryOk e := fun h => c2 h.2.1
    simp [dc_neg c2, dc_neg h]
  simp [c2]
  refine ACall.pure (implIsNorm_c e.o (entryOk_n hl)) (by simp) ?_
  by_cases c3 : isNorm e.o
  · have h : entryOk e := ⟨c1, c2, c3⟩
    simp [c3, h]
  · have h : ¬ entryOk e := fun h => c3 h.2.2
    simp [dc_neg c3, dc_neg h]
theorem specEntryOk_c (e : Entry) (hl : nEntry e ≤ 2 ^ 40) : PureC Try.prog 91 [.agg e.row] (.one (.c (vb (entryOk e)) 1)) := by
  refine PureC.intro' tt_ok Try.func91 (by kernel_rfl) rfl rfl rfl (Nat.le_of_ble_eq_true rfl) (fun w0 base => ?_)
  simp [Entry.row]
  intros
  refine ACall.pure (l01In_c e.client 1 8) (by simp) ?_
  by_cases c1 : 1 ≤ e.client ∧ e.client ≤ 8
  rotate_left
  · have h : ¬ entryOk e := fun h => c1 h.1
    simp [dc_neg c1, dc_neg h]
  simp [c1]
  refine ACall.pure (l01In_c e.seq 1 1000000000) (by simp) ?_
  by_cases c2 : 1 ≤ e.seq ∧ e.seq ≤ 1000000000
  rotate_left
  · have h : ¬ entryOk e := fun h => c2 h.2.1
    simp [dc_neg c2, dc_neg h]
  simp [c2]
  refine ACall.pure (specIsNorm_c e.o (entryOk_n hl)) (by simp) ?_
  by_cases c3 : isNorm e.o
  · have h : entryOk e := ⟨c1, c2, c3⟩
    simp [c3, h]
  · have h : ¬ entryOk e := fun h => c3 h.2.2
    simp [dc_neg c3, dc_neg h]

theorem fTransform_n (a b : List Part) : nL nPart (fTransform a b).1 ≤ 2 ^ 18 ∧ nL nPart (fTransform a b).2.1 ≤ 2 ^ 18 := by
  unfold fTransform
  split
  · split
    · rename_i h; exact ⟨opOk_n h.1, opOk_n h.2⟩
    · simp [nL, sumN]
  · simp [nL, sumN]
noncomputable def ackRep (r : Rep) (t : List Int) : Rep := ⟨r.client, r.seq, r.rev + 1, t, false, keeping t.length, r.buf⟩
def moveRep (r : Rep) (t : List Int) (s b : List Part) : Rep := ⟨r.client, r.seq, r.rev + 1, t, r.has, s, b⟩
def isAck (r : Rep) (e : Entry) : Prop := r.has = true ∧ e.client = r.client ∧ e.seq = r.seq
open Classical in
noncomputable def fRepTake (r : Rep) (e : Entry) : Rep × Bool :=
  if repOk r ∧ entryOk e ∧ fits3 e.o r.text then
    if isAck r e then (if e.o = r.sent then repOr (ackRep r (apply e.o r.text).1) else (Rep.zero, false))
    else if (fTransform e.o r.sent).2.2 = true ∧ (fTransform (fTransform e.o r.sent).1 r.buf).2.2 = true then repOr (moveRep r (apply e.o r.text).1 (fTransform e.o r.sent).2.1 (fTransform (fTransform e.o r.sent).1 r.buf).2.1) else (Rep.zero, false)
  else (Rep.zero, false)
theorem fRepTake_no {r : Rep} {e : Entry} (h : ¬ (repOk r ∧ entryOk e ∧ fits3 e.o r.text)) : fRepTake r e = (Rep.zero, false) := by unfold fRepTake; rw [if_neg h]
theorem fRepTake_ack {r : Rep} {e : Entry} (h : repOk r ∧ entryOk e ∧ fits3 e.o r.text) (h2 : isAck r e) : (e.o = r.sent → fRepTake r e = repOr (ackRep r (apply e.o r.text).1)) ∧ (¬ e.o = r.sent → fRepTake r e = (Rep.zero, false)) := by
  unfold fRepTake; rw [if_pos h, if_pos h2]
  exact ⟨fun h => by rw [if_pos h], fun h => by rw [if_neg h]⟩
theorem fRepTake_move {r : Rep} {e : Entry} (h : repOk r ∧ entryOk e ∧ fits3 e.o r.text) (h2 : ¬ isAck r e) :
    ((fTransform e.o r.sent).2.2 = true ∧ (fTransform (fTransform e.o r.sent).1 r.buf).2.2 = true → fRepTake r e = repOr (moveRep r (apply e.o r.text).1 (fTransform e.o r.sent).2.1 (fTransform (fTransform e.o r.sent).1 r.buf).2.1)) ∧
    (¬ ((fTransform e.o r.sent).2.2 = true ∧ (fTransform (fTransform e.o r.sent).1 r.buf).2.2 = true) → fRepTake r e = (Rep.zero, false)) := by
  unfold fRepTake; rw [if_pos h, if_neg h2]
  exact ⟨fun h => by rw [if_pos h], fun h => by rw [if_neg h]⟩
theorem ackRep_n {r : Rep} {t : List Int} (h : t.length ≤ 2 ^ 17) : nRep (ackRep r t) ≤ nRep r + 2 ^ 18 := by
  have := keeping_n t.length
  unfold nRep ackRep
  simp only
  omega
theorem moveRep_n {r : Rep} {t : List Int} {s b : List Part} (h : t.length ≤ 2 ^ 17) (hs : nL nPart s ≤ 2 ^ 18) (hb : nL nPart b ≤ 2 ^ 18) : nRep (moveRep r t s b) ≤ 2 ^ 20 := by
  unfold nRep moveRep
  simp only
  omega
theorem fRepTake_n (r : Rep) (e : Entry) : nRep (fRepTake r e).1 ≤ nRep r + 2 ^ 20 := by
  have ht := apply_len e.o r.text
  have h1 := fTransform_n e.o r.sent
  have h2 := fTransform_n (fTransform e.o r.sent).1 r.buf
  unfold fRepTake
  split
  · split
    · split
      · exact repOr_n (by have := @ackRep_n r _ ht; omega)
      · simp [Rep.zero_n]
    · split
      · exact repOr_n (by have := @moveRep_n r _ _ _ ht h1.2 h2.2; omega)
      · simp [Rep.zero_n]
  · simp [Rep.zero_n]
theorem fRepTake_b (r : Rep) (_ : r.fits) (h : nRep r ≤ 2 ^ 20) (e : Entry) (_ : e.fits) (_ : nEntry e ≤ 2 ^ 20) : nRep (fRepTake r e).1 ≤ 2 ^ 40 := by
  have := fRepTake_n r e
  omega

theorem implRepTake_i (r : Rep) (hl : nRep r ≤ 2 ^ 28) (x : Entry) (hx : nEntry x ≤ 2 ^ 40) : PureC Try.prog 35 [.agg r.row, .agg x.row] (.tup [.agg (fRepTake r x).1.res, .c (.v (.bool (fRepTake r x).2)) 1]) := by
  refine PureC.intro' tt_ok Try.func35 (by kernel_rfl) rfl rfl rfl (Nat.le_of_ble_eq_true rfl) (fun w0 base => ?_)
  have hxo := entryOk_n hx
  have hbuf : nL nPart r.buf ≤ 2 ^ 40 ∧ nL nPart r.sent ≤ 2 ^ 40 ∧ r.text.length ≤ 2 ^ 40 := by unfold nRep at hl; omega
  obtain ⟨hbuf, hsent, htext⟩ := hbuf
  simp [Rep.row, Entry.row]
  intros
  refine ACall.pure (implRepOk_i r (by omega)) (by simp [Rep.row]) ?_
  by_cases c1 : repOk r
  rotate_left
  · have e := fRepTake_no (r := r) (e := x) (fun h => c1 h.1)
    simp [dc_neg c1, e, Rep.res, Rep.zero]
  simp [c1]
  refine ACall.pure (implEntryOk_c x hx) (by simp [Entry.row]) ?_
  by_cases c2 : entryOk x
  rotate_left
  · have e := fRepTake_no (r := r) (e := x) (fun h => c2 h.2.1)
    simp [dc_neg c2, e, Rep.res, Rep.zero]
  simp [c2]
  refine ACall.pure (implApply_c x.o r.text hxo htext) (by simp) ?_
  have hyes := @apply_yes x.o r.text
  have hno := fRepTake_no (r := r) (e := x)
  have hack := fRepTake_ack (r := r) (e := x)
  have hmove := fRepTake_move (r := r) (e := x)
  have ht := apply_len x.o r.text
  generalize apply x.o r.text = A at hyes hack hmove ht ⊢
  obtain ⟨t, ok⟩ := A
  simp only at hyes hack hmove ht ⊢
  simp
  intro H1
  cases ok with
  | false =>
    have e := hno (fun h => by have := hyes.2 h.2.2; simp at this)
    simp [e, Rep.res, Rep.zero]
  | true =>
    have hall : repOk r ∧ entryOk x ∧ fits3 x.o r.text := ⟨c1, c2, hyes.1 rfl⟩
    have hrev := c1.2.2.1
    have ew : Go.IntKind.i64.wrap (r.rev + 1) = r.rev + 1 := Go.IntWalk.i64_in _ (by omega)
    simp
    refine ACall.pure (copyRep_c r (by omega)) (by simp [Rep.row]) ?_
    simp [Rep.res, ew]
    intros
    have hcase : isAck r x ∨ r.has = false ∨ (r.has = true ∧ x.client ≠ r.client) ∨ (r.has = true ∧ x.client = r.client ∧ x.seq ≠ r.seq) := by
      by_cases h1 : r.has = true
      · by_cases h2 : x.client = r.client
        · by_cases h3 : x.seq = r.seq
          · exact .inl ⟨h1, h2, h3⟩
          · exact .inr (.inr (.inr ⟨h1, h2, h3⟩))
        · exact .inr (.inr (.inl ⟨h1, h2⟩))
      · exact .inr (.inl (by simpa using h1))
    rcases hcase with hA | hA | hA | hA
    · have hm := hack hall hA
      simp [hA.1, hA.2.1, hA.2.2]
      refine ACall.pure (implOpSame_c x.o r.sent hxo) (by simp) ?_
      by_cases ce : x.o = r.sent
      rotate_left
      · have e := hm.2 ce
        simp [ce, e, Rep.zero]
      have e := hm.1 ce
      simp [ce]
      refine ACall.pure (implKeeping_c t.length) (by simp) ?_
      simp
      intros
      refine ACall.inline tt_ok Try.func89 (by kernel_rfl) rfl rfl rfl (Nat.le_of_ble_eq_true rfl) 20000 (fun w1 F => ?_)
      simp
      intros
      have hn2 := @ackRep_n r t ht
      refine ACall.pure (implRepOk_i (ackRep r t) (by omega)) (by simp [Rep.row, ackRep]) ?_
      by_cases h : repOk (ackRep r t)
      · rw [repOr_yes h] at e
        simp [h, e]
        simp [ackRep]
      · rw [repOr_no h] at e
        simp [dc_neg h, e, Rep.zero]
    all_goals
      have hnA : ¬ isAck r x := by
        rintro ⟨a1, a2, a3⟩
        simp_all
      have hm := hmove hall hnA
      have n1 := fTransform_n x.o r.sent
      simp [hA]
      refine ACall.pure (implTransform_i x.o r.sent hxo hsent) (by simp) ?_
      generalize fTransform x.o r.sent = T1 at hm n1 ⊢
      obtain ⟨x1, s1, j1⟩ := T1
      simp only at hm n1 ⊢
      simp
      intros
      have n2 := fTransform_n x1 r.buf
      refine ACall.pure (implTransform_i x1 r.buf (by omega) hbuf) (by simp) ?_
      generalize fTransform x1 r.buf = T2 at hm n2 ⊢
      obtain ⟨x2, s2, j2⟩ := T2
      simp only at hm n2 ⊢
      simp
      intros
      cases j1 with
      | false =>
        have e := hm.2 (by simp)
        simp [e, Rep.zero]
      | true =>
        cases j2 with
        | false =>
          have e := hm.2 (by simp)
          simp [e, Rep.zero]
        | true =>
          have e := hm.1 ⟨rfl, rfl⟩
          simp
          refine ACall.inline tt_ok Try.func89 (by kernel_rfl) rfl rfl rfl (Nat.le_of_ble_eq_true rfl) 20000 (fun w1 F => ?_)
          simp
          intros
          have hn2 := @moveRep_n r t s1 s2 ht n1.2 n2.2
          refine ACall.pure (implRepOk_i (moveRep r t s1 s2) (by omega)) (by simp [Rep.row, moveRep, hA]) ?_
          by_cases h : repOk (moveRep r t s1 s2)
          · rw [repOr_yes h] at e
            simp [h, e]
            simp [moveRep, hA]
          · rw [repOr_no h] at e
            simp [dc_neg h, e, Rep.zero]
theorem specRepTake_i (r : Rep) (hl : nRep r ≤ 2 ^ 28) (x : Entry) (hx : nEntry x ≤ 2 ^ 40) : PureC Try.prog 33 [.agg r.row, .agg x.row] (.tup [.agg (fRepTake r x).1.res, .c (.v (.bool (fRepTake r x).2)) 1]) := by
  refine PureC.intro' tt_ok Try.func33 (by kernel_rfl) rfl rfl rfl (Nat.le_of_ble_eq_true rfl) (fun w0 base => ?_)
  have hxo := entryOk_n hx
  have hbuf : nL nPart r.buf ≤ 2 ^ 40 ∧ nL nPart r.sent ≤ 2 ^ 40 ∧ r.text.length ≤ 2 ^ 40 := by unfold nRep at hl; omega
  obtain ⟨hbuf, hsent, htext⟩ := hbuf
  simp [Rep.row, Entry.row]
  intros
  refine DrawT.quiet eok mix (by kernel_rfl) ?_
  simp
  refine ⟨_, _, specRepOk_i r (by omega), by simp [Rep.row], ?_⟩
  by_cases c1 : repOk r
  rotate_left
  · have e := fRepTake_no (r := r) (e := x) (fun h => c1 h.1)
    simp [dc_neg c1, e, Rep.res, Rep.zero]
  simp [c1]
  refine ⟨_, _, specEntryOk_c x hx, by simp [Entry.row], ?_⟩
  by_cases c2 : entryOk x
  rotate_left
  · have e := fRepTake_no (r := r) (e := x) (fun h => c2 h.2.1)
    simp [dc_neg c2, e, Rep.res, Rep.zero]
  simp [c2]
  refine ⟨_, _, specOpFrom_c x.o hxo, by simp, ?_⟩
  by_cases c3 : opFrom x.o = r.text.length
  rotate_left
  · have e := fRepTake_no (r := r) (e := x) (fun h => c3 h.2.2.2.2)
    simp [c3, e, Rep.res, Rep.zero]
  simp [c3]
  refine ACall.pure (specApply_c x.o r.text hxo htext) (by simp) ?_
  have hfit : fits3 x.o r.text := ⟨c2.2.2.1, c1.2.2.2.1, c3⟩
  have hyes := (@apply_yes x.o r.text).2 hfit
  have hack := fRepTake_ack (r := r) (e := x)
  have hmove := fRepTake_move (r := r) (e := x)
  have ht := apply_len x.o r.text
  have hall : repOk r ∧ entryOk x ∧ fits3 x.o r.text := ⟨c1, c2, hfit⟩
  generalize apply x.o r.text = A at hyes hack hmove ht ⊢
  obtain ⟨t, ok⟩ := A
  simp only at hyes hack hmove ht ⊢
  subst hyes
  simp
  intro H1
  have hrev := c1.2.2.1
  have ew : Go.IntKind.i64.wrap (r.rev + 1) = r.rev + 1 := Go.IntWalk.i64_in _ (by omega)
  refine ACall.pure (l17Copy_c r (by omega)) (by simp [Rep.row]) ?_
  simp [Rep.res, ew]
  intros
  have hcase : isAck r x ∨ r.has = false ∨ (r.has = true ∧ x.client ≠ r.client) ∨ (r.has = true ∧ x.client = r.client ∧ x.seq ≠ r.seq) := by
    by_cases h1 : r.has = true
    · by_cases h2 : x.client = r.client
      · by_cases h3 : x.seq = r.seq
        · exact .inl ⟨h1, h2, h3⟩
        · exact .inr (.inr (.inr ⟨h1, h2, h3⟩))
      · exact .inr (.inr (.inl ⟨h1, h2⟩))
    · exact .inr (.inl (by simpa using h1))
  rcases hcase with hA | hA | hA | hA
  · have hm := hack hall hA
    simp [hA.1, hA.2.1, hA.2.2]
    refine ACall.pure (specOpSame_c' x.o r.sent hxo) (by simp) ?_
    by_cases ce : x.o = r.sent
    rotate_left
    · have e := hm.2 ce
      simp [ce, e, Rep.zero]
    have e := hm.1 ce
    simp [ce]
    refine ACall.pure (specKeeping_c t.length) (by simp) ?_
    simp
    intros
    refine ACall.inline tt_ok Try.func86 (by kernel_rfl) rfl rfl rfl (Nat.le_of_ble_eq_true rfl) 20000 (fun w1 F => ?_)
    simp
    intros
    have hn2 := @ackRep_n r t ht
    refine ACall.pure (specRepOk_i (ackRep r t) (by omega)) (by simp [Rep.row, ackRep]) ?_
    by_cases h : repOk (ackRep r t)
    · rw [repOr_yes h] at e
      simp [h, e]
      simp [ackRep]
    · rw [repOr_no h] at e
      simp [dc_neg h, e, Rep.zero]
  all_goals
    have hnA : ¬ isAck r x := by
      rintro ⟨a1, a2, a3⟩
      simp_all
    have hm := hmove hall hnA
    have n1 := fTransform_n x.o r.sent
    simp [hA]
    refine ACall.pure (specTransform_i x.o r.sent hxo hsent) (by simp) ?_
    generalize fTransform x.o r.sent = T1 at hm n1 ⊢
    obtain ⟨x1, s1, j1⟩ := T1
    simp only at hm n1 ⊢
    simp
    intros
    have n2 := fTransform_n x1 r.buf
    refine ACall.pure (specTransform_i x1 r.buf (by omega) hbuf) (by simp) ?_
    generalize fTransform x1 r.buf = T2 at hm n2 ⊢
    obtain ⟨x2, s2, j2⟩ := T2
    simp only at hm n2 ⊢
    simp
    intros
    cases j1 with
    | false =>
      have e := hm.2 (by simp)
      simp [e, Rep.zero]
    | true =>
      cases j2 with
      | false =>
        have e := hm.2 (by simp)
        simp [e, Rep.zero]
      | true =>
        have e := hm.1 ⟨rfl, rfl⟩
        simp
        refine ACall.inline tt_ok Try.func86 (by kernel_rfl) rfl rfl rfl (Nat.le_of_ble_eq_true rfl) 20000 (fun w1 F => ?_)
        simp
        intros
        have hn2 := @moveRep_n r t s1 s2 ht n1.2 n2.2
        refine ACall.pure (specRepOk_i (moveRep r t s1 s2) (by omega)) (by simp [Rep.row, moveRep, hA]) ?_
        by_cases h : repOk (moveRep r t s1 s2)
        · rw [repOr_yes h] at e
          simp [h, e]
          simp [moveRep, hA]
        · rw [repOr_no h] at e
          simp [dc_neg h, e, Rep.zero]
theorem implRepTake_c (r : Rep) (_ : r.fits) (h : nRep r ≤ 2 ^ 20) (x : Entry) (_ : x.fits) (hx : nEntry x ≤ 2 ^ 20) : PureC Try.prog 35 [.agg r.row, .agg x.row] (.tup [.agg (fRepTake r x).1.res, .c (.v (.bool (fRepTake r x).2)) 1]) := implRepTake_i r (by omega) x (by omega)
theorem specRepTake_c (r : Rep) (_ : r.fits) (h : nRep r ≤ 2 ^ 20) (x : Entry) (_ : x.fits) (hx : nEntry x ≤ 2 ^ 20) : PureC Try.prog 33 [.agg r.row, .agg x.row] (.tup [.agg (fRepTake r x).1.res, .c (.v (.bool (fRepTake r x).2)) 1]) := specRepTake_i r (by omega) x (by omega)
end Go.Proofs.Ytljhopjmmcmioaa
