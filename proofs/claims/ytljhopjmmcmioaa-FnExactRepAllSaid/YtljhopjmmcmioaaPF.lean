import Derived.Test.YtljhopjmmcmioaaPD
import Derived.Test.YtljhopjmmcmioaaPE
import Derived.Test.YtljhopjmmcmioaaNA
namespace Go.Proofs.Ytljhopjmmcmioaa
open Go.AM
set_option maxRecDepth 20000
set_option maxHeartbeats 1600000

theorem dc_neg {p : Prop} (h : ¬ p) : dc p = false := by rw [dc_no]; exact h
theorem entryOk_n {e : Entry} (hl : nEntry e ≤ 2 ^ 40) : nL nPart e.o ≤ 2 ^ 40 := by unfold nEntry at hl; omega
theorem implEntryOk_c (e : Entry) (hl : nEntry e ≤ 2 ^ 40) : PureC Try.prog 96 [.agg e.row] (.one (.c (vb (entryOk e)) 1)) := by
  refine PureC.intro' tt_ok Try.func96 (by kernel_rfl) rfl rfl rfl (Nat.le_of_ble_eq_true rfl) (fun w0 base => ?_)
  simp [Entry.row]
  intros
  refine ACall.pure (within_c e.client 1 8) (by simp) ?_
  by_cases c1 : 1 ≤ e.client ∧ e.client ≤ 8
  rotate_left
  · have h : ¬ entryOk e := fun h => c1 h.1
    simp [dc_neg c1, dc_neg h]
  simp [c1]
  refine ACall.pure (within_c e.seq 1 1000000000) (by simp) ?_
  by_cases c2 : 1 ≤ e.seq ∧ e.seq ≤ 1000000000
  rotate_left
  · have h : ¬ entryOk e := fun h => c2 h.2.1
    simp [dc_neg c2, dc_neg h]
  simp [c2]
  refine ACall.pure (implIsNorm_c e.o (entryOk_n hl)) (by simp) ?_
  by_cases c3 : isNorm e.o
  · have h : entryOk e := ⟨c1, c2, c3⟩
    simp [c3, h]
  · have h : ¬ entryOk e := fun h => c3 h.2.2
    simp [dc_neg c3, dc_neg h]
theorem specEntryOk_c (e : Entry) (hl : nEntry e ≤ 2 ^ 40) : PureC Try.prog 91 [.agg e.row] (.one (.c (vb (entryOk e)) 1)) := by
  refine PureC.intro' tt_ok Try.func91 (by kernel_rfl) rfl rfl rfl (Nat.le_of_ble_eq_true rfl) (fun w0 base => ?_)
  simp [Entry.row]
  intros
  refine ACall.pure (l01In_c e.client 1 8) (by simp) ?_
  by_cases c1 : 1 ≤ e.client ∧ e.client ≤ 8
  rotate_left
  · have h : ¬ entryOk e := fun h => c1 h.1
    simp [dc_neg c1, dc_neg h]
  simp [c1]
  refine ACall.pure (l01In_c e.seq 1 1000000000) (by simp) ?_
  by_cases c2 : 1 ≤ e.seq ∧ e.seq ≤ 1000000000
  rotate_left
  · have h : ¬ entryOk e := fun h => c2 h.2.1
    simp [dc_neg c2, dc_neg h]
  simp [c2]
  refine ACall.pure (specIsNorm_c e.o (entryOk_n hl)) (by simp) ?_
  by_cases c3 : isNorm e.o
  · have h : entryOk e := ⟨c1, c2, c3⟩
    simp [c3, h]
  · have h : ¬ entryOk e := fun h => c3 h.2.2
    simp [dc_neg c3, dc_neg h]

theorem fTransform_n (a b : List Part) : nL nPart (fTransform a b).1 ≤ 2 ^ 18 ∧ nL nPart (fTransform a b).2.1 ≤ 2 ^ 18 := by
  unfold fTransform
  split
  · split
    · rename_i h; exact ⟨opOk_n h.1, opOk_n h.2⟩
    · simp [nL, sumN]
  · simp [nL, sumN]
noncomputable def ackRep (r : Rep) (t : List Int) : Rep := ⟨r.client, r.seq, r.rev + 1, t, false, keeping t.length, r.buf⟩
def moveRep (r : Rep) (t : List Int) (s b : List Part) : Rep := ⟨r.client, r.seq, r.rev + 1, t, r.has, s, b⟩
def isAck (r : Rep) (e : Entry) : Prop := r.has = true ∧ e.client = r.client ∧ e.seq = r.seq
open Classical in
noncomputable def fRepTake (r : Rep) (e : Entry) : Rep × Bool :=
  if repOk r ∧ entryOk e ∧ fits3 e.o r.text then
    if isAck r e then (if e.o = r.sent then repOr (ackRep r (apply e.o r.text).1) else (Rep.zero, false))
    else if (fTransform e.o r.sent).2.2 = true ∧ (fTransform (fTransform e.o r.sent).1 r.buf).2.2 = true then repOr (moveRep r (apply e.o r.text).1 (fTransform e.o r.sent).2.1 (fTransform (fTransform e.o r.sent).1 r.buf).2.1) else (Rep.zero, false)
  else (Rep.zero, false)
theorem fRepTake_no {r : Rep} {e : Entry} (h : ¬ (repOk r ∧ entryOk e ∧ fits3 e.o r.text)) : fRepTake r e = (Rep.zero, false) := by unfold fRepTake; rw [if_neg h]
theorem fRepTake_ack {r : Rep} {e : Entry} (h : repOk r ∧ entryOk e ∧ fits3 e.o r.text) (h2 : isAck r e) : (e.o = r.sent → fRepTake r e = repOr (ackRep r (apply e.o r.text).1)) ∧ (¬ e.o = r.sent → fRepTake r e = (Rep.zero, false)) := by
  unfold fRepTake; rw [if_pos h, if_pos h2]
  exact ⟨fun h => by rw [if_pos h], fun h => by rw [if_neg h]⟩
theorem fRepTake_move {r : Rep} {e : Entry} (h : repOk r ∧ entryOk e ∧ fits3 e.o r.text) (h2 : ¬ isAck r e) :
    ((fTransform e.o r.sent).2.2 = true ∧ (fTransform (fTransform e.o r.sent).1 r.buf).2.2 = true → fRepTake r e = repOr (moveRep r (apply e.o r.text).1 (fTransform e.o r.sent).2.1 (fTransform (fTransform e.o r.sent).1 r.buf).2.1)) ∧
    (¬ ((fTransform e.o r.sent).2.2 = true ∧ (fTransform (fTransform e.o r.sent).1 r.buf).2.2 = true) → fRepTake r e = (Rep.zero, false)) := by
  unfold fRepTake; rw [if_pos h, if_neg h2]
  exact ⟨fun h => by rw [if_pos h], fun h => by rw [if_neg h]⟩
theorem ackRep_n {r : Rep} {t : List Int} (h : t.length ≤ 2 ^ 17) : nRep (ackRep r t) ≤ nRep r + 2 ^ 18 := by
  have := keeping_n t.length
  unfold nRep ackRep
  simp only
  omega
theorem moveRep_n {r : Rep} {t : List Int} {s b : List Part} (h : t.length ≤ 2 ^ 17) (hs : nL nPart s ≤ 2 ^ 18) (hb : nL nPart b ≤ 2 ^ 18) : nRep (moveRep r t s b) ≤ 2 ^ 20 := by
  unfold nRep moveRep
  simp only
  omega
theorem fRepTake_n (r : Rep) (e : Entry) : nRep (fRepTake r e).1 ≤ nRep r + 2 ^ 20 := by
  have ht := apply_len e.o r.text
  have h1 := fTransform_n e.o r.sent
  have h2 := fTransform_n (fTransform e.o r.sent).1 r.buf
  unfold fRepTake
  split
  · split
    · split
      · exact repOr_n (by have := @ackRep_n r _ ht; omega)
      · simp [Rep.zero_n]
    · split
      · exact repOr_n (by have := @moveRep_n r _ _ _ ht h1.2 h2.2; omega)
      · simp [Rep.zero_n]
  · simp [Rep.zero_n]
theorem fRepTake_b (r : Rep) (_ : r.fits) (h : nRep r ≤ 2 ^ 20) (e : Entry) (_ : e.fits) (_ : nEntry e ≤ 2 ^ 20) : nRep (fRepTake r e).1 ≤ 2 ^ 40 := by
  have := fRepTake_n r e
  omega

theorem implRepTake_i (r : Rep) (hl : nRep r ≤ 2 ^ 28) (x : Entry) (hx : nEntry x ≤ 2 ^ 40) : PureC Try.prog 35 [.agg r.row, .agg x.row] (.tup [.agg (fRepTake r x).1.res, .c (.v (.bool (fRepTake r x).2)) 1]) := by
  refine PureC.intro' tt_ok Try.func35 (by kernel_rfl) rfl rfl rfl (Nat.le_of_ble_eq_true rfl) (fun w0 base => ?_)
  have hxo := entryOk_n hx
  have hbuf : nL nPart r.buf ≤ 2 ^ 40 ∧ nL nPart r.sent ≤ 2 ^ 40 ∧ r.text.length ≤ 2 ^ 40 := by unfold nRep at hl; omega
  obtain ⟨hbuf, hsent, htext⟩ := hbuf
  simp [Rep.row, Entry.row]
  intros
  refine ACall.pure (implRepOk_i r (by omega)) (by simp [Rep.row]) ?_
  by_cases c1 : repOk r
  rotate_left
  · have e := fRepTake_no (r := r) (e := x) (fun h => c1 h.1)
    simp [dc_neg c1, e, Rep.res, Rep.zero]
  simp [c1]
  refine ACall.pure (implEntryOk_c x hx) (by simp [Entry.row]) ?_
  by_cases c2 : entryOk x
  rotate_left
  · have e := fRepTake_no (r := r) (e := x) (fun h => c2 h.2.1)
    simp [dc_neg c2, e, Rep.res, Rep.zero]
  simp [c2]
  refine ACall.pure (implApply_c x.o r.text hxo htext) (by simp) ?_
  have hyes := @apply_yes x.o r.text
  have hno := fRepTake_no (r := r) (e := x)
  have hack := fRepTake_ack (r := r) (e := x)
  have hmove := fRepTake_move (r := r) (e := x)
  have ht := apply_len x.o r.text
  generalize apply x.o r.text = A at hyes hack hmove ht ⊢
  obtain ⟨t, ok⟩ := A
  simp only at hyes hack hmove ht ⊢
  simp
  intro H1
  cases ok with
  | false =>
    have e := hno (fun h => by have := hyes.2 h.2.2; simp at this)
    simp [e, Rep.res, Rep.zero]
  | true =>
    have hall : repOk r ∧ entryOk x ∧ fits3 x.o r.text := ⟨c1, c2, hyes.1 rfl⟩
    have hrev := c1.2.2.1
    have ew : Go.IntKind.i64.wrap (r.rev + 1) = r.rev + 1 := Go.IntWalk.i64_in _ (by omega)
    simp
    refine ACall.pure (copyRep_c r (by omega)) (by simp [Rep.row]) ?_
    simp [Rep.res, ew]
    intros
    have hcase : isAck r x ∨ r.has = false ∨ (r.has = true ∧ x.client ≠ r.client) ∨ (r.has = true ∧ x.client = r.client ∧ x.seq ≠ r.seq) := by
      by_cases h1 : r.has = true
      · by_cases h2 : x.client = r.client
        · by_cases h3 : x.seq = r.seq
          · exact .inl ⟨h1, h2, h3⟩
          · exact .inr (.inr (.inr ⟨h1, h2, h3⟩))
        · exact .inr (.inr (.inl ⟨h1, h2⟩))
      · exact .inr (.inl (by simpa using h1))
    rcases hcase with hA | hA | hA | hA
    · have hm := hack hall hA
      simp [hA.1, hA.2.1, hA.2.2]
      refine ACall.pure (implOpSame_c x.o r.sent hxo) (by simp) ?_
      by_cases ce : x.o = r.sent
      rotate_left
      · have e := hm.2 ce
        simp [ce, e, Rep.zero]
      have e := hm.1 ce
      simp [ce]
      refine ACall.pure (implKeeping_c t.length) (by simp) ?_
      simp
      intros
      refine ACall.inline tt_ok Try.func89 (by kernel_rfl) rfl rfl rfl (Nat.le_of_ble_eq_true rfl) 20000 (fun w1 F => ?_)
      simp
      intros
      have hn2 := @ackRep_n r t ht
      refine ACall.pure (implRepOk_i (ackRep r t) (by omega)) (by simp [Rep.row, ackRep]) ?_
      by_cases h : repOk (ackRep r t)
      · rw [repOr_yes h] at e
        simp [h, e]
        simp [ackRep]
      · rw [repOr_no h] at e
        simp [dc_neg h, e, Rep.zero]
    all_goals
      have hnA : ¬ isAck r x := by
        rintro ⟨a1, a2, a3⟩
        simp_all
      have hm := hmove hall hnA
      have n1 := fTransform_n x.o r.sent
      simp [hA]
      refine ACall.pure (implTransform_i x.o r.sent hxo hsent) (by simp) ?_
      generalize fTransform x.o r.sent = T1 at hm n1 ⊢
      obtain ⟨x1, s1, j1⟩ := T1
      simp only at hm n1 ⊢
      simp
      intros
      have n2 := fTransform_n x1 r.buf
      refine ACall.pure (implTransform_i x1 r.buf (by omega) hbuf) (by simp) ?_
      generalize fTransform x1 r.buf = T2 at hm n2 ⊢
      obtain ⟨x2, s2, j2⟩ := T2
      simp only at hm n2 ⊢
      simp
      intros
      cases j1 with
      | false =>
        have e := hm.2 (by simp)
        simp [e, Rep.zero]
      | true =>
        cases j2 with
        | false =>
          have e := hm.2 (by simp)
          simp [e, Rep.zero]
        | true =>
          have e := hm.1 ⟨rfl, rfl⟩
          simp
          refine ACall.inline tt_ok Try.func89 (by kernel_rfl) rfl rfl rfl (Nat.le_of_ble_eq_true rfl) 20000 (fun w1 F => ?_)
          simp
          intros
          have hn2 := @moveRep_n r t s1 s2 ht n1.2 n2.2
          refine ACall.pure (implRepOk_i (moveRep r t s1 s2) (by omega)) (by simp [Rep.row, moveRep, hA]) ?_
          by_cases h : repOk (moveRep r t s1 s2)
          · rw [repOr_yes h] at e
            simp [h, e]
            simp [moveRep, hA]
          · rw [repOr_no h] at e
            simp [dc_neg h, e, Rep.zero]
theorem specRepTake_i (r : Rep) (hl : nRep r ≤ 2 ^ 28) (x : Entry) (hx : nEntry x ≤ 2 ^ 40) : PureC Try.prog 33 [.agg r.row, .agg x.row] (.tup [.agg (fRepTake r x).1.res, .c (.v (.bool (fRepTake r x).2)) 1]) := by
  refine PureC.intro' tt_ok Try.func33 (by kernel_rfl) rfl rfl rfl (Nat.le_of_ble_eq_true rfl) (fun w0 base => ?_)
  have hxo := entryOk_n hx
  have hbuf : nL nPart r.buf ≤ 2 ^ 40 ∧ nL nPart r.sent ≤ 2 ^ 40 ∧ r.text.length ≤ 2 ^ 40 := by unfold nRep at hl; omega
  obtain ⟨hbuf, hsent, htext⟩ := hbuf
  simp [Rep.row, Entry.row]
  intros
  refine DrawT.quiet eok mix (by kernel_rfl) ?_
  simp
  refine ⟨_, _, specRepOk_i r (by omega), by simp [Rep.row], ?_⟩
  by_cases c1 : repOk r
  rotate_left
  · have e := fRepTake_no (r := r) (e := x) (fun h => c1 h.1)
    simp [dc_neg c1, e, Rep.res, Rep.zero]
  simp [c1]
  refine ⟨_, _, specEntryOk_c x hx, by simp [Entry.row], ?_⟩
  by_cases c2 : entryOk x
  rotate_left
  · have e := fRepTake_no (r := r) (e := x) (fun h => c2 h.2.1)
    simp [dc_neg c2, e, Rep.res, Rep.zero]
  simp [c2]
  refine ⟨_, _, specOpFrom_c x.o hxo, by simp, ?_⟩
  by_cases c3 : opFrom x.o = r.text.length
  rotate_left
  · have e := fRepTake_no (r := r) (e := x) (fun h => c3 h.2.2.2.2)
    simp [c3, e, Rep.res, Rep.zero]
  simp [c3]
  refine ACall.pure (specApply_c x.o r.text hxo htext) (by simp) ?_
  have hfit : fits3 x.o r.text := ⟨c2.2.2.1, c1.2.2.2.1, c3⟩
  have hyes := (@apply_yes x.o r.text).2 hfit
  have hack := fRepTake_ack (r := r) (e := x)
  have hmove := fRepTake_move (r := r) (e := x)
  have ht := apply_len x.o r.text
  have hall : repOk r ∧ entryOk x ∧ fits3 x.o r.text := ⟨c1, c2, hfit⟩
  generalize apply x.o r.text = A at hyes hack hmove ht ⊢
  obtain ⟨t, ok⟩ := A
  simp only at hyes hack hmove ht ⊢
  subst hyes
  simp
  intro H1
  have hrev := c1.2.2.1
  have ew : Go.IntKind.i64.wrap (r.rev + 1) = r.rev + 1 := Go.IntWalk.i64_in _ (by omega)
  refine ACall.pure (l17Copy_c r (by omega)) (by simp [Rep.row]) ?_
  simp [Rep.res, ew]
  intros
  have hcase : isAck r x ∨ r.has = false ∨ (r.has = true ∧ x.client ≠ r.client) ∨ (r.has = true ∧ x.client = r.client ∧ x.seq ≠ r.seq) := by
    by_cases h1 : r.has = true
    · by_cases h2 : x.client = r.client
      · by_cases h3 : x.seq = r.seq
        · exact .inl ⟨h1, h2, h3⟩
        · exact .inr (.inr (.inr ⟨h1, h2, h3⟩))
      · exact .inr (.inr (.inl ⟨h1, h2⟩))
    · exact .inr (.inl (by simpa using h1))
  rcases hcase with hA | hA | hA | hA
  · have hm := hack hall hA
    simp [hA.1, hA.2.1, hA.2.2]
    refine ACall.pure (specOpSame_c' x.o r.sent hxo) (by simp) ?_
    by_cases ce : x.o = r.sent
    rotate_left
    · have e := hm.2 ce
      simp [ce, e, Rep.zero]
    have e := hm.1 ce
    simp [ce]
    refine ACall.pure (specKeeping_c t.length) (by simp) ?_
    simp
    intros
    refine ACall.inline tt_ok Try.func86 (by kernel_rfl) rfl rfl rfl (Nat.le_of_ble_eq_true rfl) 20000 (fun w1 F => ?_)
    simp
    intros
    have hn2 := @ackRep_n r t ht
    refine ACall.pure (specRepOk_i (ackRep r t) (by omega)) (by simp [Rep.row, ackRep]) ?_
    by_cases h : repOk (ackRep r t)
    · rw [repOr_yes h] at e
      simp [h, e]
      simp [ackRep]
    · rw [repOr_no h] at e
      simp [dc_neg h, e, Rep.zero]
  all_goals
    have hnA : ¬ isAck r x := by
      rintro ⟨a1, a2, a3⟩
      simp_all
    have hm := hmove hall hnA
    have n1 := fTransform_n x.o r.sent
    simp [hA]
    refine ACall.pure (specTransform_i x.o r.sent hxo hsent) (by simp) ?_
    generalize fTransform x.o r.sent = T1 at hm n1 ⊢
    obtain ⟨x1, s1, j1⟩ := T1
    simp only at hm n1 ⊢
    simp
    intros
    have n2 := fTransform_n x1 r.buf
    refine ACall.pure (specTransform_i x1 r.buf (by omega) hbuf) (by simp) ?_
    generalize fTransform x1 r.buf = T2 at hm n2 ⊢
    obtain ⟨x2, s2, j2⟩ := T2
    simp only at hm n2 ⊢
    simp
    intros
    cases j1 with
    | false =>
      have e := hm.2 (by simp)
      simp [e, Rep.zero]
    | true =>
      cases j2 with
      | false =>
        have e := hm.2 (by simp)
        simp [e, Rep.zero]
      | true =>
        have e := hm.1 ⟨rfl, rfl⟩
        simp
        refine ACall.inline tt_ok Try.func86 (by kernel_rfl) rfl rfl rfl (Nat.le_of_ble_eq_true rfl) 20000 (fun w1 F => ?_)
        simp
        intros
        have hn2 := @moveRep_n r t s1 s2 ht n1.2 n2.2
        refine ACall.pure (specRepOk_i (moveRep r t s1 s2) (by omega)) (by simp [Rep.row, moveRep, hA]) ?_
        by_cases h : repOk (moveRep r t s1 s2)
        · rw [repOr_yes h] at e
          simp [h, e]
          simp [moveRep, hA]
        · rw [repOr_no h] at e
          simp [dc_neg h, e, Rep.zero]
theorem implRepTake_c (r : Rep) (_ : r.fits) (h : nRep r ≤ 2 ^ 20) (x : Entry) (_ : x.fits) (hx : nEntry x ≤ 2 ^ 20) : PureC Try.prog 35 [.agg r.row, .agg x.row] (.tup [.agg (fRepTake r x).1.res, .c (.v (.bool (fRepTake r x).2)) 1]) := implRepTake_i r (by omega) x (by omega)
theorem specRepTake_c (r : Rep) (_ : r.fits) (h : nRep r ≤ 2 ^ 20) (x : Entry) (_ : x.fits) (hx : nEntry x ≤ 2 ^ 20) : PureC Try.prog 33 [.agg r.row, .agg x.row] (.tup [.agg (fRepTake r x).1.res, .c (.v (.bool (fRepTake r x).2)) 1]) := specRepTake_i r (by omega) x (by omega)
end Go.Proofs.Ytljhopjmmcmioaa

namespace Go.Proofs.Ytljhopjmmcmioaa
open Go.AM
set_option maxRecDepth 20000
set_option maxHeartbeats 1600000

noncomputable def takeAll : Rep → List Entry → Option Rep
  | r, [] => some r
  | r, e :: l => if (fRepTake r e).2 = true then takeAll (fRepTake r e).1 l else none
open Classical in
noncomputable def fRepAll (r : Rep) (l : List Entry) : Rep × Bool :=
  if repOk r then match takeAll r l with
    | some x => (x, true)
    | none => (Rep.zero, false)
  else (Rep.zero, false)
theorem fRepTake_ok {r : Rep} {e : Entry} (h : (fRepTake r e).2 = true) : repOk r ∧ repOk (fRepTake r e).1 := by
  have key : ∀ x : Rep, (repOr x).2 = true → repOk (repOr x).1 := by
    intro x hx
    by_cases hr : repOk x
    · rw [repOr_yes hr]; exact hr
    · rw [repOr_no hr] at hx; simp at hx
  unfold fRepTake at h ⊢
  split
  · rename_i h1
    rw [if_pos h1] at h
    refine ⟨h1.1, ?_⟩
    split
    · rename_i h2
      rw [if_pos h2] at h
      split
      · rename_i h3; rw [if_pos h3] at h; exact key _ h
      · rename_i h3; rw [if_neg h3] at h; simp at h
    · rename_i h2
      rw [if_neg h2] at h
      split
      · rename_i h3; rw [if_pos h3] at h; exact key _ h
      · rename_i h3; rw [if_neg h3] at h; simp at h
  · rename_i h1
    rw [if_neg h1] at h; simp at h
theorem takeAll_ok : ∀ (l : List Entry) (r x : Rep), takeAll r l = some x → l = [] ∧ x = r ∨ repOk r ∧ repOk x
  | [], r, x, h => by simp [takeAll] at h; exact .inl ⟨rfl, h.symm⟩
  | e :: l, r, x, h => by
    unfold takeAll at h
    split at h
    · rename_i h1
      have h2 := fRepTake_ok h1
      rcases takeAll_ok l _ x h with ⟨-, rfl⟩ | ⟨-, h3⟩
      · exact .inr h2
      · exact .inr ⟨h2.1, h3⟩
    · simp at h
theorem textOk_len {t : List Int} (h : textOk t) : t.length ≤ 200 := h.1
theorem repOk_n {r : Rep} (h : repOk r) : nRep r ≤ 2 ^ 20 := by
  have h1 := opOk_n h.2.2.2.2.1.1
  have h2 := opOk_n h.2.2.2.2.2.1.1
  have h3 := h.2.2.2.1.1
  unfold nRep
  omega
theorem fRepAll_n (r : Rep) (l : List Entry) : nRep (fRepAll r l).1 ≤ 2 ^ 20 := by
  unfold fRepAll
  split
  · rename_i h
    split
    · rename_i x hx
      rcases takeAll_ok l r x hx with ⟨-, rfl⟩ | ⟨-, h2⟩
      · exact repOk_n h
      · exact repOk_n h2
    · simp [Rep.zero_n]
  · simp [Rep.zero_n]
theorem fRepAll_b (r : Rep) (_ : r.fits) (_ : nRep r ≤ 2 ^ 20) (l : List Entry) (_ : l.length ≤ 9223372036854775807 ∧ ∀ y ∈ l, y.fits) (_ : nL nEntry l ≤ 2 ^ 20) : nRep (fRepAll r l).1 ≤ 2 ^ 40 := by
  have := fRepAll_n r l
  omega
theorem takeAll_drop {l : List Entry} {i : Nat} {u : Rep} (h : i < l.length) : takeAll u (l.drop i) = if (fRepTake u l[i]).2 = true then takeAll (fRepTake u l[i]).1 (l.drop (i + 1)) else none := by
  rw [List.drop_eq_getElem_cons h, takeAll]
theorem takeAll_end {l : List Entry} {i : Nat} {u : Rep} (h : l.length ≤ i) : takeAll u (l.drop i) = some u := by
  rw [List.drop_eq_nil_of_le h, takeAll]

theorem implRepAll_i (r : Rep) (hl : nRep r ≤ 2 ^ 28) (l : List Entry) (hx : nL nEntry l ≤ 2 ^ 40) : PureC Try.prog 50 [.agg r.row, .c (.s (l.map Entry.row))] (.tup [.agg (fRepAll r l).1.res, .c (.v (.bool (fRepAll r l).2)) 1]) := by
  refine PureC.intro' tt_ok Try.func50 (by kernel_rfl) rfl rfl rfl (Nat.le_of_ble_eq_true rfl) (fun w0 base => ?_)
  have hle := nL_len hx
  simp [Rep.row]
  intro b2 b4
  refine ACall.pure (implRepOk_i r (by omega)) (by simp [Rep.row]) ?_
  by_cases c1 : repOk r
  rotate_left
  · have e : fRepAll r l = (Rep.zero, false) := by unfold fRepAll; rw [if_neg c1]
    simp [dc_neg c1, e, Rep.res, Rep.zero]
  have hf : fRepAll r l = match takeAll r l with
    | some x => (x, true)
    | none => (Rep.zero, false) := by unfold fRepAll; rw [if_pos c1]
  simp [c1]
  refine ACall.pure (copyRep_c r (by omega)) (by simp [Rep.row]) ?_
  simp [Rep.res]
  intro H3 H5 H6 b6
  refine LoopT.introG eok (fun x : (Nat × Rep × Nat) × Hd × Hd × Hd => (x.1.2.2 = 256 ∨ x.1.2.2 = 416) ∧ (x.1.1 ≤ l.length ∧ takeAll x.1.2.1 (l.drop x.1.1) = takeAll r l) ∧ nRep x.1.2.1 ≤ 2 ^ 28) (fun x => ⟨35, 0, [(19, .v (.int .i64 x.1.1)), (18, .v (.int .i64 l.length)), (17, .ro (l.map Entry.row)), (4, .p 64 b4 0), (6, .p 96 b6 0)],
    [(96, .vars b6 29 [.v (.int .i64 x.1.2.1.client), .v (.int .i64 x.1.2.1.seq), .v (.int .i64 x.1.2.1.rev), .sl (x.1.2.2 + 3) x.2.1 1 0 x.1.2.1.text.length, .v (.bool x.1.2.1.has), .sl (x.1.2.2 + 5) x.2.2.1 3 0 x.1.2.1.sent.length, .sl (x.1.2.2 + 6) x.2.2.2 3 0 x.1.2.1.buf.length]),
     (64, .vars b4 29 [.v (.int .i64 0), .v (.int .i64 0), .v (.int .i64 0), .nil, .v (.bool false), .nil, .nil]),
     (x.1.2.2 + 3, .rows x.2.1 1 (x.1.2.1.text.map intR) true), (x.1.2.2 + 5, .rows x.2.2.1 3 (x.1.2.1.sent.map Part.row) true), (x.1.2.2 + 6, .rows x.2.2.2 3 (x.1.2.1.buf.map Part.row) true)]⟩) (fun x => l.length - x.1.1) ((0, r, 256), H3, H5, H6) (by simp; omega) (by simp) (fun x hx => Ent.refl ?_)
  obtain ⟨⟨i, u, k⟩, G3, G5, G6⟩ := x
  obtain ⟨hk, ⟨hi, hu⟩, hn⟩ := hx
  simp only at hk hi hu hn ⊢
  by_cases hlt : i < l.length
  · have hm := nL_at hx hlt
    rw [takeAll_drop hlt] at hu
    have hn2 := fRepTake_n u l[i]
    have hok := fRepTake_ok (r := u) (e := l[i])
    rcases hk with rfl | rfl
    all_goals
      simp [hlt, Entry.row]
      intro b8
      refine ACall.pure (implRepTake_i u hn l[i] hm) (by simp [Rep.row, Entry.row]) ?_
      generalize fRepTake u l[i] = T at hu hn2 hok ⊢
      obtain ⟨v, ok⟩ := T
      simp only at hu hn2 hok ⊢
      simp [Rep.res]
      intro K3 K5 K6 b9
      cases ok with
      | false =>
        simp only [Bool.false_eq_true, if_false] at hu
        rw [← hu] at hf
        simp only at hf
        simp [hf, Rep.zero]
      | true =>
        simp only [if_true] at hu
        have hv := repOk_n (hok rfl).2
        simp
        refine Ent.refl ⟨i + 1, v, 416, ⟨.inr rfl, ⟨by omega, hu⟩, by omega⟩, by omega, K3, K5, K6, ?_⟩
        simp
        exact i64_suc (by omega)
  · rw [takeAll_end (by omega)] at hu
    rw [← hu] at hf
    simp only at hf
    rcases hk with rfl | rfl
    all_goals
      simp [hlt]
      simp [hf]
theorem specRepAll_i (r : Rep) (hl : nRep r ≤ 2 ^ 28) (l : List Entry) (hx : nL nEntry l ≤ 2 ^ 40) : PureC Try.prog 48 [.agg r.row, .c (.s (l.map Entry.row))] (.tup [.agg (fRepAll r l).1.res, .c (.v (.bool (fRepAll r l).2)) 1]) := by
  refine PureC.intro' tt_ok Try.func48 (by kernel_rfl) rfl rfl rfl (Nat.le_of_ble_eq_true rfl) (fun w0 base => ?_)
  have hle := nL_len hx
  have hno : takeAll r l = none → fRepAll r l = (Rep.zero, false) := by
    intro h
    unfold fRepAll
    rw [h]
    split <;> rfl
  have hyes : ∀ u, takeAll r l = some u → fRepAll r l = repOr u := by
    intro u h
    unfold fRepAll
    rw [h]
    rcases takeAll_ok l r u h with ⟨-, rfl⟩ | ⟨h1, h2⟩
    · rfl
    · rw [if_pos h1, repOr_yes h2]
  simp [Rep.row]
  intro b2 b4
  refine ACall.pure (l17Copy_c r (by omega)) (by simp [Rep.row]) ?_
  simp [Rep.res]
  intro H3 H5 H6 b6
  refine LoopT.introG eok (fun x : (Nat × Rep × Nat) × Hd × Hd × Hd => (x.1.2.2 = 192 ∨ x.1.2.2 = 352) ∧ (x.1.1 ≤ l.length ∧ takeAll x.1.2.1 (l.drop x.1.1) = takeAll r l) ∧ nRep x.1.2.1 ≤ 2 ^ 28) (fun x => ⟨34, 0, [(15, .v (.int .i64 x.1.1)), (14, .v (.int .i64 l.length)), (13, .ro (l.map Entry.row)), (4, .p 64 b4 0), (6, .p 96 b6 0)],
    [(96, .vars b6 29 [.v (.int .i64 x.1.2.1.client), .v (.int .i64 x.1.2.1.seq), .v (.int .i64 x.1.2.1.rev), .sl (x.1.2.2 + 3) x.2.1 1 0 x.1.2.1.text.length, .v (.bool x.1.2.1.has), .sl (x.1.2.2 + 5) x.2.2.1 3 0 x.1.2.1.sent.length, .sl (x.1.2.2 + 6) x.2.2.2 3 0 x.1.2.1.buf.length]),
     (64, .vars b4 29 [.v (.int .i64 0), .v (.int .i64 0), .v (.int .i64 0), .nil, .v (.bool false), .nil, .nil]),
     (x.1.2.2 + 3, .rows x.2.1 1 (x.1.2.1.text.map intR) true), (x.1.2.2 + 5, .rows x.2.2.1 3 (x.1.2.1.sent.map Part.row) true), (x.1.2.2 + 6, .rows x.2.2.2 3 (x.1.2.1.buf.map Part.row) true)]⟩) (fun x => l.length - x.1.1) ((0, r, 192), H3, H5, H6) (by simp; omega) (by simp) (fun x hx => Ent.refl ?_)
  obtain ⟨⟨i, u, k⟩, G3, G5, G6⟩ := x
  obtain ⟨hk, ⟨hi, hu⟩, hn⟩ := hx
  simp only at hk hi hu hn ⊢
  by_cases hlt : i < l.length
  · have hm := nL_at hx hlt
    rw [takeAll_drop hlt] at hu
    have hn2 := fRepTake_n u l[i]
    have hok := fRepTake_ok (r := u) (e := l[i])
    rcases hk with rfl | rfl
    all_goals
      simp [hlt, Entry.row]
      intro b8
      refine ACall.pure (specRepTake_i u hn l[i] hm) (by simp [Rep.row, Entry.row]) ?_
      generalize fRepTake u l[i] = T at hu hn2 hok ⊢
      obtain ⟨v, ok⟩ := T
      simp only at hu hn2 hok ⊢
      simp [Rep.res]
      intro K3 K5 K6 b9
      cases ok with
      | false =>
        simp only [Bool.false_eq_true, if_false] at hu
        have hf := hno hu.symm
        simp [hf, Rep.zero]
      | true =>
        simp only [if_true] at hu
        have hv := repOk_n (hok rfl).2
        simp
        refine Ent.refl ⟨i + 1, v, 352, ⟨.inr rfl, ⟨by omega, hu⟩, by omega⟩, by omega, K3, K5, K6, ?_⟩
        simp
        exact i64_suc (by omega)
  · rw [takeAll_end (by omega)] at hu
    rcases hk with rfl | rfl
    all_goals
      simp [hlt]
      refine ACall.inline tt_ok Try.func86 (by kernel_rfl) rfl rfl rfl (Nat.le_of_ble_eq_true rfl) 20000 (fun w1 F => ?_)
      simp
      intros
      refine ACall.pure (specRepOk_i u (by omega)) (by simp [Rep.row]) ?_
      have hf := hyes u hu.symm
      by_cases h : repOk u
      · rw [repOr_yes h] at hf
        simp [h, hf]
      · rw [repOr_no h] at hf
        simp [dc_neg h, hf, Rep.zero]
theorem implRepAll_c (r : Rep) (_ : r.fits) (h : nRep r ≤ 2 ^ 20) (l : List Entry) (_ : l.length ≤ 9223372036854775807 ∧ ∀ y ∈ l, y.fits) (hx : nL nEntry l ≤ 2 ^ 20) : PureC Try.prog 50 [.agg r.row, .c (.s (l.map Entry.row))] (.tup [.agg (fRepAll r l).1.res, .c (.v (.bool (fRepAll r l).2)) 1]) := implRepAll_i r (by omega) l (by omega)
theorem specRepAll_c (r : Rep) (_ : r.fits) (h : nRep r ≤ 2 ^ 20) (l : List Entry) (_ : l.length ≤ 9223372036854775807 ∧ ∀ y ∈ l, y.fits) (hx : nL nEntry l ≤ 2 ^ 20) : PureC Try.prog 48 [.agg r.row, .c (.s (l.map Entry.row))] (.tup [.agg (fRepAll r l).1.res, .c (.v (.bool (fRepAll r l).2)) 1]) := specRepAll_i r (by omega) l (by omega)
end Go.Proofs.Ytljhopjmmcmioaa

