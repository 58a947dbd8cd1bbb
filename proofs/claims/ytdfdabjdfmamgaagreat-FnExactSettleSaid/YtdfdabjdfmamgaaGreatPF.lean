import Derived.Test.YtdfdabjdfmamgaaGreatPE
import Derived.Test.YtdfdabjdfmamgaaGreatPC
import Derived.Test.YtdfdabjdfmamgaaGreatPD
import Derived.Test.YtdfdabjdfmamgaaGreatNA
import Derived.Test.YtdfdabjdfmamgaaGreatMF
namespace Go.Proofs.YtdfdabjdfmamgaaGreat
open Go.AM
set_option maxRecDepth 20000
set_option maxHeartbeats 1600000
noncomputable def takeAll : Rep → List Entry → Option Rep
  | r, [] => some r
  | r, e :: l => if (fRepTake r e).2 = true then takeAll (fRepTake r e).1 l else none
open Classical in
noncomputable def fRepAll (r : Rep) (l : List Entry) : Rep × Bool :=
  if repOk r then match takeAll r l with
    | some x => (x, true)
    | none => (Rep.zero, false)
  else (Rep.zero, false)
theorem fRepTake_ok {r : Rep} {e : Entry} (h : (fRepTake r e).2 = true) : repOk r ∧ repOk (fRepTake r e).1 := by
  have key : ∀ x : Rep, (repOr x).2 = true → repOk (repOr x).1 := by
    intro x hx
    by_cases hr : repOk x
    · rw [repOr_yes hr]; exact hr
    · rw [repOr_no hr] at hx; simp at hx
  unfold fRepTake at h ⊢
  split
  · rename_i h1
    rw [if_pos h1] at h
    refine ⟨h1.1, ?_⟩
    split
    · rename_i h2
      rw [if_pos h2] at h
      split
      · rename_i h3; rw [if_pos h3] at h; exact key _ h
      · rename_i h3; rw [if_neg h3] at h; simp at h
    · rename_i h2
      rw [if_neg h2] at h
      split
      · rename_i h3; rw [if_pos h3] at h; exact key _ h
      · rename_i h3; rw [if_neg h3] at h; simp at h
  · rename_i h1
    rw [if_neg h1] at h; simp at h
theorem takeAll_ok : ∀ (l : List Entry) (r x : Rep), takeAll r l = some x → l = [] ∧ x = r ∨ repOk r ∧ repOk x
  | [], r, x, h => by simp [takeAll] at h; exact .inl ⟨rfl, h.symm⟩
  | e :: l, r, x, h => by
    unfold takeAll at h
    split at h
    · rename_i h1
      have h2 := fRepTake_ok h1
      rcases takeAll_ok l _ x h with ⟨-, rfl⟩ | ⟨-, h3⟩
      · exact .inr h2
      · exact .inr ⟨h2.1, h3⟩
    · simp at h
theorem repOk_n {r : Rep} (h : repOk r) : nRep r ≤ 2 ^ 20 := by
  have h1 := opOk_n h.2.2.2.2.1.1
  have h2 := opOk_n h.2.2.2.2.2.1.1
  have h3 := h.2.2.2.1.1
  unfold nRep
  omega
theorem fRepAll_n (r : Rep) (l : List Entry) : nRep (fRepAll r l).1 ≤ 2 ^ 20 := by
  unfold fRepAll
  split
  · rename_i h
    split
    · rename_i x hx
      rcases takeAll_ok l r x hx with ⟨-, rfl⟩ | ⟨-, h2⟩
      · exact repOk_n h
      · exact repOk_n h2
    · simp [Rep.zero_n]
  · simp [Rep.zero_n]
theorem takeAll_drop {l : List Entry} {i : Nat} {u : Rep} (h : i < l.length) : takeAll u (l.drop i) = if (fRepTake u l[i]).2 = true then takeAll (fRepTake u l[i]).1 (l.drop (i + 1)) else none := by
  rw [List.drop_eq_getElem_cons h, takeAll]
theorem takeAll_end {l : List Entry} {i : Nat} {u : Rep} (h : l.length ≤ i) : takeAll u (l.drop i) = some u := by
  rw [List.drop_eq_nil_of_le h, takeAll]
theorem implRepAll_i (r : Rep) (hl : nRep r ≤ 2 ^ 28) (l : List Entry) (hx : nL nEntry l ≤ 2 ^ 40) : PureC Tryz.prog 249 [.agg r.row, .c (.s (l.map Entry.row))] (.tup [.agg (fRepAll r l).1.res, .c (.v (.bool (fRepAll r l).2)) 1]) := by
  refine PureC.intro' tt_ok Tryz.func249 (by kernel_rfl) rfl rfl rfl (Nat.le_of_ble_eq_true rfl) (fun w0 base => ?_)
  have hle := nL_len hx
  simp [Rep.row]
  intro b2 b4
  refine ACall.pure (implRepOk_i r (by omega)) (by simp [Rep.row]) ?_
  by_cases c1 : repOk r
  rotate_left
  · have e : fRepAll r l = (Rep.zero, false) := by unfold fRepAll; rw [if_neg c1]
    simp [dc_neg c1, e, Rep.res, Rep.zero]
  have hf : fRepAll r l = match takeAll r l with
    | some x => (x, true)
    | none => (Rep.zero, false) := by unfold fRepAll; rw [if_pos c1]
  simp [c1]
  refine ACall.pure (copyRep_c r (by omega)) (by simp [Rep.row]) ?_
  simp [Rep.res]
  intro H3 H5 H6 b6
  refine LoopT.introG eok (fun x : (Nat × Rep × Nat) × Hd × Hd × Hd => (x.1.2.2 = 256 ∨ x.1.2.2 = 416) ∧ (x.1.1 ≤ l.length ∧ takeAll x.1.2.1 (l.drop x.1.1) = takeAll r l) ∧ nRep x.1.2.1 ≤ 2 ^ 28) (fun x => ⟨35, 0, [(19, .v (.int .i64 x.1.1)), (18, .v (.int .i64 l.length)), (17, .ro (l.map Entry.row)), (4, .p 64 b4 0), (6, .p 96 b6 0)],
    [(96, .vars b6 130 [.v (.int .i64 x.1.2.1.client), .v (.int .i64 x.1.2.1.seq), .v (.int .i64 x.1.2.1.rev), .sl (x.1.2.2 + 3) x.2.1 1 0 x.1.2.1.text.length, .v (.bool x.1.2.1.has), .sl (x.1.2.2 + 5) x.2.2.1 3 0 x.1.2.1.sent.length, .sl (x.1.2.2 + 6) x.2.2.2 3 0 x.1.2.1.buf.length]),
     (64, .vars b4 130 [.v (.int .i64 0), .v (.int .i64 0), .v (.int .i64 0), .nil, .v (.bool false), .nil, .nil]),
     (x.1.2.2 + 3, .rows x.2.1 1 (x.1.2.1.text.map intR) true), (x.1.2.2 + 5, .rows x.2.2.1 3 (x.1.2.1.sent.map Part.row) true), (x.1.2.2 + 6, .rows x.2.2.2 3 (x.1.2.1.buf.map Part.row) true)]⟩) (fun x => l.length - x.1.1) ((0, r, 256), H3, H5, H6) (by simp; omega) (by simp) (fun x hx => Ent.refl ?_)
  obtain ⟨⟨i, u, k⟩, G3, G5, G6⟩ := x
  obtain ⟨hk, ⟨hi, hu⟩, hn⟩ := hx
  simp only at hk hi hu hn ⊢
  by_cases hlt : i < l.length
  · have hm := nL_at hx hlt
    rw [takeAll_drop hlt] at hu
    have hn2 := fRepTake_n u l[i]
    have hok := fRepTake_ok (r := u) (e := l[i])
    rcases hk with rfl | rfl
    all_goals
      simp [hlt, Entry.row]
      intro b8
      refine ACall.pure (implRepTake_i u hn l[i] hm) (by simp [Rep.row, Entry.row]) ?_
      generalize fRepTake u l[i] = T at hu hn2 hok ⊢
      obtain ⟨v, ok⟩ := T
      simp only at hu hn2 hok ⊢
      simp [Rep.res]
      intro K3 K5 K6 b9
      cases ok with
      | false =>
        simp only [Bool.false_eq_true, if_false] at hu
        rw [← hu] at hf
        simp only at hf
        simp [hf, Rep.zero]
      | true =>
        simp only [if_true] at hu
        have hv := repOk_n (hok rfl).2
        simp
        refine Ent.refl ⟨i + 1, v, 416, ⟨.inr rfl, ⟨by omega, hu⟩, by omega⟩, by omega, K3, K5, K6, ?_⟩
        simp
        exact i64_suc (by omega)
  · rw [takeAll_end (by omega)] at hu
    rw [← hu] at hf
    simp only at hf
    rcases hk with rfl | rfl
    all_goals
      simp [hlt]
      simp [hf]
theorem specRepAll_i (r : Rep) (hl : nRep r ≤ 2 ^ 28) (l : List Entry) (hx : nL nEntry l ≤ 2 ^ 40) : PureC Tryz.prog 239 [.agg r.row, .c (.s (l.map Entry.row))] (.tup [.agg (fRepAll r l).1.res, .c (.v (.bool (fRepAll r l).2)) 1]) := by
  refine PureC.intro' tt_ok Tryz.func239 (by kernel_rfl) rfl rfl rfl (Nat.le_of_ble_eq_true rfl) (fun w0 base => ?_)
  have hle := nL_len hx
  have hno : takeAll r l = none → fRepAll r l = (Rep.zero, false) := by
    intro h
    unfold fRepAll
    rw [h]
    split <;> rfl
  have hyes : ∀ u, takeAll r l = some u → fRepAll r l = repOr u := by
    intro u h
    unfold fRepAll
    rw [h]
    rcases takeAll_ok l r u h with ⟨-, rfl⟩ | ⟨h1, h2⟩
    · rfl
    · rw [if_pos h1, repOr_yes h2]
  simp [Rep.row]
  intro b2 b4
  refine ACall.pure (l17Copy_c r (by omega)) (by simp [Rep.row]) ?_
  simp [Rep.res]
  intro H3 H5 H6 b6
  refine LoopT.introG eok (fun x : (Nat × Rep × Nat) × Hd × Hd × Hd => (x.1.2.2 = 192 ∨ x.1.2.2 = 352) ∧ (x.1.1 ≤ l.length ∧ takeAll x.1.2.1 (l.drop x.1.1) = takeAll r l) ∧ nRep x.1.2.1 ≤ 2 ^ 28) (fun x => ⟨34, 0, [(15, .v (.int .i64 x.1.1)), (14, .v (.int .i64 l.length)), (13, .ro (l.map Entry.row)), (4, .p 64 b4 0), (6, .p 96 b6 0)],
    [(96, .vars b6 130 [.v (.int .i64 x.1.2.1.client), .v (.int .i64 x.1.2.1.seq), .v (.int .i64 x.1.2.1.rev), .sl (x.1.2.2 + 3) x.2.1 1 0 x.1.2.1.text.length, .v (.bool x.1.2.1.has), .sl (x.1.2.2 + 5) x.2.2.1 3 0 x.1.2.1.sent.length, .sl (x.1.2.2 + 6) x.2.2.2 3 0 x.1.2.1.buf.length]),
     (64, .vars b4 130 [.v (.int .i64 0), .v (.int .i64 0), .v (.int .i64 0), .nil, .v (.bool false), .nil, .nil]),
     (x.1.2.2 + 3, .rows x.2.1 1 (x.1.2.1.text.map intR) true), (x.1.2.2 + 5, .rows x.2.2.1 3 (x.1.2.1.sent.map Part.row) true), (x.1.2.2 + 6, .rows x.2.2.2 3 (x.1.2.1.buf.map Part.row) true)]⟩) (fun x => l.length - x.1.1) ((0, r, 192), H3, H5, H6) (by simp; omega) (by simp) (fun x hx => Ent.refl ?_)
  obtain ⟨⟨i, u, k⟩, G3, G5, G6⟩ := x
  obtain ⟨hk, ⟨hi, hu⟩, hn⟩ := hx
  simp only at hk hi hu hn ⊢
  by_cases hlt : i < l.length
  · have hm := nL_at hx hlt
    rw [takeAll_drop hlt] at hu
    have hn2 := fRepTake_n u l[i]
    have hok := fRepTake_ok (r := u) (e := l[i])
    rcases hk with rfl | rfl
    all_goals
      simp [hlt, Entry.row]
      intro b8
      refine ACall.pure (specRepTake_i u hn l[i] hm) (by simp [Rep.row, Entry.row]) ?_
      generalize fRepTake u l[i] = T at hu hn2 hok ⊢
      obtain ⟨v, ok⟩ := T
      simp only at hu hn2 hok ⊢
      simp [Rep.res]
      intro K3 K5 K6 b9
      cases ok with
      | false =>
        simp only [Bool.false_eq_true, if_false] at hu
        have hf := hno hu.symm
        simp [hf, Rep.zero]
      | true =>
        simp only [if_true] at hu
        have hv := repOk_n (hok rfl).2
        simp
        refine Ent.refl ⟨i + 1, v, 352, ⟨.inr rfl, ⟨by omega, hu⟩, by omega⟩, by omega, K3, K5, K6, ?_⟩
        simp
        exact i64_suc (by omega)
  · rw [takeAll_end (by omega)] at hu
    rcases hk with rfl | rfl
    all_goals
      simp [hlt]
      refine ACall.inline tt_ok Tryz.func232 (by kernel_rfl) rfl rfl rfl (Nat.le_of_ble_eq_true rfl) 20000 (fun w1 F => ?_)
      simp
      intros
      refine ACall.pure (specRepOk_i u (by omega)) (by simp [Rep.row]) ?_
      have hf := hyes u hu.symm
      by_cases h : repOk u
      · rw [repOr_yes h] at hf
        simp [h, hf]
      · rw [repOr_no h] at hf
        simp [dc_neg h, hf, Rep.zero]
end Go.Proofs.YtdfdabjdfmamgaaGreat

namespace Go.Proofs.YtdfdabjdfmamgaaGreat
open Go.AM
set_option maxRecDepth 20000
open Classical in
noncomputable def fRepResend (r : Rep) : Call × Bool := if repOk r ∧ r.has = true then (submit r, true) else (Call.zero, false)
theorem implRepResend_i (r : Rep) (hl : nRep r ≤ 2 ^ 20) : PureC Tryz.prog 153 [.agg r.row] (.tup [.agg (fRepResend r).1.res, .c (.v (.bool (fRepResend r).2)) 1]) := by
  refine PureC.intro' tt_ok Tryz.func153 (by kernel_rfl) rfl rfl rfl (Nat.le_of_ble_eq_true rfl) (fun w0 base => ?_)
  simp [Rep.row]
  intros
  refine ACall.pure (implRepOk_i r (by omega)) (by simp [Rep.row]) ?_
  by_cases c1 : repOk r
  rotate_left
  · have e : fRepResend r = (Call.zero, false) := by unfold fRepResend; rw [if_neg (fun h => c1 h.1)]
    have e2 : dc (repOk r) = false := by rw [dc_no]; exact c1
    simp [e2, e, Call.res, Call.zero]
  simp [c1]
  cases ch : r.has
  · have e : fRepResend r = (Call.zero, false) := by unfold fRepResend; rw [if_neg (fun h => by rw [ch] at h; simp at h)]
    simp [e, Call.res, Call.zero]
  · have e : fRepResend r = (submit r, true) := by unfold fRepResend; rw [if_pos ⟨c1, ch⟩]
    simp
    refine ACall.pure (submitOf_c r (by omega)) (by simp [Rep.row, ch]) ?_
    simp [e, Call.res, submit]
theorem specRepResend_i (r : Rep) (hl : nRep r ≤ 2 ^ 20) : PureC Tryz.prog 144 [.agg r.row] (.tup [.agg (fRepResend r).1.res, .c (.v (.bool (fRepResend r).2)) 1]) := by
  refine PureC.intro' tt_ok Tryz.func144 (by kernel_rfl) rfl rfl rfl (Nat.le_of_ble_eq_true rfl) (fun w0 base => ?_)
  simp [Rep.row]
  intros
  refine ACall.pure (specRepOk_i r (by omega)) (by simp [Rep.row]) ?_
  by_cases c1 : repOk r
  rotate_left
  · have e : fRepResend r = (Call.zero, false) := by unfold fRepResend; rw [if_neg (fun h => c1 h.1)]
    have e2 : dc (repOk r) = false := by rw [dc_no]; exact c1
    simp [e2, e, Call.res, Call.zero]
  simp [c1]
  cases ch : r.has
  · have e : fRepResend r = (Call.zero, false) := by unfold fRepResend; rw [if_neg (fun h => by rw [ch] at h; simp at h)]
    simp [e, Call.res, Call.zero]
  · have e : fRepResend r = (submit r, true) := by unfold fRepResend; rw [if_pos ⟨c1, ch⟩]
    simp
    refine ACall.pure (l17Call_c r (by omega)) (by simp [Rep.row, ch]) ?_
    simp [e, Call.res, submit]
end Go.Proofs.YtdfdabjdfmamgaaGreat

namespace Go.Proofs.YtdfdabjdfmamgaaGreat
open Go.AM
set_option maxRecDepth 20000
set_option maxHeartbeats 1600000
def nameAt (s : ByteArray) (i : Nat) : Prop := ∀ h : i < s.size, 97 ≤ s[i].toNat ∧ s[i].toNat ≤ 122
theorem nDoc_list {d : Doc} {B : Nat} (h : nDoc d ≤ B) : nL nEntry d.list ≤ B ∧ d.text.length ≤ B ∧ d.name.size ≤ B ∧ d.seen.length ≤ B := by unfold nDoc at h; omega
def seenAt (d : Doc) (i : Nat) : Prop := ∀ h : i < d.seen.length, (1 ≤ d.seen[i].client ∧ d.seen[i].client ≤ 8) ∧ (1 ≤ d.seen[i].seq ∧ d.seen[i].seq ≤ 1000000000) ∧ (1 ≤ d.seen[i].rev ∧ d.seen[i].rev ≤ headRev d) ∧ (∀ h0 : 0 < i, d.seen[i - 1].client < d.seen[i].client)
theorem applyAll_some {l : List (List Part)} {t : List Int} (h : textOk t) : (applyAll l t).2 = true ↔ (applyFrom l t).isSome = true := by
  unfold applyAll
  rw [if_pos h]
  cases applyFrom l t <;> simp
theorem docOk_head {d : Doc} (h : docOk d) : headRev d = d.fr + d.list.length ∧ 0 ≤ d.fr ∧ d.fr ≤ 999999000 ∧ d.list.length ≤ 8 := by
  have h1 := h.2.1
  have h2 := h.2.2.2.1
  refine ⟨?_, h1.1, h1.2, h2⟩
  unfold headRev
  rw [Go.IntWalk.i64_in _ (by omega)]
theorem textAt_no {d : Doc} {rev : Int} (h : ¬ (docOk d ∧ d.fr ≤ rev ∧ rev ≤ headRev d)) : textAt d rev = ([], false) := by unfold textAt; rw [if_neg h]
theorem textAt_yes {d : Doc} {rev : Int} (h : docOk d ∧ d.fr ≤ rev ∧ rev ≤ headRev d) : textAt d rev = applyAll ((d.list.take (rev - d.fr).toNat).map Entry.o) d.text := by unfold textAt; rw [if_pos h]
theorem docOk_ops {d : Doc} (n1 : nL nEntry d.list ≤ 2 ^ 30) {o : List Part} {l : List Entry} (hl : ∀ e ∈ l, e ∈ d.list) (ho : o ∈ l.map Entry.o) : nL nPart o ≤ 2 ^ 30 := by
  rw [List.mem_map] at ho
  obtain ⟨e, he, rfl⟩ := ho
  have := nL_mem n1 (hl e he)
  unfold nEntry at this
  omega
theorem sumN_take {α : Type} {f : α → Nat} : ∀ (l : List α) (k : Nat), sumN f (l.take k) ≤ sumN f l
  | [], k => by simp [sumN]
  | a :: l, 0 => by simp [sumN]
  | a :: l, k + 1 => by have := sumN_take l k (f := f); simp only [List.take_succ_cons, sumN]; omega
theorem nL_take {α : Type} {f : α → Nat} {l : List α} {k B : Nat} (h : nL f l ≤ B) : nL f (l.take k) ≤ B := by
  have := sumN_take l k (f := f)
  unfold nL at h ⊢
  simp
  omega
theorem applyFrom_take {t : List Int} : ∀ (l : List (List Part)) (t : List Int) (k : Nat), (applyFrom l t).isSome = true → (applyFrom (l.take k) t).isSome = true
  | [], t, k, h => by simpa using h
  | o :: l, t, 0, h => by simp [applyFrom]
  | o :: l, t, k + 1, h => by
    rw [applyFrom] at h
    rw [List.take_succ_cons, applyFrom]
    split at h
    · rename_i hh; rw [if_pos hh]; exact applyFrom_take (t := t) l _ k h
    · simp at h
theorem applyAll_of {l : List (List Part)} {t u : List Int} (ht : textOk t) (h : applyFrom l t = some u) : applyAll l t = (u, true) := by
  unfold applyAll
  rw [if_pos ht, h]
theorem seenOf_cases (d : Doc) (c : Int) : (∃ i, ∃ h : i < d.seen.length, d.seen[i].client = c ∧ (∀ j, j < i → ∀ hj : j < d.seen.length, d.seen[j].client ≠ c) ∧ seenOf d c = (d.seen[i], true)) ∨ ((∀ j, ∀ hj : j < d.seen.length, d.seen[j].client ≠ c) ∧ seenOf d c = (⟨0, 0, 0⟩, false)) := by
  unfold seenOf
  cases h : d.seen.find? (fun s => decide (s.client = c)) with
  | none =>
    right
    rw [List.find?_eq_none] at h
    exact ⟨fun j hj => by have := h _ (List.getElem_mem hj); simpa using this, rfl⟩
  | some s =>
    left
    rw [List.find?_eq_some_iff_getElem] at h
    obtain ⟨h1, i, hi, h2, h3⟩ := h
    refine ⟨i, hi, by rw [h2]; simpa using h1, fun j hj hjl => by have := h3 j hj; simpa using this, by rw [h2]⟩
theorem seenOf_b {d : Doc} (h : docOk d) (c : Int) : 0 ≤ (seenOf d c).1.seq ∧ (seenOf d c).1.seq ≤ 1000000000 ∧ 0 ≤ (seenOf d c).1.rev ∧ (seenOf d c).1.rev ≤ headRev d := by
  have hh := docOk_head h
  rcases seenOf_cases d c with ⟨i, hi, -, -, e⟩ | ⟨-, e⟩
  · rw [e]
    have := h.2.2.2.2.2.2 i hi
    simp only
    omega
  · rw [e]
    simp only
    omega
def seqOk (r : Rep) (s : Seen) : Prop := if r.seq = s.seq then ¬ (r.has = true ∧ s.rev ≤ r.rev) else r.has = true ∧ r.seq = s.seq + 1
def repAt (d : Doc) (i : Nat) (r : Rep) : Prop := repOk r ∧ r.client = i + 1 ∧ r.rev ≤ headRev d ∧ ((textAt d r.rev).2 = true → (textAt d r.rev).1 = r.text) ∧ seqOk r (seenOf d r.client).1
def netOk (n : Net) : Prop := docOk n.d ∧ (1 ≤ n.reps.length ∧ n.reps.length ≤ 4) ∧ ∀ i, ∀ h : i < n.reps.length, repAt n.d i n.reps[i]
theorem textAt_len (d : Doc) (rev : Int) : (textAt d rev).1.length ≤ 2 ^ 30 := by
  by_cases h : docOk d ∧ d.fr ≤ rev ∧ rev ≤ headRev d
  · rw [textAt_yes h]
    unfold applyAll
    split
    · split
      · rename_i u hu
        have key : ∀ (l : List (List Part)) (t : List Int), t.length ≤ 2 ^ 30 → ∀ u, applyFrom l t = some u → u.length ≤ 2 ^ 30 := by
          intro l
          induction l with
          | nil => intro t ht u hu; simp [applyFrom] at hu; subst hu; exact ht
          | cons o l ih =>
            intro t ht u hu
            rw [applyFrom] at hu
            split at hu
            · exact ih _ (by have := apply_len o t; omega) u hu
            · simp at hu
        exact key _ _ (by have := h.1.2.2.1.1; omega) _ hu
      · simp
    · simp
  · rw [textAt_no h]; simp
def Doc.zero : Doc := ⟨⟨#[]⟩, 0, [], [], []⟩
def Net.zero : Net := ⟨Doc.zero, []⟩
theorem Doc.zero_n : nDoc Doc.zero = 0 := rfl
theorem Net.zero_n : nNet Net.zero = 0 := rfl
theorem fRepNew_n (a b c : Int) (t : List Int) : nRep (fRepNew a b c t).1 ≤ t.length + 2 := by
  unfold fRepNew
  exact repOr_n (repNew0_n a b c t)
end Go.Proofs.YtdfdabjdfmamgaaGreat

namespace Go.Proofs.YtdfdabjdfmamgaaGreat
open Go.AM
set_option maxRecDepth 20000
def netRest (n : Net) : Prop := ∀ r ∈ n.reps, repClean r ∧ r.rev = headRev n.d
theorem specHeadRev_c (d : Doc) : PureC Tryz.prog 148 [.agg d.row] (.one (.c (vi (headRev d)) 1)) := by
  refine PureC.intro' tt_ok Tryz.func148 (by kernel_rfl) rfl rfl rfl (Nat.le_of_ble_eq_true rfl) (fun w0 base => ?_)
  simp [Doc.row, headRev]
theorem specNetRest_i (n : Net) (hl : nNet n ≤ 2 ^ 40) : PureC Tryz.prog 162 [.agg n.row] (.one (.c (vb (netRest n)) 1)) := by
  refine PureC.intro' tt_ok Tryz.func162 (by kernel_rfl) rfl rfl rfl (Nat.le_of_ble_eq_true rfl) (fun w0 base => ?_)
  obtain ⟨d, l⟩ := n
  unfold nNet at hl
  simp only at hl
  have hle := nL_len (f := nRep) (B := 2 ^ 40) (l := l) (by omega)
  simp [Net.row]
  intro b1
  refine LoopT.intro eok (fun i : Nat => i ≤ l.length ∧ ∀ r ∈ l.take i, repClean r ∧ r.rev = headRev d) (fun i => ⟨24, 0, [(1, .p 16 b1 0), (8, .v (.int .i64 i)), (7, .v (.int .i64 l.length)), (6, .ro (l.map Rep.row))],
    [(16, .vars b1 38 [.v (.string d.name), .v (.int .i64 d.fr), .ro (d.text.map intR), .ro (d.list.map Entry.row), .ro (d.seen.map Seen.row), .ro (l.map Rep.row)])]⟩) (fun i => l.length - i) 0 (by simp) (by simp) (fun i hi => ?_)
  by_cases hlt : i < l.length
  · have hm := nL_mem (f := nRep) (B := 2 ^ 40) (l := l) (by omega) (List.getElem_mem hlt)
    have hne : ∀ h : ¬ (repClean l[i] ∧ l[i].rev = headRev d), ¬ netRest ⟨d, l⟩ := fun h hn => h (hn l[i] (List.getElem_mem hlt))
    simp [hlt, Rep.row]
    intro b4
    refine DrawT.quiet eok mix (by kernel_rfl) ?_
    simp
    refine ⟨_, _, specRepClean_i l[i] hm, by simp [Rep.row], ?_⟩
    by_cases c1 : repClean l[i]
    · simp [c1]
      refine ⟨_, _, specHeadRev_c d, by simp [Doc.row], ?_⟩
      by_cases c2 : l[i].rev = headRev d
      · simp [c2]
        refine ⟨i + 1, ⟨by omega, fun r hr => ?_⟩, by omega, i64_suc (by omega)⟩
        rw [← List.take_append_getElem hlt] at hr
        rcases List.mem_append.1 hr with hr | hr
        · exact hi.2 r hr
        · simp at hr; subst hr; exact ⟨c1, c2⟩
      · have h3 : dc (netRest ⟨d, l⟩) = false := by rw [dc_no]; exact hne (fun h => c2 h.2)
        simp [c2, h3]
    · have c12 : dc (repClean l[i]) = false := by rw [dc_no]; exact c1
      have h3 : dc (netRest ⟨d, l⟩) = false := by rw [dc_no]; exact hne (fun h => c1 h.1)
      simp [c12, h3]
  · have h3 : netRest ⟨d, l⟩ := fun r hr => hi.2 r (by rw [List.take_of_length_le (by omega)]; exact hr)
    simp [hlt, h3]
theorem implHeadRev_c (d : Doc) : PureC Tryz.prog 157 [.agg d.row] (.one (.c (vi (headRev d)) 1)) := by
  refine PureC.intro' tt_ok Tryz.func157 (by kernel_rfl) rfl rfl rfl (Nat.le_of_ble_eq_true rfl) (fun w0 base => ?_)
  simp [Doc.row, headRev]
theorem implNetRest_i (n : Net) (hl : nNet n ≤ 2 ^ 40) : PureC Tryz.prog 163 [.agg n.row] (.one (.c (vb (netRest n)) 1)) := by
  refine PureC.intro' tt_ok Tryz.func163 (by kernel_rfl) rfl rfl rfl (Nat.le_of_ble_eq_true rfl) (fun w0 base => ?_)
  obtain ⟨d, l⟩ := n
  unfold nNet at hl
  simp only at hl
  have hle := nL_len (f := nRep) (B := 2 ^ 40) (l := l) (by omega)
  simp [Net.row]
  intro b1
  refine LoopT.intro eok (fun i : Nat => i ≤ l.length ∧ ∀ r ∈ l.take i, repClean r ∧ r.rev = headRev d) (fun i => ⟨24, 0, [(1, .p 16 b1 0), (8, .v (.int .i64 i)), (7, .v (.int .i64 l.length)), (6, .ro (l.map Rep.row))],
    [(16, .vars b1 38 [.v (.string d.name), .v (.int .i64 d.fr), .ro (d.text.map intR), .ro (d.list.map Entry.row), .ro (d.seen.map Seen.row), .ro (l.map Rep.row)])]⟩) (fun i => l.length - i) 0 (by simp) (by simp) (fun i hi => ?_)
  by_cases hlt : i < l.length
  · have hm := nL_mem (f := nRep) (B := 2 ^ 40) (l := l) (by omega) (List.getElem_mem hlt)
    have hne : ∀ h : ¬ (repClean l[i] ∧ l[i].rev = headRev d), ¬ netRest ⟨d, l⟩ := fun h hn => h (hn l[i] (List.getElem_mem hlt))
    simp [hlt, Rep.row]
    intro b4
    refine DrawT.quiet eok mix (by kernel_rfl) ?_
    simp
    refine ⟨_, _, implRepClean_i l[i] hm, by simp [Rep.row], ?_⟩
    by_cases c1 : repClean l[i]
    · simp [c1]
      refine ⟨_, _, implHeadRev_c d, by simp [Doc.row], ?_⟩
      by_cases c2 : l[i].rev = headRev d
      · simp [c2]
        refine ⟨i + 1, ⟨by omega, fun r hr => ?_⟩, by omega, i64_suc (by omega)⟩
        rw [← List.take_append_getElem hlt] at hr
        rcases List.mem_append.1 hr with hr | hr
        · exact hi.2 r hr
        · simp at hr; subst hr; exact ⟨c1, c2⟩
      · have h3 : dc (netRest ⟨d, l⟩) = false := by rw [dc_no]; exact hne (fun h => c2 h.2)
        simp [c2, h3]
    · have c12 : dc (repClean l[i]) = false := by rw [dc_no]; exact c1
      have h3 : dc (netRest ⟨d, l⟩) = false := by rw [dc_no]; exact hne (fun h => c1 h.1)
      simp [c12, h3]
  · have h3 : netRest ⟨d, l⟩ := fun r hr => hi.2 r (by rw [List.take_of_length_le (by omega)]; exact hr)
    simp [hlt, h3]
end Go.Proofs.YtdfdabjdfmamgaaGreat

namespace Go.Proofs.YtdfdabjdfmamgaaGreat
open Go.AM
set_option maxRecDepth 20000
set_option maxHeartbeats 1600000

theorem implNameOk_c (s : ByteArray) (hl : s.size ≤ 2 ^ 40) : PureC Tryz.prog 269 [.c (.v (.string s))] (.one (.c (vb (nameOk s)) 1)) := by
  refine PureC.intro' tt_ok Tryz.func269 (by kernel_rfl) rfl rfl rfl (Nat.le_of_ble_eq_true rfl) (fun w0 base => ?_)
  simp
  refine LoopT.intro eok (fun i : Nat => i ≤ s.size ∧ ∀ j, j < i → nameAt s j) (fun i => ⟨23, 0, [(3, .v (.int .i64 i)), (0, .v (.string s))], []⟩) (fun i => s.size - i) 0 (by simp) (by simp) (fun i hi => ?_)
  by_cases hlt : i < s.size
  · simp [hlt]
    by_cases h1 : (s[i].toNat : Int) < 97
    · have hno : ¬ nameOk s := fun h => by have := (h.2 i hlt).1; omega
      simp [h1, dc_neg hno]
    · by_cases h2 : 122 < (s[i].toNat : Int)
      · have hno : ¬ nameOk s := fun h => by have := (h.2 i hlt).2; omega
        simp [h1, h2, hlt, dc_neg hno]
      · simp [h1, h2, hlt]
        refine ⟨i + 1, ⟨by omega, fun j hj => ?_⟩, by omega, i64_suc (by omega)⟩
        by_cases hji : j = i
        · subst hji; exact fun _ => by omega
        · exact hi.2 j (by omega)
  · simp [hlt]
    refine ACall.pure (within_c s.size 1 8) (by simp) ?_
    have hsz : (1 ≤ (s.size : Int) ∧ (s.size : Int) ≤ 8) ↔ (1 ≤ s.size ∧ s.size ≤ 8) := by omega
    by_cases h3 : 1 ≤ s.size ∧ s.size ≤ 8
    · have hy : nameOk s := ⟨h3, fun j hj => hi.2 j (by omega) hj⟩
      have h4 := hsz.2 h3
      simp [h4, hy]
    · have hno : ¬ nameOk s := fun h => h3 h.1
      have h4 : ¬ (1 ≤ (s.size : Int) ∧ (s.size : Int) ≤ 8) := fun h => h3 (hsz.1 h)
      simp [dc_neg h4, dc_neg hno]
theorem specNameOk_c (s : ByteArray) (hl : s.size ≤ 2 ^ 40) : PureC Tryz.prog 267 [.c (.v (.string s))] (.one (.c (vb (nameOk s)) 1)) := by
  refine PureC.intro' tt_ok Tryz.func267 (by kernel_rfl) rfl rfl rfl (Nat.le_of_ble_eq_true rfl) (fun w0 base => ?_)
  simp
  refine LoopT.intro eok (fun i : Nat => i ≤ s.size ∧ ∀ j, j < i → nameAt s j) (fun i => ⟨23, 0, [(3, .v (.int .i64 i)), (0, .v (.string s))], []⟩) (fun i => s.size - i) 0 (by simp) (by simp) (fun i hi => ?_)
  by_cases hlt : i < s.size
  · simp [hlt]
    by_cases h1 : (s[i].toNat : Int) < 97
    · have hno : ¬ nameOk s := fun h => by have := (h.2 i hlt).1; omega
      simp [h1, dc_neg hno]
    · by_cases h2 : 122 < (s[i].toNat : Int)
      · have hno : ¬ nameOk s := fun h => by have := (h.2 i hlt).2; omega
        simp [h1, h2, hlt, dc_neg hno]
      · simp [h1, h2, hlt]
        refine ⟨i + 1, ⟨by omega, fun j hj => ?_⟩, by omega, i64_suc (by omega)⟩
        by_cases hji : j = i
        · subst hji; exact fun _ => by omega
        · exact hi.2 j (by omega)
  · simp [hlt]
    refine ACall.pure (l01In_c s.size 1 8) (by simp) ?_
    have hsz : (1 ≤ (s.size : Int) ∧ (s.size : Int) ≤ 8) ↔ (1 ≤ s.size ∧ s.size ≤ 8) := by omega
    by_cases h3 : 1 ≤ s.size ∧ s.size ≤ 8
    · have hy : nameOk s := ⟨h3, fun j hj => hi.2 j (by omega) hj⟩
      have h4 := hsz.2 h3
      simp [h4, hy]
    · have hno : ¬ nameOk s := fun h => h3 h.1
      have h4 : ¬ (1 ≤ (s.size : Int) ∧ (s.size : Int) ≤ 8) := fun h => h3 (hsz.1 h)
      simp [dc_neg h4, dc_neg hno]

theorem opsOf_c (l : List Entry) (hl : nL nEntry l ≤ 2 ^ 30) : PureC Tryz.prog 264 [.c (.s (l.map Entry.row))] (.one (.c (.s ((l.map Entry.o).map partsR)) 1)) := by
  refine PureC.intro' tt_ok Tryz.func264 (by kernel_rfl) rfl rfl rfl (Nat.le_of_ble_eq_true rfl) (fun w0 base => ?_)
  have hle := nL_len hl
  simp
  refine LoopT.introG eok (fun x : Nat × Hd => x.1 ≤ l.length) (fun x => ⟨20, 0, [(8, .v (.int .i64 x.1)), (7, .v (.int .i64 l.length)), (6, .ro (l.map Entry.row)), (3, .sl 5000 x.2 1 0 x.1)], [(5000, .rows x.2 1 (((l.take x.1).map Entry.o).map partsR) true)]⟩) (fun x => l.length - x.1) (0, none) (by simp) (by simp) (fun x hx => Ent.refl ?_)
  obtain ⟨i, H⟩ := x
  simp only at hx ⊢
  by_cases hlt : i < l.length
  · have hm := nL_at hl hlt
    unfold nEntry at hm
    simp [hlt, Entry.row]
    intro b5
    refine ACall.pure (copyOp_c l[i].o hm) (by simp) ?_
    simp
    intro H1 b
    have e1 : i = min i l.length := by omega
    refine ⟨e1, by omega, fun H2 => Ent.refl ⟨i + 1, by omega, by omega, H2, ?_⟩⟩
    simp
    exact ⟨i64_suc (by omega), take_snoc (f := fun e : Entry => partsR e.o) hlt⟩
  · have e : l.length = i := by omega
    simp [hlt]
    have e1 : i ≤ min i l.length := by omega
    refine ⟨e1, ?_, ?_⟩
    · intro row hr
      have := List.mem_of_mem_take hr
      simp at this
      obtain ⟨x, -, rfl⟩ := this
      rfl
    · rw [List.take_of_length_le (by simp; omega)]
      simp [cut, e]

theorem implDocOk_c (d : Doc) (hl : nDoc d ≤ 2 ^ 30) : PureC Tryz.prog 188 [.agg d.row] (.one (.c (vb (docOk d)) 1)) := by
  refine PureC.intro' tt_ok Tryz.func188 (by kernel_rfl) rfl rfl rfl (Nat.le_of_ble_eq_true rfl) (fun w0 base => ?_)
  obtain ⟨n1, n2, n3, n4⟩ := nDoc_list hl
  have hle := nL_len n1
  simp [Doc.row]
  intro b1
  refine ACall.pure (implNameOk_c d.name (by omega)) (by simp) ?_
  by_cases c1 : nameOk d.name
  rotate_left
  · have h : ¬ docOk d := fun h => c1 h.1
    simp [dc_neg c1, dc_neg h]
  simp [c1]
  refine ACall.pure (within_c d.fr 0 999999000) (by simp) ?_
  by_cases c2 : 0 ≤ d.fr ∧ d.fr ≤ 999999000
  rotate_left
  · have h : ¬ docOk d := fun h => c2 h.2.1
    simp [dc_neg c2, dc_neg h]
  simp [c2]
  refine ACall.pure (implTextOk_c d.text (by omega)) (by simp) ?_
  by_cases c3 : textOk d.text
  rotate_left
  · have h : ¬ docOk d := fun h => c3 h.2.2.1
    simp [dc_neg c3, dc_neg h]
  simp [c3]
  by_cases c4 : d.list.length ≤ 8
  rotate_left
  · have h : ¬ docOk d := fun h => c4 h.2.2.2.1
    have c4' : 8 < (d.list.length : Int) := by omega
    simp [c4', dc_neg h]
  have c4' : ¬ 8 < (d.list.length : Int) := by omega
  simp [c4']
  refine LoopT.intro eok (fun i : Nat => i ≤ d.list.length ∧ ∀ e ∈ d.list.take i, entryOk e) (fun i => ⟨96, 0, [(34, .v (.int .i64 i)), (33, .v (.int .i64 d.list.length)), (32, .ro (d.list.map Entry.row)), (1, .p 16 b1 0)],
    [(16, .vars b1 35 [.v (.string d.name), .v (.int .i64 d.fr), .ro (d.text.map intR), .ro (d.list.map Entry.row), .ro (d.seen.map Seen.row)])]⟩) (fun i => d.list.length - i) 0 (by simp) (by simp) (fun i hi => ?_)
  by_cases hlt : i < d.list.length
  · have hm := nL_at n1 hlt
    simp [hlt, Entry.row]
    intro b4
    refine ACall.pure (implEntryOk_c d.list[i] (by omega)) (by simp [Entry.row]) ?_
    by_cases c5 : entryOk d.list[i]
    · simp [c5]
      exact ⟨i + 1, ⟨by omega, all_suc hlt hi.2 c5⟩, by omega, i64_suc (by omega)⟩
    · have h : ¬ docOk d := fun h => c5 (h.2.2.2.2.1 _ (List.getElem_mem hlt))
      simp [dc_neg c5, dc_neg h]
  have c5 : ∀ e ∈ d.list, entryOk e := all_end (by omega) hi.2
  simp [hlt]
  refine DrawT.quiet eok mix (by kernel_rfl) ?_
  simp
  refine ⟨_, _, opsOf_c d.list n1, by simp, ?_⟩
  simp
  have hops : ∀ o ∈ d.list.map Entry.o, nL nPart o ≤ 2 ^ 40 := by
    intro o ho
    rw [List.mem_map] at ho
    obtain ⟨e, he, rfl⟩ := ho
    have := nL_mem n1 he
    unfold nEntry at this
    omega
  refine ⟨_, _, implApplyAll_c (d.list.map Entry.o) d.text (by simp; omega) hops (by omega), by simp, ?_⟩
  have hsome := applyAll_some (l := d.list.map Entry.o) c3
  generalize applyAll (d.list.map Entry.o) d.text = A at hsome ⊢
  obtain ⟨u, ok⟩ := A
  simp only at hsome ⊢
  cases ok with
  | false =>
    have h : ¬ docOk d := fun h => by have := hsome.2 h.2.2.2.2.2.1; simp at this
    simp [dc_neg h]
  | true =>
    have c6 := hsome.1 rfl
    simp
    have hno : ∀ i, ¬ seenAt d i → ¬ docOk d := fun i h hd => h (fun hh => hd.2.2.2.2.2.2 i hh)
    refine LoopT.intro eok (fun i : Nat => i ≤ d.seen.length ∧ ∀ j, j < i → seenAt d j) (fun i => ⟨96, 0, [(56, .v (.int .i64 i)), (55, .v (.int .i64 d.seen.length)), (54, .ro (d.seen.map Seen.row)), (1, .p 16 b1 0)],
      [(16, .vars b1 35 [.v (.string d.name), .v (.int .i64 d.fr), .ro (d.text.map intR), .ro (d.list.map Entry.row), .ro (d.seen.map Seen.row)])]⟩) (fun i => d.seen.length - i) 0 (by simp) (by simp) (fun i hi => ?_)
    by_cases hlt : i < d.seen.length
    rotate_left
    · have h : docOk d := ⟨c1, c2, c3, c4, c5, c6, fun j hj => hi.2 j (by omega) hj⟩
      simp [hlt, h]
    obtain ⟨x, hx⟩ : ∃ x, d.seen[i] = x := ⟨_, rfl⟩
    simp [hlt, hx, Seen.row]
    intro b8
    refine DrawT.quiet eok mix (by kernel_rfl) ?_
    simp
    refine ⟨_, _, within_c x.client 1 8, by simp, ?_⟩
    by_cases s1 : 1 ≤ x.client ∧ x.client ≤ 8
    rotate_left
    · have h := hno i (fun h => s1 (by have := (h hlt).1; rwa [hx] at this))
      simp [dc_neg s1, dc_neg h]
    simp [s1]
    have fin : (∀ h0 : 0 < i, d.seen[i - 1].client < x.client) → (1 ≤ x.seq ∧ x.seq ≤ 1000000000) → (1 ≤ x.rev ∧ x.rev ≤ headRev d) → ∀ j, j < i + 1 → seenAt d j := by
      intro h1 h2 h3 j hj
      by_cases hji : j = i
      · subst hji; intro hh; rw [hx]; exact ⟨s1, h2, h3, h1⟩
      · exact hi.2 j (by omega)
    have noq : ¬ (1 ≤ x.seq ∧ x.seq ≤ 1000000000) → ¬ docOk d := fun s2 => hno i (fun h => s2 (by have := (h hlt).2.1; rwa [hx] at this))
    have nor : ¬ (1 ≤ x.rev ∧ x.rev ≤ headRev d) → ¬ docOk d := fun s2 => hno i (fun h => s2 (by have := (h hlt).2.2.1; rwa [hx] at this))
    cases i with
    | zero =>
      simp
      refine ⟨_, _, within_c x.seq 1 1000000000, by simp, ?_⟩
      by_cases s2 : 1 ≤ x.seq ∧ x.seq ≤ 1000000000
      rotate_left
      · simp [dc_neg s2, dc_neg (noq s2)]
      simp [s2]
      refine ⟨_, _, implHeadRev_c d, by simp [Doc.row], ?_⟩
      simp
      refine ⟨_, _, within_c x.rev 1 (headRev d), by simp, ?_⟩
      by_cases s3 : 1 ≤ x.rev ∧ x.rev ≤ headRev d
      rotate_left
      · simp [dc_neg s3, dc_neg (nor s3)]
      simp [s3]
      exact ⟨1, ⟨by omega, fin (by simp) s2 s3⟩, by omega, i64_suc (n := 0) (by omega)⟩
    | succ k =>
      have ek : Go.IntKind.i64.wrap (k : Int) = k := i64_nat (by omega)
      have hk1 : k < d.seen.length := by omega
      have hk0 : (0 : Int) < (k : Int) + 1 := by omega
      obtain ⟨y, hy⟩ : ∃ y, d.seen[k] = y := ⟨_, rfl⟩
      simp [ek, hk0, hk1, hy, Seen.row]
      by_cases s4 : y.client < x.client
      rotate_left
      · have h := hno (k + 1) (fun h => s4 (by have := (h hlt).2.2.2 (by omega); rw [hx] at this; simp only [Nat.add_sub_cancel] at this; rwa [hy] at this))
        have s4' : x.client ≤ y.client := by omega
        simp [s4', dc_neg h]
      have s4' : ¬ x.client ≤ y.client := by omega
      simp [s4']
      refine ⟨_, _, within_c x.seq 1 1000000000, by simp, ?_⟩
      by_cases s2 : 1 ≤ x.seq ∧ x.seq ≤ 1000000000
      rotate_left
      · simp [dc_neg s2, dc_neg (noq s2)]
      simp [s2]
      refine ⟨_, _, implHeadRev_c d, by simp [Doc.row], ?_⟩
      simp
      refine ⟨_, _, within_c x.rev 1 (headRev d), by simp, ?_⟩
      by_cases s3 : 1 ≤ x.rev ∧ x.rev ≤ headRev d
      rotate_left
      · simp [dc_neg s3, dc_neg (nor s3)]
      simp [s3]
      exact ⟨k + 2, ⟨by omega, fin (fun _ => by simp only [Nat.add_sub_cancel]; rw [hy]; exact s4) s2 s3⟩, by omega, by rw [Go.IntWalk.i64_in _ (by omega)]; omega⟩
theorem specDocOk_c (d : Doc) (hl : nDoc d ≤ 2 ^ 30) : PureC Tryz.prog 185 [.agg d.row] (.one (.c (vb (docOk d)) 1)) := by
  refine PureC.intro' tt_ok Tryz.func185 (by kernel_rfl) rfl rfl rfl (Nat.le_of_ble_eq_true rfl) (fun w0 base => ?_)
  obtain ⟨n1, n2, n3, n4⟩ := nDoc_list hl
  have hle := nL_len n1
  simp [Doc.row]
  intro b1
  refine ACall.pure (specNameOk_c d.name (by omega)) (by simp) ?_
  by_cases c1 : nameOk d.name
  rotate_left
  · have h : ¬ docOk d := fun h => c1 h.1
    simp [dc_neg c1, dc_neg h]
  simp [c1]
  refine ACall.pure (l01In_c d.fr 0 999999000) (by simp) ?_
  by_cases c2 : 0 ≤ d.fr ∧ d.fr ≤ 999999000
  rotate_left
  · have h : ¬ docOk d := fun h => c2 h.2.1
    simp [dc_neg c2, dc_neg h]
  simp [c2]
  refine ACall.pure (specTextOk_c d.text (by omega)) (by simp) ?_
  by_cases c3 : textOk d.text
  rotate_left
  · have h : ¬ docOk d := fun h => c3 h.2.2.1
    simp [dc_neg c3, dc_neg h]
  simp [c3]
  by_cases c4 : d.list.length ≤ 8
  rotate_left
  · have h : ¬ docOk d := fun h => c4 h.2.2.2.1
    have c4' : 8 < (d.list.length : Int) := by omega
    simp [c4', dc_neg h]
  have c4' : ¬ 8 < (d.list.length : Int) := by omega
  simp [c4']
  refine LoopT.introG eok (fun x : Nat × List Int => x.1 ≤ d.list.length ∧ (∀ e ∈ d.list.take x.1, entryOk e) ∧ textOk x.2 ∧ applyFrom ((d.list.map Entry.o).drop x.1) x.2 = applyFrom (d.list.map Entry.o) d.text) (fun x => ⟨105, 0, [(37, .v (.int .i64 x.1)), (36, .v (.int .i64 d.list.length)), (35, .ro (d.list.map Entry.row)), (3, .ro (x.2.map intR)), (1, .p 16 b1 0)],
    [(16, .vars b1 35 [.v (.string d.name), .v (.int .i64 d.fr), .ro (d.text.map intR), .ro (d.list.map Entry.row), .ro (d.seen.map Seen.row)])]⟩) (fun x => d.list.length - x.1) (0, d.text) ⟨by simp, by simp, c3, by simp⟩ (by simp) (fun x hi => Ent.refl ?_)
  obtain ⟨i, t⟩ := x
  obtain ⟨hi1, hi2, hi3, hi4⟩ := hi
  simp only at hi1 hi2 hi3 hi4 ⊢
  by_cases hlt : i < d.list.length
  · have hm := nL_at n1 hlt
    have hmo := entryOk_n (e := d.list[i]) (by omega)
    rw [applyFrom_drop (show i < (d.list.map Entry.o).length by simpa using hlt)] at hi4
    simp only [List.getElem_map] at hi4
    have hyes := @apply_yes d.list[i].o t
    have htok := @apply_textOk d.list[i].o t
    obtain ⟨e, he⟩ : ∃ e, d.list[i] = e := ⟨_, rfl⟩
    have hmem : e ∈ d.list := he ▸ List.getElem_mem hlt
    have c5' : entryOk e → ∀ e ∈ d.list.take (i + 1), entryOk e := fun h => all_suc hlt hi2 (he ▸ h)
    rw [he] at hi4 hyes htok hm hmo
    simp [hlt, he, Entry.row]
    intro b5
    refine ACall.pure (specApply_c e.o t hmo (by have := hi3.1; omega)) (by simp) ?_
    generalize apply e.o t = A at hi4 hyes htok ⊢
    obtain ⟨u, ok⟩ := A
    simp only at hi4 hyes htok ⊢
    simp
    intro H1
    cases ok with
    | false =>
      have h : ¬ docOk d := fun h => by have := h.2.2.2.2.2.1; rw [← hi4] at this; simp at this
      simp [dc_neg h]
    | true =>
      simp only [if_true] at hi4
      have hu := (htok (hyes.1 rfl)).1
      simp
      refine ACall.pure (specEntryOk_c e (by omega)) (by simp [Entry.row]) ?_
      by_cases c5 : entryOk e
      rotate_left
      · have h : ¬ docOk d := fun h => c5 (h.2.2.2.2.1 _ hmem)
        simp [dc_neg c5, dc_neg h]
      simp [c5]
      refine ACall.pure (specTextOk_c u (by have := hu.1; omega)) (by simp) ?_
      simp [hu]
      refine Ent.frzT 3 720 (sz := 1) (off := 0) (len := u.length) (H := H1) (rows := u.map intR) (own := true) (by simp) (by simp) (by simp) (Ent.refl ⟨i + 1, u, ⟨by omega, c5' c5, hu, hi4⟩, by omega, ?_⟩)
      simp
      exact i64_suc (by omega)
  · have c5 : ∀ e ∈ d.list, entryOk e := all_end (by omega) hi2
    have c6 : (applyFrom (d.list.map Entry.o) d.text).isSome = true := by
      rw [← hi4, List.drop_eq_nil_of_le (by simp; omega)]
      simp [applyFrom]
    simp [hlt]
    have hno : ∀ i, ¬ seenAt d i → ¬ docOk d := fun i h hd => h (fun hh => hd.2.2.2.2.2.2 i hh)
    refine LoopT.intro eok (fun i : Nat => i ≤ d.seen.length ∧ ∀ j, j < i → seenAt d j) (fun i => ⟨105, 0, [(65, .v (.int .i64 i)), (64, .v (.int .i64 d.seen.length)), (63, .ro (d.seen.map Seen.row)), (1, .p 16 b1 0)],
      [(16, .vars b1 35 [.v (.string d.name), .v (.int .i64 d.fr), .ro (d.text.map intR), .ro (d.list.map Entry.row), .ro (d.seen.map Seen.row)])]⟩) (fun i => d.seen.length - i) 0 (by simp) (by simp) (fun i hi => ?_)
    by_cases hlt : i < d.seen.length
    rotate_left
    · have h : docOk d := ⟨c1, c2, c3, c4, c5, c6, fun j hj => hi.2 j (by omega) hj⟩
      simp [hlt, h]
    obtain ⟨x, hx⟩ : ∃ x, d.seen[i] = x := ⟨_, rfl⟩
    simp [hlt, hx, Seen.row]
    intro b8
    refine DrawT.quiet eok mix (by kernel_rfl) ?_
    simp
    refine ⟨_, _, l01In_c x.client 1 8, by simp, ?_⟩
    by_cases s1 : 1 ≤ x.client ∧ x.client ≤ 8
    rotate_left
    · have h := hno i (fun h => s1 (by have := (h hlt).1; rwa [hx] at this))
      simp [dc_neg s1, dc_neg h]
    simp [s1]
    have fin : (∀ h0 : 0 < i, d.seen[i - 1].client < x.client) → (1 ≤ x.seq ∧ x.seq ≤ 1000000000) → (1 ≤ x.rev ∧ x.rev ≤ headRev d) → ∀ j, j < i + 1 → seenAt d j := by
      intro h1 h2 h3 j hj
      by_cases hji : j = i
      · subst hji; intro hh; rw [hx]; exact ⟨s1, h2, h3, h1⟩
      · exact hi.2 j (by omega)
    have noq : ¬ (1 ≤ x.seq ∧ x.seq ≤ 1000000000) → ¬ docOk d := fun s2 => hno i (fun h => s2 (by have := (h hlt).2.1; rwa [hx] at this))
    have nor : ¬ (1 ≤ x.rev ∧ x.rev ≤ headRev d) → ¬ docOk d := fun s2 => hno i (fun h => s2 (by have := (h hlt).2.2.1; rwa [hx] at this))
    refine ⟨_, _, l01In_c x.seq 1 1000000000, by simp, ?_⟩
    by_cases s2 : 1 ≤ x.seq ∧ x.seq ≤ 1000000000
    rotate_left
    · simp [dc_neg s2, dc_neg (noq s2)]
    simp [s2]
    refine ⟨_, _, specHeadRev_c d, by simp [Doc.row], ?_⟩
    simp
    refine ⟨_, _, l01In_c x.rev 1 (headRev d), by simp, ?_⟩
    by_cases s3 : 1 ≤ x.rev ∧ x.rev ≤ headRev d
    rotate_left
    · simp [dc_neg s3, dc_neg (nor s3)]
    simp [s3]
    cases i with
    | zero =>
      simp
      exact ⟨1, ⟨by omega, fin (by simp) s2 s3⟩, by omega, i64_suc (n := 0) (by omega)⟩
    | succ k =>
      have ek : Go.IntKind.i64.wrap (k : Int) = k := i64_nat (by omega)
      have hk1 : k < d.seen.length := by omega
      have hk0 : (0 : Int) < (k : Int) + 1 := by omega
      obtain ⟨y, hy⟩ : ∃ y, d.seen[k] = y := ⟨_, rfl⟩
      simp [ek, hk0, hk1, hy, Seen.row]
      by_cases s4 : y.client < x.client
      rotate_left
      · have h := hno (k + 1) (fun h => s4 (by have := (h hlt).2.2.2 (by omega); rw [hx] at this; simp only [Nat.add_sub_cancel] at this; rwa [hy] at this))
        have s4' : x.client ≤ y.client := by omega
        simp [s4', dc_neg h]
      have s4' : ¬ x.client ≤ y.client := by omega
      simp [s4']
      exact ⟨k + 2, ⟨by omega, fin (fun _ => by simp only [Nat.add_sub_cancel]; rw [hy]; exact s4) s2 s3⟩, by omega, by rw [Go.IntWalk.i64_in _ (by omega)]; omega⟩
end Go.Proofs.YtdfdabjdfmamgaaGreat

namespace Go.Proofs.YtdfdabjdfmamgaaGreat
open Go.AM
set_option maxRecDepth 20000
set_option maxHeartbeats 1600000

theorem implTextAt_c (d : Doc) (hl : nDoc d ≤ 2 ^ 30) (rev : Int) : PureC Tryz.prog 177 [.agg d.row, .c (vi rev)] (.tup [.c (.s ((textAt d rev).1.map intR)) 1, .c (.v (.bool (textAt d rev).2)) 1]) := by
  refine PureC.intro' tt_ok Tryz.func177 (by kernel_rfl) rfl rfl rfl (Nat.le_of_ble_eq_true rfl) (fun w0 base => ?_)
  obtain ⟨n1, n2, n3, n4⟩ := nDoc_list hl
  simp [Doc.row]
  intro b2
  refine DrawT.quiet eok mix (by kernel_rfl) ?_
  simp
  refine ⟨_, _, implDocOk_c d hl, by simp [Doc.row], ?_⟩
  by_cases c1 : docOk d
  rotate_left
  · have e := textAt_no (d := d) (rev := rev) (fun h => c1 h.1)
    simp [dc_neg c1, e]
  simp [c1]
  refine ⟨_, _, implHeadRev_c d, by simp [Doc.row], ?_⟩
  simp
  refine ⟨_, _, within_c rev d.fr (headRev d), by simp, ?_⟩
  by_cases c2 : d.fr ≤ rev ∧ rev ≤ headRev d
  rotate_left
  · have e := textAt_no (d := d) (rev := rev) (fun h => c2 h.2)
    simp [dc_neg c2, e]
  have e := textAt_yes ⟨c1, c2⟩
  have hh := docOk_head c1
  obtain ⟨k, hk⟩ : ∃ k : Nat, rev - d.fr = k := ⟨(rev - d.fr).toNat, by omega⟩
  have hkl : k ≤ d.list.length := by omega
  have ew : Go.IntKind.i64.wrap (rev - d.fr) = (k : Int) := by rw [Go.IntWalk.i64_in _ (by omega)]; omega
  rw [hk] at e
  simp only [Int.toNat_natCast] at e
  have hcut : cut (d.list.map Entry.row) 0 k = (d.list.take k).map Entry.row := by
    unfold cut
    split
    · rename_i h
      rw [List.take_of_length_le (by have := h.2; simp at this; omega)]
    · simp
  simp [c2]
  refine DrawT.introS eok mix [0, 1, 2, 3, 4, 5, 6, 8, 9] [7, 10, 11, 12, 13, 14] (.child 7 [false, false, true, false, false, false, false, false, false] [true, true, false, true, true, true, true, true, true] (.child 10 [true, false, false, false, false, false, false, false, false] [false, true, false, true, true, true, true, true, true] (.child 11 [false, false, false, false, false, false, false, false, false] [false, true, false, true, true, true, true, true, true] (.child 12 [false, false, false, false, false, false, false, false, false] [false, true, false, true, true, true, true, true, true] (.child 13 [false, true, false, true, true, true, true, true, true] [false, false, false, false, false, false, false, false, false] (.child 14 [false, false, false, false, false, false, false, false, false] [false, false, false, false, false, false, false, false, false] (.leaf [false, false, false, false, false, false, false, false, false]) .stop) .stop) .stop) .stop) .stop) .stop) (by kernel_rfl) ?_
  simp [ew, hkl, hcut]
  try intros
  refine ACall.pure (opsOf_c (d.list.take k) (nL_take n1)) (by simp) ?_
  simp [List.map_take]
  try intros
  refine ACall.pure (implApplyAll_c ((d.list.take k).map Entry.o) d.text (by simp; omega) (fun o ho => by have := docOk_ops n1 (fun e he => List.mem_of_mem_take he) ho; omega) (by omega)) (by simp [List.map_take]) ?_
  simp
  try intros
  simp [e]

theorem specTextAt_c (d : Doc) (hl : nDoc d ≤ 2 ^ 30) (rev : Int) : PureC Tryz.prog 169 [.agg d.row, .c (vi rev)] (.tup [.c (.s ((textAt d rev).1.map intR)) 1, .c (.v (.bool (textAt d rev).2)) 1]) := by
  refine PureC.intro' tt_ok Tryz.func169 (by kernel_rfl) rfl rfl rfl (Nat.le_of_ble_eq_true rfl) (fun w0 base => ?_)
  obtain ⟨n1, n2, n3, n4⟩ := nDoc_list hl
  simp [Doc.row]
  intro b2
  refine DrawT.quiet eok mix (by kernel_rfl) ?_
  simp
  refine ⟨_, _, specDocOk_c d hl, by simp [Doc.row], ?_⟩
  by_cases c1 : docOk d
  rotate_left
  · have e := textAt_no (d := d) (rev := rev) (fun h => c1 h.1)
    simp [dc_neg c1, e]
  simp [c1]
  refine ⟨_, _, specHeadRev_c d, by simp [Doc.row], ?_⟩
  simp
  refine ⟨_, _, l01In_c rev d.fr (headRev d), by simp, ?_⟩
  by_cases c2 : d.fr ≤ rev ∧ rev ≤ headRev d
  rotate_left
  · have e := textAt_no (d := d) (rev := rev) (fun h => c2 h.2)
    simp [dc_neg c2, e]
  have e := textAt_yes ⟨c1, c2⟩
  have hh := docOk_head c1
  obtain ⟨k, hk⟩ : ∃ k : Nat, rev - d.fr = k := ⟨(rev - d.fr).toNat, by omega⟩
  have hkl : k ≤ d.list.length := by omega
  have ew : Go.IntKind.i64.wrap (rev - d.fr) = (k : Int) := by rw [Go.IntWalk.i64_in _ (by omega)]; omega
  rw [hk] at e
  simp only [Int.toNat_natCast] at e
  have hcut : cut (d.list.map Entry.row) 0 k = (d.list.take k).map Entry.row := by
    unfold cut
    split
    · rename_i h
      rw [List.take_of_length_le (by have := h.2; simp at this; omega)]
    · simp
  obtain ⟨l, hlk⟩ : ∃ l, d.list.take k = l := ⟨_, rfl⟩
  have hll : l.length = k := by rw [← hlk]; simp; omega
  rw [hlk] at e hcut
  have hmem : ∀ e ∈ l, e ∈ d.list := fun e he => by rw [← hlk] at he; exact List.mem_of_mem_take he
  have hsome := applyFrom_take (t := d.text) (d.list.map Entry.o) d.text k c1.2.2.2.2.2.1
  rw [← List.map_take, hlk, Option.isSome_iff_exists] at hsome
  obtain ⟨u, hu⟩ := hsome
  rw [applyAll_of c1.2.2.1 hu] at e
  simp [c2]
  intro b21
  refine ⟨by omega, fun H24 => ?_⟩
  simp [ew, hkl, hcut, hll]
  refine LoopT.introG eok (fun x : (Nat × List Int × Nat) × Hd => (x.1.2.2 = 336 ∨ x.1.2.2 = 656) ∧ x.1.1 ≤ k ∧ x.1.2.1.length ≤ 2 ^ 30 ∧ applyFrom ((l.map Entry.o).drop x.1.1) x.1.2.1 = some u) (fun x => ⟨46, 0, [(33, .v (.int .i64 x.1.1)), (32, .v (.int .i64 k)), (31, .ro (l.map Entry.row)), (6, .sl x.1.2.2 x.2 1 0 x.1.2.1.length)],
    [(x.1.2.2, .rows x.2 1 (x.1.2.1.map intR) true)]⟩) (fun x => k - x.1.1) ((0, d.text, 336), H24) ⟨.inl rfl, by simp, by simp only; omega, by simpa using hu⟩ (by simp) (fun x hi => Ent.refl ?_)
  obtain ⟨⟨i, t, kk⟩, H⟩ := x
  obtain ⟨hkk, hi1, hi2, hi3⟩ := hi
  simp only at hkk hi1 hi2 hi3 ⊢
  by_cases hlt : i < k
  · have hlt' : i < l.length := by omega
    have hm := docOk_ops n1 hmem (List.mem_map_of_mem (f := Entry.o) (List.getElem_mem hlt'))
    rw [applyFrom_drop (show i < (l.map Entry.o).length by simpa using hlt')] at hi3
    simp only [List.getElem_map] at hi3
    have hal := apply_len l[i].o t
    rcases hkk with rfl | rfl
    all_goals
      simp [hlt, hlt', Entry.row]
      intro b8
      refine ACall.pure (specApply_c l[i].o t (by omega) (by omega)) (by simp) ?_
      generalize apply l[i].o t = A at hi3 hal ⊢
      obtain ⟨v, ok⟩ := A
      simp only at hi3 hal ⊢
      simp
      intro H1
      cases ok with
      | false => simp at hi3
      | true =>
        simp only [if_true] at hi3
        refine Ent.refl ⟨i + 1, v, 656, ⟨.inr rfl, by omega, by omega, hi3⟩, by omega, H1, ?_⟩
        simp
        exact i64_suc (by omega)
  · have hi4 : t = u := by
      rw [List.drop_eq_nil_of_le (by simp; omega)] at hi3
      simpa [applyFrom] using hi3
    subst hi4
    rcases hkk with rfl | rfl
    all_goals
      simp [hlt, e]

theorem implSeenOf_c (d : Doc) (hl : nDoc d ≤ 2 ^ 40) (c : Int) : PureC Tryz.prog 155 [.agg d.row, .c (vi c)] (.tup [.agg (seenOf d c).1.res, .c (.v (.bool (seenOf d c).2)) 1]) := by
  refine PureC.intro' tt_ok Tryz.func155 (by kernel_rfl) rfl rfl rfl (Nat.le_of_ble_eq_true rfl) (fun w0 base => ?_)
  obtain ⟨n1, n2, n3, n4⟩ := nDoc_list hl
  simp [Doc.row]
  intro b2 b4
  refine LoopT.intro eok (fun i : Nat => i ≤ d.seen.length ∧ ∀ j, j < i → ∀ hj : j < d.seen.length, d.seen[j].client ≠ c) (fun i => ⟨22, 0, [(11, .v (.int .i64 i)), (10, .v (.int .i64 d.seen.length)), (9, .ro (d.seen.map Seen.row)), (1, .v (.int .i64 c)), (4, .p 64 b4 0)],
    [(64, .vars b4 186 [.v (.int .i64 0), .v (.int .i64 0), .v (.int .i64 0)])]⟩) (fun i => d.seen.length - i) 0 (by simp) (by simp) (fun i hi => ?_)
  by_cases hlt : i < d.seen.length
  · simp [hlt, Seen.row]
    intro b7
    by_cases hc : d.seen[i].client = c
    · have e : seenOf d c = (d.seen[i], true) := by
        rcases seenOf_cases d c with ⟨i', h, h1, h2, h3⟩ | ⟨h1, _⟩
        · have : i' = i := by
            rcases Nat.lt_trichotomy i' i with hh | hh | hh
            · exact absurd h1 (hi.2 i' hh h)
            · exact hh
            · exact absurd hc (h2 i hh hlt)
          subst this
          exact h3
        · exact absurd hc (h1 i hlt)
      simp [hc, e, Seen.res]
    · simp [hc]
      refine ⟨i + 1, ⟨by omega, fun j hj hjl => ?_⟩, by omega, i64_suc (by omega)⟩
      by_cases hji : j = i
      · subst hji; exact hc
      · exact hi.2 j (by omega) hjl
  · have e : seenOf d c = (⟨0, 0, 0⟩, false) := by
      rcases seenOf_cases d c with ⟨i', h, h1, h2, h3⟩ | ⟨_, h⟩
      · exact absurd h1 (hi.2 i' (by omega) h)
      · exact h
    simp [hlt, e, Seen.res]
theorem specSeenOf_c (d : Doc) (hl : nDoc d ≤ 2 ^ 40) (c : Int) : PureC Tryz.prog 146 [.agg d.row, .c (vi c)] (.tup [.agg (seenOf d c).1.res, .c (.v (.bool (seenOf d c).2)) 1]) := by
  refine PureC.intro' tt_ok Tryz.func146 (by kernel_rfl) rfl rfl rfl (Nat.le_of_ble_eq_true rfl) (fun w0 base => ?_)
  obtain ⟨n1, n2, n3, n4⟩ := nDoc_list hl
  simp [Doc.row]
  intro b2 b4
  refine LoopT.intro eok (fun i : Nat => i ≤ d.seen.length ∧ ∀ j, j < i → ∀ hj : j < d.seen.length, d.seen[j].client ≠ c) (fun i => ⟨22, 0, [(11, .v (.int .i64 i)), (10, .v (.int .i64 d.seen.length)), (9, .ro (d.seen.map Seen.row)), (1, .v (.int .i64 c)), (4, .p 64 b4 0)],
    [(64, .vars b4 186 [.v (.int .i64 0), .v (.int .i64 0), .v (.int .i64 0)])]⟩) (fun i => d.seen.length - i) 0 (by simp) (by simp) (fun i hi => ?_)
  by_cases hlt : i < d.seen.length
  · simp [hlt, Seen.row]
    intro b7
    by_cases hc : d.seen[i].client = c
    · have e : seenOf d c = (d.seen[i], true) := by
        rcases seenOf_cases d c with ⟨i', h, h1, h2, h3⟩ | ⟨h1, _⟩
        · have : i' = i := by
            rcases Nat.lt_trichotomy i' i with hh | hh | hh
            · exact absurd h1 (hi.2 i' hh h)
            · exact hh
            · exact absurd hc (h2 i hh hlt)
          subst this
          exact h3
        · exact absurd hc (h1 i hlt)
      simp [hc, e, Seen.res]
    · simp [hc]
      refine ⟨i + 1, ⟨by omega, fun j hj hjl => ?_⟩, by omega, i64_suc (by omega)⟩
      by_cases hji : j = i
      · subst hji; exact hc
      · exact hi.2 j (by omega) hjl
  · have e : seenOf d c = (⟨0, 0, 0⟩, false) := by
      rcases seenOf_cases d c with ⟨i', h, h1, h2, h3⟩ | ⟨_, h⟩
      · exact absurd h1 (hi.2 i' (by omega) h)
      · exact h
    simp [hlt, e, Seen.res]
end Go.Proofs.YtdfdabjdfmamgaaGreat

