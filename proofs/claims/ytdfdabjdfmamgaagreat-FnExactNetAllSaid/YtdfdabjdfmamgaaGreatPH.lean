import Derived.Test.YtdfdabjdfmamgaaGreatPF
import Derived.Test.YtdfdabjdfmamgaaGreatPC
import Derived.Test.YtdfdabjdfmamgaaGreatNA
import Derived.Test.YtdfdabjdfmamgaaGreatMF
import Derived.Test.YtdfdabjdfmamgaaGreatPG
import Derived.Test.YtdfdabjdfmamgaaGreatPE
import Derived.Lib.AppendZerosOnto
import Derived.Lib.Overlaps
import Derived.Laws.IdiomCopy
import Derived.Laws.Externs
namespace Go.Proofs.YtdfdabjdfmamgaaGreat
open Go.AM
set_option maxRecDepth 20000
set_option maxHeartbeats 1600000

theorem seen_v (l : List Seen) : ∀ a ∈ l, ∀ d ∈ a.row, isV d = true := by
  intro a _ d hd
  simp [Seen.row] at hd
  rcases hd with rfl | rfl | rfl <;> rfl
theorem copyEntries_c (l : List Entry) (hl : nL nEntry l ≤ 2 ^ 30) : PureC Tryz.prog 285 [.c (.s (l.map Entry.row))] (.one (.c (.s (l.map Entry.row)) 3)) := by
  refine PureC.intro' tt_ok Tryz.func285 (by kernel_rfl) rfl rfl rfl (Nat.le_of_ble_eq_true rfl) (fun w0 base => ?_)
  have hle := nL_len hl
  simp
  refine LoopT.introG eok (fun x : Nat × Hd => x.1 ≤ l.length) (fun x => ⟨22, 0, [(8, .v (.int .i64 x.1)), (7, .v (.int .i64 l.length)), (6, .ro (l.map Entry.row)), (3, .sl 5000 x.2 3 0 x.1)], [(5000, .rows x.2 3 ((l.take x.1).map Entry.row) true)]⟩) (fun x => l.length - x.1) (0, none) (by simp) (by simp) (fun x hx => Ent.refl ?_)
  obtain ⟨i, H⟩ := x
  simp only at hx ⊢
  by_cases hlt : i < l.length
  · have hm := nL_at hl hlt
    unfold nEntry at hm
    simp [hlt, Entry.row]
    intro b5
    refine ACall.pure (copyOp_c l[i].o hm) (by simp) ?_
    simp
    intro H1
    have e1 : min i l.length = i := by omega
    simp [e1]
    intro b6
    refine ⟨by omega, fun H2 => Ent.refl ⟨i + 1, by omega, by omega, H2, ?_⟩⟩
    simp
    exact ⟨i64_suc (by omega), take_snoc (f := Entry.row) hlt⟩
  · have e : l.length = i := by omega
    simp [hlt]
    rw [List.take_of_length_le (by simp; omega)]
    simp [cut, e]
theorem l08Entry_c (e : Entry) (hl : nEntry e ≤ 2 ^ 30) : PureC Tryz.prog 328 [.agg e.row] (.one (.agg e.res)) := by
  refine PureC.intro' tt_ok Tryz.func328 (by kernel_rfl) rfl rfl rfl (Nat.le_of_ble_eq_true rfl) (fun w0 base => ?_)
  unfold nEntry at hl
  simp [Entry.row]
  intro b1 b2
  refine DrawT.introS eok mix [0, 1, 2, 3, 4, 5] [6, 7, 8] (.child 6 [true, false, false, false, false, false] [false, true, true, true, true, true] (.child 7 [false, false, true, false, true, false] [false, true, false, true, false, true] (.child 8 [false, true, false, true, false, true] [false, false, false, false, false, false] (.leaf [false, false, false, false, false, false]) .stop) .stop) .stop) (by kernel_rfl) ?_
  simp
  try intros
  refine ACall.pure (l02Copy_c e.o (by omega)) (by simp) ?_
  simp
  try intros
  simp [Entry.res]
theorem l08Entries_c (l : List Entry) (hl : nL nEntry l ≤ 2 ^ 30) : PureC Tryz.prog 282 [.c (.s (l.map Entry.row))] (.one (.c (.s (l.map Entry.row)) 3)) := by
  refine PureC.intro' tt_ok Tryz.func282 (by kernel_rfl) rfl rfl rfl (Nat.le_of_ble_eq_true rfl) (fun w0 base => ?_)
  have hle := nL_len hl
  simp
  intro b6
  refine LoopT.introG eok (fun x : Nat × Hd => x.1 ≤ l.length) (fun x => ⟨20, 0, [(9, .v (.int .i64 x.1)), (8, .v (.int .i64 l.length)), (7, .ro (l.map Entry.row)), (3, .sl 96 x.2 3 0 x.1)], [(96, .rows x.2 3 ((l.take x.1).map Entry.row) true)]⟩) (fun x => l.length - x.1) (0, some (b6, 0, 0)) (by simp) (by simp) (fun x hx => Ent.refl ?_)
  obtain ⟨i, H⟩ := x
  simp only at hx ⊢
  by_cases hlt : i < l.length
  · have hm := nL_at hl hlt
    simp [hlt, Entry.row]
    intro b5
    refine ACall.pure (l08Entry_c l[i] hm) (by simp [Entry.row]) ?_
    simp [Entry.res]
    intro H1
    have e1 : min i l.length = i := by omega
    simp [e1]
    intro b7
    refine ⟨by omega, fun H2 => Ent.refl ⟨i + 1, by omega, by omega, H2, ?_⟩⟩
    simp
    exact ⟨i64_suc (by omega), take_snoc (f := Entry.row) hlt⟩
  · have e : l.length = i := by omega
    simp [hlt]
    rw [List.take_of_length_le (by simp; omega)]
    simp [cut, e]
theorem copyDoc_c (d : Doc) (hl : nDoc d ≤ 2 ^ 30) : PureC Tryz.prog 208 [.agg d.row] (.one (.agg d.res)) := by
  refine PureC.intro' tt_ok Tryz.func208 (by kernel_rfl) rfl rfl rfl (Nat.le_of_ble_eq_true rfl) (fun w0 base => ?_)
  obtain ⟨n1, n2, n3, n4⟩ := nDoc_list hl
  simp [Doc.row]
  intro b1 b2
  refine DrawT.introS eok mix [0, 1, 2, 3, 4, 5, 7, 8, 10, 11] [6, 9, 12, 13, 14] (.child 6 [false, false, false, false, true, false, false, false, false, false] [true, true, true, true, false, true, true, true, true, true] (.child 9 [false, false, true, false, false, false, false, false, false, false] [true, true, false, true, false, true, true, true, true, true] (.child 12 [true, false, false, false, false, false, false, false, false, false] [false, true, false, true, false, true, true, true, true, true] (.child 13 [false, false, false, false, false, false, true, false, true, false] [false, true, false, true, false, true, false, true, false, true] (.child 14 [false, true, false, true, false, true, false, true, false, true] [false, false, false, false, false, false, false, false, false, false] (.leaf [false, false, false, false, false, false, false, false, false, false]) .stop) .stop) .stop) .stop) .stop) (by kernel_rfl) ?_
  simp
  try intros
  refine ACall.pure (copyInts_c d.text (by omega)) (by simp) ?_
  simp
  try intros
  refine ACall.pure (copyEntries_c d.list n1) (by simp) ?_
  simp
  try intros
  refine ⟨seen_v d.seen, by omega, fun H => ?_⟩
  simp [Doc.res]
theorem l08Copy_c (d : Doc) (hl : nDoc d ≤ 2 ^ 30) : PureC Tryz.prog 205 [.agg d.row] (.one (.agg d.res)) := by
  refine PureC.intro' tt_ok Tryz.func205 (by kernel_rfl) rfl rfl rfl (Nat.le_of_ble_eq_true rfl) (fun w0 base => ?_)
  obtain ⟨n1, n2, n3, n4⟩ := nDoc_list hl
  simp [Doc.row]
  intro b1 b2
  have h8 : d.text.length * 8 ≤ 140737488355328 := by omega
  have h24 : d.seen.length * 24 ≤ 140737488355328 := by omega
  refine DrawT.introS eok mix [0, 1, 2, 3, 5, 6, 8, 9, 12, 13] [4, 7, 10, 11, 14, 15, 16] (.child 4 [false, false, false, false, false, false, false, false, false, false] [true, true, true, true, true, true, true, true, true, true] (.child 7 [false, false, false, false, true, false, false, false, false, false] [true, true, true, true, false, true, true, true, true, true] (.child 10 [false, false, true, false, false, false, false, false, false, false] [true, true, false, true, false, true, true, true, true, true] (.child 11 [false, false, false, false, false, false, false, false, false, false] [true, true, false, true, false, true, true, true, true, true] (.child 14 [true, false, false, false, false, false, false, false, false, false] [false, true, false, true, false, true, true, true, true, true] (.child 15 [false, false, false, false, false, false, true, false, true, false] [false, true, false, true, false, true, false, true, false, true] (.child 16 [false, true, false, true, false, true, false, true, false, true] [false, false, false, false, false, false, false, false, false, false] (.leaf [false, false, false, false, false, false, false, false, false, false]) .stop) .stop) .stop) .stop) (.child 11 [false, false, false, false, false, false, false, false, false, false] [true, true, true, true, false, true, true, true, true, true] (.child 10 [false, false, true, false, false, false, false, false, false, false] [true, true, false, true, false, true, true, true, true, true] (.child 14 [true, false, false, false, false, false, false, false, false, false] [false, true, false, true, false, true, true, true, true, true] (.child 15 [false, false, false, false, false, false, true, false, true, false] [false, true, false, true, false, true, false, true, false, true] (.child 16 [false, true, false, true, false, true, false, true, false, true] [false, false, false, false, false, false, false, false, false, false] (.leaf [false, false, false, false, false, false, false, false, false, false]) .stop) .stop) .stop) .stop) .stop)) (.child 11 [false, false, false, false, false, false, false, false, false, false] [true, true, true, true, true, true, true, true, true, true] (.child 7 [false, false, false, false, true, false, false, false, false, false] [true, true, true, true, false, true, true, true, true, true] (.child 10 [false, false, true, false, false, false, false, false, false, false] [true, true, false, true, false, true, true, true, true, true] (.child 14 [true, false, false, false, false, false, false, false, false, false] [false, true, false, true, false, true, true, true, true, true] (.child 15 [false, false, false, false, false, false, true, false, true, false] [false, true, false, true, false, true, false, true, false, true] (.child 16 [false, true, false, true, false, true, false, true, false, true] [false, false, false, false, false, false, false, false, false, false] (.leaf [false, false, false, false, false, false, false, false, false, false]) .stop) .stop) .stop) .stop) .stop) .stop)) (.child 11 [false, false, false, false, false, false, false, false, false, false] [true, true, true, true, true, true, true, true, true, true] (.child 4 [false, false, false, false, false, false, false, false, false, false] [true, true, true, true, true, true, true, true, true, true] (.child 7 [false, false, false, false, true, false, false, false, false, false] [true, true, true, true, false, true, true, true, true, true] (.child 10 [false, false, true, false, false, false, false, false, false, false] [true, true, false, true, false, true, true, true, true, true] (.child 14 [true, false, false, false, false, false, false, false, false, false] [false, true, false, true, false, true, true, true, true, true] (.child 15 [false, false, false, false, false, false, true, false, true, false] [false, true, false, true, false, true, false, true, false, true] (.child 16 [false, true, false, true, false, true, false, true, false, true] [false, false, false, false, false, false, false, false, false, false] (.leaf [false, false, false, false, false, false, false, false, false, false]) .stop) .stop) .stop) .stop) .stop) .stop) .stop)) (by kernel_rfl) ?_
  simp
  try intros
  rw [Tr_child]
  refine ⟨?_, ?_⟩
  · skip
    simp
    try intros
    rw [Tr_child]
    refine ⟨?_, ?_⟩
    · skip
      simp [h8]
      try intros
      rw [Tr_child]
      refine ⟨?_, ?_⟩
      · skip
        simp [h24]
        try intros
        refine ACall.pure (l08Entries_c d.list n1) (by simp) ?_
        simp
        try intros
        simp [Doc.res]
        exact seen_v d.seen
      · skip
        simp
        try intros
        refine ACall.pure (l08Entries_c d.list n1) (by simp) ?_
        simp [h24]
        try intros
        simp [Doc.res]
        exact seen_v d.seen
    · skip
      simp [h8]
      try intros
      refine ACall.pure (l08Entries_c d.list n1) (by simp) ?_
      simp [h24]
      try intros
      simp [Doc.res]
      exact seen_v d.seen
  · skip
    simp [h8]
    try intros
    refine ACall.pure (l08Entries_c d.list n1) (by simp) ?_
    simp [h24]
    try intros
    simp [Doc.res]
    exact seen_v d.seen
end Go.Proofs.YtdfdabjdfmamgaaGreat

namespace Go.Proofs.YtdfdabjdfmamgaaGreat
open Go.AM
set_option maxRecDepth 20000
set_option maxHeartbeats 1600000
noncomputable def pastR : List (List Part) → List Part → Option (List (List Part) × List Part)
  | [], v => some ([], v)
  | a :: l, v => if (fTransform a v).2.2 = true then (pastR l (fTransform a v).2.1).map (fun r => ((fTransform a v).1 :: r.1, r.2)) else none
theorem pastR_L : ∀ (l : List (List Part)) (v : List Part), (pastR l v).map Prod.snd = pastL l v
  | [], v => rfl
  | a :: l, v => by
    rw [pastR, pastL]
    split
    · rw [← pastR_L l, Option.map_map]; rfl
    · rfl
open Classical in
noncomputable def fPastA (l : List (List Part)) (b : List Part) : List (List Part) × List Part × Bool :=
  if opOk b then match pastR l (opNorm b) with
    | some r => (r.1, r.2, true)
    | none => ([], [], false)
  else ([], [], false)
theorem fPastA_snd (l : List (List Part)) (b : List Part) : (fPastA l b).2 = fPast l b := by
  unfold fPastA fPast
  split
  · rw [← pastR_L]
    cases pastR l (opNorm b) <;> rfl
  · rfl
theorem pastR_drop {l : List (List Part)} {i : Nat} {v : List Part} (h : i < l.length) : pastR (l.drop i) v = if (fTransform l[i] v).2.2 = true then (pastR (l.drop (i + 1)) (fTransform l[i] v).2.1).map (fun r => ((fTransform l[i] v).1 :: r.1, r.2)) else none := by
  rw [List.drop_eq_getElem_cons h, pastR]
theorem pastR_end {l : List (List Part)} {i : Nat} {v : List Part} (h : l.length ≤ i) : pastR (l.drop i) v = some ([], v) := by
  rw [List.drop_eq_nil_of_le h, pastR]
theorem implPastA_c (l : List (List Part)) (b : List Part) (hl : l.length ≤ 2 ^ 30) (hs : ∀ o ∈ l, nL nPart o ≤ 2 ^ 40) (hb : nL nPart b ≤ 2 ^ 40) : PureC Tryz.prog 353 [.c (.s (l.map partsR)), .c (.s (b.map Part.row))]
    (.tup [.c (.s ((fPastA l b).1.map partsR)) 1, .c (.s ((fPastA l b).2.1.map Part.row)) 3, .c (.v (.bool (fPastA l b).2.2)) 1]) := by
  refine PureC.intro' tt_ok Tryz.func353 (by kernel_rfl) rfl rfl rfl (Nat.le_of_ble_eq_true rfl) (fun w0 base => ?_)
  simp
  refine ACall.pure (implOpOk_c b hb) (by simp) ?_
  by_cases c1 : opOk b
  rotate_left
  · have e : fPastA l b = ([], [], false) := by unfold fPastA; rw [if_neg c1]
    simp [dc_neg c1, e]
  have e : fPastA l b = match pastR l (opNorm b) with
    | some r => (r.1, r.2, true)
    | none => ([], [], false) := by unfold fPastA; rw [if_pos c1]
  simp [c1]
  refine ACall.pure (implOpNorm_c b hb) (by simp) ?_
  simp
  intro H0
  refine LoopT.introG eok (fun x : (Nat × List (List Part) × List Part × Nat) × Hd × Hd => (x.1.2.2.2 = 288 ∨ x.1.2.2.2 = 449) ∧ (x.1.1 ≤ l.length ∧ x.1.2.1.length = x.1.1) ∧ nL nPart x.1.2.2.1 ≤ 2 ^ 40 ∧ pastR l (opNorm b) = (pastR (l.drop x.1.1) x.1.2.2.1).map (fun r => (x.1.2.1 ++ r.1, r.2)))
    (fun x => ⟨42, 0, [(21, .v (.int .i64 x.1.1)), (20, .v (.int .i64 l.length)), (19, .ro (l.map partsR)), (8, .sl x.1.2.2.2 x.2.2 3 0 x.1.2.2.1.length), (7, .sl 5000 x.2.1 1 0 x.1.2.1.length)],
      [(5000, .rows x.2.1 1 (x.1.2.1.map partsR) true), (x.1.2.2.2, .rows x.2.2 3 (x.1.2.2.1.map Part.row) true)]⟩) (fun x => l.length - x.1.1) ((0, [], opNorm b, 288), none, H0) ⟨.inl rfl, by simp, by have := opNorm_n b; simp only; omega, by simp⟩ (by simp) (fun x hx => Ent.refl ?_)
  obtain ⟨⟨i, L, v, kk⟩, H1, H2⟩ := x
  obtain ⟨hk, ⟨hi, hLl⟩, hv, hp⟩ := hx
  simp only at hk hi hLl hv hp ⊢
  have k5 : ¬ kk = 5000 := by omega
  have k5' : ¬ 5000 = kk := by omega
  by_cases hlt : i < l.length
  · rw [pastR_drop hlt] at hp
    have hn := fTransform_n l[i] v
    simp [hlt]
    refine ACall.pure (implTransform_i l[i] v (hs _ (List.getElem_mem hlt)) hv) (by simp [k5]) ?_
    generalize fTransform l[i] v = Q at hp hn ⊢
    obtain ⟨x, y, ok⟩ := Q
    simp only at hp hn ⊢
    simp
    intro G1 G2
    cases ok with
    | false =>
      simp at hp
      rw [hp] at e
      simp [e]
    | true =>
      simp only [if_true] at hp
      simp
      intro b6
      refine ⟨by omega, fun H => Ent.refl ⟨i + 1, L ++ [x], y, 449, ⟨.inr rfl, ⟨by omega, by simp; omega⟩, by omega, ?_⟩, by omega, H, G2, ?_⟩⟩
      · rw [hp]
        cases pastR (l.drop (i + 1)) y <;> simp
      · simp
        exact i64_suc (by omega)
  · rw [pastR_end (by omega)] at hp
    simp only [Option.map_some, List.append_nil] at hp
    rw [hp] at e
    simp [hlt, e, k5]
theorem fPast_n (l : List (List Part)) (b : List Part) : nL nPart (fPast l b).1 ≤ 2 ^ 20 := by
  have key : ∀ (l : List (List Part)) (v u : List Part), nL nPart v ≤ 2 ^ 20 → pastL l v = some u → nL nPart u ≤ 2 ^ 20 := by
    intro l
    induction l with
    | nil => intro v u h1 h2; simp only [pastL, Option.some.injEq] at h2; exact h2 ▸ h1
    | cons a l ih =>
      intro v u h1 h2
      rw [pastL] at h2
      split at h2
      · exact ih _ u (by have := fTransform_n a v; omega) h2
      · cases h2
  unfold fPast
  split
  · cases h : pastL l (opNorm b) with
    | none => simp [nL, sumN]
    | some v => exact key l _ v (opNorm_n b) h
  · simp [nL, sumN]
theorem implPast_c (l : List (List Part)) (b : List Part) (hl : l.length ≤ 2 ^ 30) (hs : ∀ o ∈ l, nL nPart o ≤ 2 ^ 40) (hb : nL nPart b ≤ 2 ^ 40) : PureC Tryz.prog 341 [.c (.s (l.map partsR)), .c (.s (b.map Part.row))]
    (.tup [.c (.s ((fPast l b).1.map Part.row)) 3, .c (.v (.bool (fPast l b).2)) 1]) := by
  refine PureC.intro' tt_ok Tryz.func341 (by kernel_rfl) rfl rfl rfl (Nat.le_of_ble_eq_true rfl) (fun w0 base => ?_)
  simp
  refine ACall.pure (implPastA_c l b hl hs hb) (by simp) ?_
  rw [← fPastA_snd]
  generalize fPastA l b = Q
  obtain ⟨x, y, ok⟩ := Q
  simp
theorem specPastA_c (l : List (List Part)) (b : List Part) (hl : l.length ≤ 2 ^ 30) (hs : ∀ o ∈ l, nL nPart o ≤ 2 ^ 40) (hb : nL nPart b ≤ 2 ^ 40) : PureC Tryz.prog 352 [.c (.s (l.map partsR)), .c (.s (b.map Part.row))]
    (.tup [.c (.s ((fPastA l b).1.map partsR)) 1, .c (.s ((fPastA l b).2.1.map Part.row)) 3, .c (.v (.bool (fPastA l b).2.2)) 1]) := by
  refine PureC.intro' tt_ok Tryz.func352 (by kernel_rfl) rfl rfl rfl (Nat.le_of_ble_eq_true rfl) (fun w0 base => ?_)
  simp
  refine ACall.pure (specOpOk_c b hb) (by simp) ?_
  by_cases c1 : opOk b
  rotate_left
  · have e : fPastA l b = ([], [], false) := by unfold fPastA; rw [if_neg c1]
    simp [dc_neg c1, e]
  have e : fPastA l b = match pastR l (opNorm b) with
    | some r => (r.1, r.2, true)
    | none => ([], [], false) := by unfold fPastA; rw [if_pos c1]
  simp [c1]
  intro b9
  refine ACall.pure (specOpNorm_c b hb) (by simp) ?_
  simp
  intro H0
  refine LoopT.introG eok (fun x : (Nat × List (List Part) × List Part × Nat) × Hd × Hd => (x.1.2.2.2 = 304 ∨ x.1.2.2.2 = 465) ∧ (x.1.1 ≤ l.length ∧ x.1.2.1.length = x.1.1) ∧ nL nPart x.1.2.2.1 ≤ 2 ^ 40 ∧ pastR l (opNorm b) = (pastR (l.drop x.1.1) x.1.2.2.1).map (fun r => (x.1.2.1 ++ r.1, r.2)))
    (fun x => ⟨43, 0, [(22, .v (.int .i64 x.1.1)), (21, .v (.int .i64 l.length)), (20, .ro (l.map partsR)), (8, .sl x.1.2.2.2 x.2.2 3 0 x.1.2.2.1.length), (7, .sl 272 x.2.1 1 0 x.1.2.1.length)],
      [(272, .rows x.2.1 1 (x.1.2.1.map partsR) true), (x.1.2.2.2, .rows x.2.2 3 (x.1.2.2.1.map Part.row) true)]⟩) (fun x => l.length - x.1.1) ((0, [], opNorm b, 304), some (b9, 0, 0), H0) ⟨.inl rfl, by simp, by have := opNorm_n b; simp only; omega, by simp⟩ (by simp) (fun x hx => Ent.refl ?_)
  obtain ⟨⟨i, L, v, kk⟩, H1, H2⟩ := x
  obtain ⟨hk, ⟨hi, hLl⟩, hv, hp⟩ := hx
  simp only at hk hi hLl hv hp ⊢
  have k5 : ¬ kk = 272 := by omega
  have k5' : ¬ 272 = kk := by omega
  by_cases hlt : i < l.length
  · rw [pastR_drop hlt] at hp
    have hn := fTransform_n l[i] v
    simp [hlt]
    refine ACall.pure (specTransform_i l[i] v (hs _ (List.getElem_mem hlt)) hv) (by simp [k5]) ?_
    generalize fTransform l[i] v = Q at hp hn ⊢
    obtain ⟨x, y, ok⟩ := Q
    simp only at hp hn ⊢
    simp
    intro G1 G2
    cases ok with
    | false =>
      simp at hp
      rw [hp] at e
      simp [e]
    | true =>
      simp only [if_true] at hp
      simp
      intro b6
      refine ⟨by omega, fun H => Ent.refl ⟨i + 1, L ++ [x], y, 465, ⟨.inr rfl, ⟨by omega, by simp; omega⟩, by omega, ?_⟩, by omega, H, G2, ?_⟩⟩
      · rw [hp]
        cases pastR (l.drop (i + 1)) y <;> simp
      · simp
        exact i64_suc (by omega)
  · rw [pastR_end (by omega)] at hp
    simp only [Option.map_some, List.append_nil] at hp
    rw [hp] at e
    simp [hlt, e, k5]
theorem specPast_c (l : List (List Part)) (b : List Part) (hl : l.length ≤ 2 ^ 30) (hs : ∀ o ∈ l, nL nPart o ≤ 2 ^ 40) (hb : nL nPart b ≤ 2 ^ 40) : PureC Tryz.prog 336 [.c (.s (l.map partsR)), .c (.s (b.map Part.row))]
    (.tup [.c (.s ((fPast l b).1.map Part.row)) 3, .c (.v (.bool (fPast l b).2)) 1]) := by
  refine PureC.intro' tt_ok Tryz.func336 (by kernel_rfl) rfl rfl rfl (Nat.le_of_ble_eq_true rfl) (fun w0 base => ?_)
  simp
  refine ACall.pure (specPastA_c l b hl hs hb) (by simp) ?_
  rw [← fPastA_snd]
  generalize fPastA l b = Q
  obtain ⟨x, y, ok⟩ := Q
  simp
end Go.Proofs.YtdfdabjdfmamgaaGreat

namespace Go.Proofs.YtdfdabjdfmamgaaGreat
open Go.AM
set_option maxRecDepth 20000
set_option maxHeartbeats 1600000

noncomputable def atBase (d : Doc) (rev : Int) : Int := if headRev d < rev then 2 else if rev < d.fr then 3 else 0
theorem atBase_c (d : Doc) (rev : Int) : PureC Tryz.prog 319 [.agg d.row, .c (vi rev)] (.one (.c (vi (atBase d rev)) 1)) := by
  refine PureC.intro' tt_ok Tryz.func319 (by kernel_rfl) rfl rfl rfl (Nat.le_of_ble_eq_true rfl) (fun w0 base => ?_)
  simp [Doc.row]
  intro b
  refine ACall.pure (implHeadRev_c d) (by simp [Doc.row]) ?_
  unfold atBase
  by_cases c1 : headRev d < rev
  · simp [c1]
  · by_cases c2 : rev < d.fr
    · simp [c1, c2]
    · simp [c1, c2]
open Classical in
noncomputable def opsSince (d : Doc) (rev : Int) : List (List Part) × Bool := if docOk d ∧ d.fr ≤ rev ∧ rev ≤ headRev d then ((d.list.drop (rev - d.fr).toNat).map Entry.o, true) else ([], false)
theorem opsSince_no {d : Doc} {rev : Int} (h : ¬ (docOk d ∧ d.fr ≤ rev ∧ rev ≤ headRev d)) : opsSince d rev = ([], false) := by unfold opsSince; rw [if_neg h]
theorem opsSince_yes {d : Doc} {rev : Int} (h : docOk d ∧ d.fr ≤ rev ∧ rev ≤ headRev d) : opsSince d rev = ((d.list.drop (rev - d.fr).toNat).map Entry.o, true) := by unfold opsSince; rw [if_pos h]
theorem sumN_drop' {α : Type} {f : α → Nat} : ∀ (l : List α) (k : Nat), sumN f (l.drop k) ≤ sumN f l
  | [], k => by simp
  | a :: l, 0 => by simp
  | a :: l, k + 1 => by have := sumN_drop' (f := f) l k; simp only [List.drop_succ_cons, sumN]; omega
theorem nL_drop {α : Type} {f : α → Nat} {l : List α} {k B : Nat} (h : nL f l ≤ B) : nL f (l.drop k) ≤ B := by
  have := sumN_drop' (f := f) l k
  unfold nL at *
  simp only [List.length_drop]
  omega
theorem cut_dropE {l : List Entry} {k : Nat} (_h : k ≤ l.length) : cut (l.map Entry.row) k (l.length - k) = (l.drop k).map Entry.row := by
  unfold cut
  split
  · rename_i h1
    rw [h1.1]; simp
  · rw [← List.map_drop, List.take_of_length_le (by simp)]
theorem implOpsSince_c (d : Doc) (hl : nDoc d ≤ 2 ^ 30) (rev : Int) : PureC Tryz.prog 340 [.agg d.row, .c (vi rev)] (.tup [.c (.s ((opsSince d rev).1.map partsR)) 1, .c (.v (.bool (opsSince d rev).2)) 1]) := by
  refine PureC.intro' tt_ok Tryz.func340 (by kernel_rfl) rfl rfl rfl (Nat.le_of_ble_eq_true rfl) (fun w0 base => ?_)
  obtain ⟨n1, n2, n3, n4⟩ := nDoc_list hl
  simp [Doc.row]
  intro b2
  refine DrawT.quiet eok mix (by kernel_rfl) ?_
  simp
  refine ⟨_, _, implDocOk_c d hl, by simp [Doc.row], ?_⟩
  by_cases c1 : docOk d
  rotate_left
  · have e := opsSince_no (d := d) (rev := rev) (fun h => c1 h.1)
    simp [dc_neg c1, e]
  simp [c1]
  refine ⟨_, _, implHeadRev_c d, by simp [Doc.row], ?_⟩
  simp
  refine ⟨_, _, within_c rev d.fr (headRev d), by simp, ?_⟩
  by_cases c2 : d.fr ≤ rev ∧ rev ≤ headRev d
  rotate_left
  · have e := opsSince_no (d := d) (rev := rev) (fun h => c2 h.2)
    simp [dc_neg c2, e]
  have e := opsSince_yes ⟨c1, c2⟩
  have hh := docOk_head c1
  obtain ⟨k, hk⟩ : ∃ k : Nat, rev - d.fr = k := ⟨(rev - d.fr).toNat, by omega⟩
  have hkl : k ≤ d.list.length := by omega
  have ew : Go.IntKind.i64.wrap (rev - d.fr) = (k : Int) := by rw [Go.IntWalk.i64_in _ (by omega)]; omega
  rw [hk] at e
  simp only [Int.toNat_natCast] at e
  simp [c2, ew, hkl, cut_dropE hkl]
  refine ACall.pure (opsOf_c (d.list.drop k) (nL_drop n1)) (by simp) ?_
  simp [e]
  intro row h
  have := List.mem_of_mem_drop h
  simp at this
  obtain ⟨x, -, rfl⟩ := this
  rfl
theorem specOpsSince_c (d : Doc) (hl : nDoc d ≤ 2 ^ 30) (rev : Int) : PureC Tryz.prog 335 [.agg d.row, .c (vi rev)] (.tup [.c (.s ((opsSince d rev).1.map partsR)) 1, .c (.v (.bool (opsSince d rev).2)) 1]) := by
  refine PureC.intro' tt_ok Tryz.func335 (by kernel_rfl) rfl rfl rfl (Nat.le_of_ble_eq_true rfl) (fun w0 base => ?_)
  obtain ⟨n1, n2, n3, n4⟩ := nDoc_list hl
  simp [Doc.row]
  intro b2
  refine DrawT.quiet eok mix (by kernel_rfl) ?_
  simp
  refine ⟨_, _, specDocOk_c d hl, by simp [Doc.row], ?_⟩
  by_cases c1 : docOk d
  rotate_left
  · have e := opsSince_no (d := d) (rev := rev) (fun h => c1 h.1)
    simp [dc_neg c1, e]
  simp [c1]
  refine ⟨_, _, specHeadRev_c d, by simp [Doc.row], ?_⟩
  simp
  refine ⟨_, _, l01In_c rev d.fr (headRev d), by simp, ?_⟩
  by_cases c2 : d.fr ≤ rev ∧ rev ≤ headRev d
  rotate_left
  · have e := opsSince_no (d := d) (rev := rev) (fun h => c2 h.2)
    simp [dc_neg c2, e]
  have e := opsSince_yes ⟨c1, c2⟩
  have hh := docOk_head c1
  obtain ⟨k, hk⟩ : ∃ k : Nat, rev - d.fr = k := ⟨(rev - d.fr).toNat, by omega⟩
  have hkl : k ≤ d.list.length := by omega
  have ew : Go.IntKind.i64.wrap (rev - d.fr) = (k : Int) := by rw [Go.IntWalk.i64_in _ (by omega)]; omega
  rw [hk] at e
  simp only [Int.toNat_natCast] at e
  simp [c2, ew, hkl, cut_dropE hkl]
  intro b21
  obtain ⟨l, hl'⟩ : ∃ l, d.list.drop k = l := ⟨_, rfl⟩
  have hn : nL nEntry l ≤ 2 ^ 30 := hl' ▸ nL_drop n1
  have hll : d.list.length - k = l.length := by rw [← hl']; simp
  have hle := nL_len hn
  rw [hl'] at e
  simp only [← List.map_drop, hl', hll]
  refine LoopT.introG eok (fun x : Nat × Hd => x.1 ≤ l.length) (fun x => ⟨42, 0, [(30, .v (.int .i64 x.1)), (29, .v (.int .i64 l.length)), (28, .ro (l.map Entry.row)), (6, .sl 336 x.2 1 0 x.1)], [(336, .rows x.2 1 (((l.take x.1).map Entry.o).map partsR) true)]⟩) (fun x => l.length - x.1) (0, some (b21, 0, 0)) (by simp) (by simp) (fun x hx => Ent.refl ?_)
  obtain ⟨i, H⟩ := x
  simp only at hx ⊢
  by_cases hlt : i < l.length
  · have hm := nL_at hn hlt
    unfold nEntry at hm
    simp [hlt, Entry.row]
    intro b5
    refine ACall.pure (l02Copy_c l[i].o hm) (by simp) ?_
    simp
    intro H1 b
    have e1 : i = min i l.length := by omega
    refine ⟨e1, by omega, fun H2 => Ent.refl ⟨i + 1, by omega, by omega, H2, ?_⟩⟩
    simp
    exact ⟨i64_suc (by omega), take_snoc (f := fun e : Entry => partsR e.o) hlt⟩
  · have e2 : l.length = i := by omega
    simp [hlt, e]
    have e1 : i ≤ min i l.length := by omega
    refine ⟨e1, ?_, ?_⟩
    · intro row hr
      have := List.mem_of_mem_take hr
      simp at this
      obtain ⟨x, -, rfl⟩ := this
      rfl
    · rw [List.take_of_length_le (by simp; omega)]
      simp [cut, e2]

theorem drop_rows3 (l : List Entry) (k : Nat) : ∀ row ∈ List.drop k (List.map Entry.row l), row.length = 3 := by
  intro row h
  have := List.mem_of_mem_drop h
  simp at this
  obtain ⟨x, -, rfl⟩ := this
  rfl
open Classical in
theorem fFetch_no {d : Doc} {rev : Int} (h : ¬ docOk d) : fFetch d rev = ([], 1) := by unfold fFetch; rw [if_neg h]
theorem fFetch_yes {d : Doc} {rev : Int} (h : docOk d) : fFetch d rev = if headRev d < rev then ([], 2) else if rev < d.fr then ([], 3) else (d.list.drop (rev - d.fr).toNat, 0) := by unfold fFetch; rw [if_pos h]
theorem implFetch_c (d : Doc) (hl : nDoc d ≤ 2 ^ 30) (rev : Int) : PureC Tryz.prog 248 [.agg d.row, .c (vi rev)] (.tup [.c (.s ((fFetch d rev).1.map Entry.row)) 3, .c (vi (fFetch d rev).2) 1]) := by
  refine PureC.intro' tt_ok Tryz.func248 (by kernel_rfl) rfl rfl rfl (Nat.le_of_ble_eq_true rfl) (fun w0 base => ?_)
  obtain ⟨n1, n2, n3, n4⟩ := nDoc_list hl
  simp [Doc.row]
  intro b2
  refine ACall.pure (implDocOk_c d hl) (by simp [Doc.row]) ?_
  by_cases c1 : docOk d
  rotate_left
  · simp [dc_neg c1, fFetch_no c1]
  have e := fFetch_yes (rev := rev) c1
  simp [c1]
  refine ACall.pure (atBase_c d rev) (by simp [Doc.row]) ?_
  unfold atBase
  by_cases c2 : headRev d < rev
  · simp [c2, e]
  by_cases c3 : rev < d.fr
  · simp [c2, c3, e]
  have hh := docOk_head c1
  obtain ⟨k, hk⟩ : ∃ k : Nat, rev - d.fr = k := ⟨(rev - d.fr).toNat, by omega⟩
  have hkl : k ≤ d.list.length := by omega
  have ew : Go.IntKind.i64.wrap (rev - d.fr) = (k : Int) := by rw [Go.IntWalk.i64_in _ (by omega)]; omega
  simp only [c2, c3, if_false, hk, Int.toNat_natCast] at e
  simp [c2, c3, ew, hkl, cut_dropE hkl]
  refine ACall.pure (copyEntries_c (d.list.drop k) (nL_drop n1)) (by simp) ?_
  simp [e]
  exact drop_rows3 _ _
theorem specFetch_c (d : Doc) (hl : nDoc d ≤ 2 ^ 30) (rev : Int) : PureC Tryz.prog 238 [.agg d.row, .c (vi rev)] (.tup [.c (.s ((fFetch d rev).1.map Entry.row)) 3, .c (vi (fFetch d rev).2) 1]) := by
  refine PureC.intro' tt_ok Tryz.func238 (by kernel_rfl) rfl rfl rfl (Nat.le_of_ble_eq_true rfl) (fun w0 base => ?_)
  obtain ⟨n1, n2, n3, n4⟩ := nDoc_list hl
  simp [Doc.row]
  intro b2
  refine ACall.pure (specDocOk_c d hl) (by simp [Doc.row]) ?_
  by_cases c1 : docOk d
  rotate_left
  · simp [dc_neg c1, fFetch_no c1]
  have e := fFetch_yes (rev := rev) c1
  simp [c1]
  refine ACall.pure (specHeadRev_c d) (by simp [Doc.row]) ?_
  by_cases c2 : headRev d < rev
  · simp [c2, e]
  by_cases c3 : rev < d.fr
  · simp [c2, c3, e]
  have hh := docOk_head c1
  obtain ⟨k, hk⟩ : ∃ k : Nat, rev - d.fr = k := ⟨(rev - d.fr).toNat, by omega⟩
  have hkl : k ≤ d.list.length := by omega
  have ew : Go.IntKind.i64.wrap (rev - d.fr) = (k : Int) := by rw [Go.IntWalk.i64_in _ (by omega)]; omega
  simp only [c2, c3, if_false, hk, Int.toNat_natCast] at e
  simp [c2, c3, ew, hkl, cut_dropE hkl]
  refine ACall.pure (l08Entries_c (d.list.drop k) (nL_drop n1)) (by simp) ?_
  simp [e]
  exact drop_rows3 _ _

theorem specHeadText_c (d : Doc) (hl : nDoc d ≤ 2 ^ 30) : PureC Tryz.prog 78 [.agg d.row] (.one (.c (.s ((headText d).map intR)) 1)) := by
  refine PureC.intro' tt_ok Tryz.func78 (by kernel_rfl) rfl rfl rfl (Nat.le_of_ble_eq_true rfl) (fun w0 base => ?_)
  simp [Doc.row]
  intro b2
  refine DrawT.introS eok mix [0, 1] [2, 3, 4, 5, 6, 7, 8] (.child 2 [true, false] [false, true] (.child 3 [false, true] [false, false] (.child 4 [false, false] [false, false] (.child 5 [false, false] [false, false] (.child 6 [false, false] [false, false] (.child 7 [false, false] [false, false] (.child 8 [false, false] [false, false] (.leaf [false, false]) .stop) .stop) .stop) .stop) .stop) .stop) .stop) (by kernel_rfl) ?_
  simp
  try intros
  refine ACall.pure (specHeadRev_c d) (by simp [Doc.row]) ?_
  simp
  try intros
  refine ACall.pure (specTextAt_c d hl (headRev d)) (by simp [Doc.row]) ?_
  simp
  try intros
  simp [headText]

theorem implHeadText_c (d : Doc) (hl : nDoc d ≤ 2 ^ 30) : PureC Tryz.prog 85 [.agg d.row] (.one (.c (.s ((headText d).map intR)) 1)) := by
  refine PureC.intro' tt_ok Tryz.func85 (by kernel_rfl) rfl rfl rfl (Nat.le_of_ble_eq_true rfl) (fun w0 base => ?_)
  simp [Doc.row]
  intro b2
  refine DrawT.introS eok mix [0, 1] [2, 3, 4, 5, 6, 7, 8] (.child 2 [true, false] [false, true] (.child 3 [false, true] [false, false] (.child 4 [false, false] [false, false] (.child 5 [false, false] [false, false] (.child 6 [false, false] [false, false] (.child 7 [false, false] [false, false] (.child 8 [false, false] [false, false] (.leaf [false, false]) .stop) .stop) .stop) .stop) .stop) .stop) .stop) (by kernel_rfl) ?_
  simp
  try intros
  refine ACall.pure (implHeadRev_c d) (by simp [Doc.row]) ?_
  simp
  try intros
  refine ACall.pure (implTextAt_c d hl (headRev d)) (by simp [Doc.row]) ?_
  simp
  try intros
  simp [headText]

theorem fRebase_no {d : Doc} {base : Int} {o : List Part} (h : ¬ (docOk d ∧ opOk o)) : fRebase d base o = ([], 1) := by unfold fRebase; rw [if_neg h]
theorem fRebase_yes {d : Doc} {base : Int} {o : List Part} (h : docOk d ∧ opOk o) : fRebase d base o = if headRev d < base then ([], 2) else if base < d.fr then ([], 3) else
    if opFrom o = (textAt d base).1.length then
      if (fPast ((d.list.drop (base - d.fr).toNat).map Entry.o) o).2 = true then ((fPast ((d.list.drop (base - d.fr).toNat).map Entry.o) o).1, 0) else ([], 5)
    else ([], 1) := by unfold fRebase; rw [if_pos h]
theorem implRebase_c (d : Doc) (hl : nDoc d ≤ 2 ^ 30) (base : Int) (o : List Part) (ho : nL nPart o ≤ 2 ^ 40) : PureC Tryz.prog 317 [.agg d.row, .c (vi base), .c (.s (o.map Part.row))] (.tup [.c (.s ((fRebase d base o).1.map Part.row)) 3, .c (vi (fRebase d base o).2) 1]) := by
  refine PureC.intro' tt_ok Tryz.func317 (by kernel_rfl) rfl rfl rfl (Nat.le_of_ble_eq_true rfl) (fun w0 bs => ?_)
  obtain ⟨n1, n2, n3, n4⟩ := nDoc_list hl
  simp [Doc.row]
  intro b3
  refine ACall.pure (implDocOk_c d hl) (by simp [Doc.row]) ?_
  by_cases c1 : docOk d
  rotate_left
  · simp [dc_neg c1, fRebase_no (d := d) (base := base) (o := o) (fun h => c1 h.1)]
  simp [c1]
  refine ACall.pure (implOpOk_c o ho) (by simp) ?_
  by_cases c2 : opOk o
  rotate_left
  · simp [dc_neg c2, fRebase_no (d := d) (base := base) (o := o) (fun h => c2 h.2)]
  have e := fRebase_yes (base := base) ⟨c1, c2⟩
  simp [c2]
  refine ACall.pure (atBase_c d base) (by simp [Doc.row]) ?_
  unfold atBase
  by_cases c3 : headRev d < base
  · simp [c3, e]
  by_cases c4 : base < d.fr
  · simp [c3, c4, e]
  have hh := docOk_head c1
  have c5 : docOk d ∧ d.fr ≤ base ∧ base ≤ headRev d := ⟨c1, by omega, by omega⟩
  have hops := opsSince_yes c5
  simp only [c3, c4, if_false] at e
  simp [c3, c4]
  refine ACall.pure (implTextAt_c d hl base) (by simp [Doc.row]) ?_
  generalize textAt d base = T at e ⊢
  obtain ⟨t, ok⟩ := T
  simp only at e ⊢
  simp
  intro H1
  refine ACall.pure (implOpFrom_c o ho) (by simp) ?_
  by_cases c6 : opFrom o = t.length
  rotate_left
  · simp only [c6, if_false] at e
    simp [c6, e]
  simp only [c6, if_true] at e
  simp [c6]
  refine ACall.pure (implOpsSince_c d hl base) (by simp [Doc.row]) ?_
  rw [hops]
  generalize hL : (d.list.drop (base - d.fr).toNat) = L at e ⊢
  have hL1 : L.length ≤ d.list.length := by rw [← hL]; simp
  have hle := nL_len n1
  have hs : ∀ q ∈ L.map Entry.o, nL nPart q ≤ 2 ^ 40 := fun q hq => by
    have := docOk_ops n1 (l := L) (fun e he => by rw [← hL] at he; exact List.mem_of_mem_drop he) hq
    omega
  simp
  intro H2
  refine ACall.pure (implPast_c (L.map Entry.o) o (by simp; omega) hs ho) (by simp) ?_
  generalize fPast (L.map Entry.o) o = P at e ⊢
  obtain ⟨v, ok2⟩ := P
  simp only at e ⊢
  cases ok2 with
  | false => simp at e; simp [e]
  | true => simp at e; simp [e]
theorem specRebase_c (d : Doc) (hl : nDoc d ≤ 2 ^ 30) (base : Int) (o : List Part) (ho : nL nPart o ≤ 2 ^ 40) : PureC Tryz.prog 306 [.agg d.row, .c (vi base), .c (.s (o.map Part.row))] (.tup [.c (.s ((fRebase d base o).1.map Part.row)) 3, .c (vi (fRebase d base o).2) 1]) := by
  refine PureC.intro' tt_ok Tryz.func306 (by kernel_rfl) rfl rfl rfl (Nat.le_of_ble_eq_true rfl) (fun w0 bs => ?_)
  obtain ⟨n1, n2, n3, n4⟩ := nDoc_list hl
  simp [Doc.row]
  intro b3
  refine ACall.pure (specDocOk_c d hl) (by simp [Doc.row]) ?_
  by_cases c1 : docOk d
  rotate_left
  · simp [dc_neg c1, fRebase_no (d := d) (base := base) (o := o) (fun h => c1 h.1)]
  simp [c1]
  refine ACall.pure (specOpOk_c o ho) (by simp) ?_
  by_cases c2 : opOk o
  rotate_left
  · simp [dc_neg c2, fRebase_no (d := d) (base := base) (o := o) (fun h => c2 h.2)]
  have e := fRebase_yes (base := base) ⟨c1, c2⟩
  simp [c2]
  refine ACall.pure (specHeadRev_c d) (by simp [Doc.row]) ?_
  by_cases c3 : headRev d < base
  · simp [c3, e]
  by_cases c4 : base < d.fr
  · simp [c3, c4, e]
  have hh := docOk_head c1
  have c5 : docOk d ∧ d.fr ≤ base ∧ base ≤ headRev d := ⟨c1, by omega, by omega⟩
  have hops := opsSince_yes c5
  have hfit := fRebase_fits (o := o) c1 c2 c5.2.1 c5.2.2
  simp only [c3, c4, if_false] at e
  simp [c3, c4]
  refine ACall.pure (specTextAt_c d hl base) (by simp [Doc.row]) ?_
  generalize textAt d base = T at e hfit ⊢
  obtain ⟨t, ok⟩ := T
  simp only at e hfit ⊢
  simp
  intro H1
  refine ACall.pure (specOpFrom_c o ho) (by simp) ?_
  by_cases c6 : opFrom o = t.length
  rotate_left
  · simp only [c6, if_false] at e
    simp [c6, e]
  simp only [c6, if_true, true_implies] at e hfit
  simp [c6]
  refine ACall.pure (specOpsSince_c d hl base) (by simp [Doc.row]) ?_
  rw [hops]
  generalize hL : (d.list.drop (base - d.fr).toNat) = L at e hfit ⊢
  have hL1 : L.length ≤ d.list.length := by rw [← hL]; simp
  have hle := nL_len n1
  have hs : ∀ q ∈ L.map Entry.o, nL nPart q ≤ 2 ^ 40 := fun q hq => by
    have := docOk_ops n1 (l := L) (fun e he => by rw [← hL] at he; exact List.mem_of_mem_drop he) hq
    omega
  have hpn := fPast_n (L.map Entry.o) o
  simp
  intro H2
  refine ACall.pure (specPast_c (L.map Entry.o) o (by simp; omega) hs ho) (by simp) ?_
  generalize fPast (L.map Entry.o) o = P at e hfit hpn ⊢
  obtain ⟨v, ok2⟩ := P
  simp only at e hfit hpn ⊢
  cases ok2 with
  | false => simp at e; simp [e]
  | true =>
    have hf := hfit rfl
    have ht := hf.2.1.1
    simp at e
    simp [e]
    intro H3
    refine ACall.pure (specHeadText_c d hl) (by simp [Doc.row]) ?_
    simp
    intro H4
    refine ACall.pure (specApply_c v (headText d) (by omega) (by omega)) (by simp) ?_
    have ha := apply_yes.2 hf
    generalize apply v (headText d) = A at ha ⊢
    obtain ⟨u, ok3⟩ := A
    simp only at ha
    subst ha
    simp
end Go.Proofs.YtdfdabjdfmamgaaGreat

/-
  slices.Insert of one element: what its cells are, and what that is to the machine.
-/
namespace Go.AM
open Go.RowKit
/-- where a slice of n rows of sz cells lies, and what its cells hold; ob: its block, if it has room -/
def SlAt (w : World) (s : Value) (n sz : Nat) (us : List Value) (ob : Option Nat) : Prop :=
  (n = 0 ∧ ob = none ∧ ∃ a, s = .slice a 0 0) ∨ ∃ b o C cs T, ob = some b ∧ s = .slice (some ⟨b, o, none⟩) n C ∧ w.heap[b]? = some (.cells cs T (0, 0)) ∧ n ≤ C ∧ C ≤ maxLen ∧ o + C * sz ≤ cs.size ∧
    (∀ j, j < n * sz → cs.getD (o + j) undef = us.getD j undef) ∧ ∀ v ∈ us, v.oneCell' = true
/-- behind the call: the rows' block is new, or the old one; all others are as they were -/
structure Placed (w w' : World) (ob : Option Nat) (nb no nC n sz : Nat) (us : List Value) : Prop where
  at_ : ∃ cs T, w'.heap[nb]? = some (.cells cs T (0, 0)) ∧ no + nC * sz ≤ cs.size ∧ ∀ j, j < n * sz → cs.getD (no + j) undef = us.getD j undef
  le : n ≤ nC
  cap : nC ≤ maxLen
  size : w.heap.size ≤ w'.heap.size
  same : Same w w'
  blk : w.heap.size ≤ nb ∨ ob = some nb
  frame : ∀ c, c < w.heap.size → c ≠ nb → w'.heap[c]? = w.heap[c]?
def InsertC (P : Program) (f sz bytes : Nat) : Prop := FnOk P f ∧ ∀ (w : World) (us xs : List Value) (n i : Nat) (s v : Value) (ob bv : Option Nat), us.length = n * sz → xs.length = sz → i ≤ n → (n + 1) * bytes ≤ 140737488355328 →
  SlAt w s n sz us ob → SlAt w v 1 sz xs bv → (∀ b, ob = some b → bv ≠ some b) →
  Calls P f #[s, .int .i64 i, v] w fun e w' => ∃ nb no nC, e = .returned (.slice (some ⟨nb, no, none⟩) (n + 1) nC) ∧ Placed w w' ob nb no nC (n + 1) sz (us.take (i * sz) ++ xs ++ us.drop (i * sz))
/-- the cells of an object's rows -/
theorem slAt_of {w : World} {M E : Nat → Prop} {H : Hd} {sz : Nat} {rows : List (List CD)} {own : Bool} (ho : ObjRel w M E (.rows H sz rows own)) {s : Value} (hs : SlV H sz 0 rows.length s) :
    ∃ us : List Value, us.length = rows.length * sz ∧ SlAt w s rows.length sz us (AObj.blk (.rows H sz rows own)) ∧
      ∃ F : Nat → Nat → Nat → Prop, (∀ i j c, F i j c → (own = true → E c) ∧ ¬ M c) ∧ (own = true → ∀ i j i' j' c, F i j c → F i' j' c → i = i' ∧ j = j') ∧ (∀ row ∈ rows, row.length = sz) ∧
        (∀ i j row d, rows[i]? = some row → row[j]? = some d → Rd w own (F i j) (us.getD (i * sz + j) undef) d) := by
  cases H with
  | none =>
    obtain ⟨⟨a, rfl⟩, h0⟩ := hs
    have hr : rows = [] := ho
    subst hr
    exact ⟨[], by simp, .inl ⟨rfl, rfl, a, rfl⟩, fun _ _ _ => False, by simp, by simp, by simp, by simp⟩
  | some q =>
    obtain ⟨b, o, C⟩ := q
    obtain ⟨cs, T, F, hb, hl, hC, hsz, hfit, hrl, hF, hd, hr⟩ := ho
    rcases hs with ⟨rfl, hle⟩ | ⟨-, h0, -⟩
    · have hmm : rows.length * sz ≤ C * sz := Nat.mul_le_mul_right _ hl
      have lt : ∀ i j, i < rows.length → j < sz → i * sz + j < rows.length * sz := by
        intro i j hi hj
        have := Nat.mul_le_mul_right sz (show i + 1 ≤ rows.length by omega)
        have e : (i + 1) * sz = i * sz + sz := Nat.succ_mul i sz
        omega
      have hg : ∀ j, j < rows.length * sz → ((List.range (rows.length * sz)).map fun j => cs.getD (o + j) undef).getD j undef = cs.getD (o + j) undef := by
        intro j hj; simp [hj]
      refine ⟨(List.range (rows.length * sz)).map fun j => cs.getD (o + j) undef, by simp, .inr ⟨b, o, C, cs, T, rfl, by simp, hb, hl, hC, hfit, fun j hj => (hg j hj).symm, ?_⟩, F, hF, hd, hrl, ?_⟩
      · intro v hv
        simp only [List.mem_map, List.mem_range] at hv
        obtain ⟨j, hj, rfl⟩ := hv
        have hi : j / sz < rows.length := (Nat.div_lt_iff_lt_mul hsz).2 hj
        have hjj : j % sz < sz := Nat.mod_lt _ hsz
        have := hr (j / sz) (j % sz) _ _ (List.getElem?_eq_getElem hi) (List.getElem?_eq_getElem (by rw [hrl _ (List.getElem_mem hi)]; exact hjj))
        have e : j / sz * sz + j % sz = j := by rw [Nat.mul_comm]; exact Nat.div_add_mod j sz
        rw [e] at this
        exact rd_one this
      · intro i j row d hi hj
        have h1 : i < rows.length := (List.getElem?_eq_some_iff.1 hi).1
        have h2 : j < sz := by rw [← hrl _ (List.mem_of_getElem? hi)]; exact (List.getElem?_eq_some_iff.1 hj).1
        rw [hg _ (lt i j h1 h2)]
        exact hr i j row d hi hj
    · omega
/-- rows are put down in a block: a new one, or the one that they had -/
theorem Rep.place {w0 : World} {base : Bs} {st : ASt} {a : Act} {w w' : World} (hR : Rep w0 base st a w) {h' : AH} {E' : Nat → Nat → Prop} (H' : HRel base h' w E') (tr : Tr st.h.M w h'.M w) {k : Nat} {ob : Option Nat} (hob : (h'.get k).blk = ob)
    {nb no nC sz : Nat} {us : List Value} {rows : List (List CD)} (own : Bool) (hp : Placed w w' ob nb no nC rows.length sz us) (hsz : 0 < sz) (hrl : ∀ row ∈ rows, row.length = sz) (F : Nat → Nat → Nat → Prop)
    (hr : ∀ i j row d, rows[i]? = some row → row[j]? = some d → Rd w own (F i j) (us.getD (i * sz + j) undef) d) (hF : ∀ i j c, F i j c → ¬ h'.M c)
    (hown : own = true → ∀ i j c, F i j c → ¬ base.G c ∧ ∀ q, q ≠ k → ¬ E' q c) (hinj : own = true → ∀ i j i' j' c, F i j c → F i' j' c → i = i' ∧ j = j') :
    Moved w0 base st a w ((k, .rows (some (nb, no, nC)) sz rows own) :: h') w' := by
  obtain ⟨cs, T, hb, hfit, hcs⟩ := hp.at_
  have hnb : ∀ c, c < w.heap.size → c = nb → (h'.get k).blk = some c := by
    intro c hc e
    subst e
    rcases hp.blk with h | h
    · omega
    · rw [hob]; exact h
  have hfr : ∀ c, c < w.heap.size → (¬ h'.M c ∨ ∃ j, j ≠ k ∧ (h'.get j).blk = some c) → w'.heap[c]? = w.heap[c]? := by
    intro c hc h
    refine hp.frame c hc (fun e => ?_)
    have hk := hnb c hc e
    rcases h with h | ⟨j, hne, hj⟩
    · exact h ⟨k, hk⟩
    · exact hne (H'.inj _ _ _ hj hk)
  have t : Tr h'.M w (AH.M ((k, .rows (some (nb, no, nC)) sz rows own) :: h')) w' := Tr.upd H' hp.size (fun c hc hM => hfr c hc (.inl hM)) (fun c hc => by
    simp [AObj.blk] at hc
    subst hc
    rcases hp.blk with h | h
    · exact .inl h
    · exact .inr (by rw [hob]; exact h))
  have lt : ∀ i j, i < rows.length → j < sz → i * sz + j < rows.length * sz := by
    intro i j hi hj
    have := Nat.mul_le_mul_right sz (show i + 1 ≤ rows.length by omega)
    have e : (i + 1) * sz = i * sz + sz := Nat.succ_mul i sz
    omega
  refine (hR.move H' tr ⟨rfl, rfl, rfl⟩).move (H'.upd (Ek := fun c => own = true ∧ c < w.heap.size ∧ ∃ i j, F i j c) hp.size hfr (fun c hc => ?_)
    ⟨cs, T, fun i j c => c < w.heap.size ∧ F i j c, hb, hp.le, hp.cap, hsz, hfit, hrl, ?_, ?_, ?_⟩ ?_) t hp.same
  · simp [AObj.blk] at hc
    subst hc
    rcases hp.blk with h | h
    · exact ⟨hR.newer h, .inl h⟩
    · have hk : (h'.get k).blk = some nb := by rw [hob]; exact h
      exact ⟨H'.low k _ hk, .inr hk⟩
  · rintro i j c ⟨hlt, hc⟩
    exact ⟨fun ho => ⟨ho, hlt, i, j, hc⟩, fun hM => hF i j c hc (t.mono c hlt hM)⟩
  · rintro ho i j i' j' c ⟨-, hc⟩ ⟨-, hc'⟩
    exact hinj ho i j i' j' c hc hc'
  · intro i j row d hi hj
    have h1 : i < rows.length := (List.getElem?_eq_some_iff.1 hi).1
    have h2 : j < sz := by rw [← hrl _ (List.mem_of_getElem? hi)]; exact (List.getElem?_eq_some_iff.1 hj).1
    rw [hcs _ (lt i j h1 h2)]
    exact (hr i j row d hi hj).map (fun c hc hl => hfr c hl (.inl (hF i j c hc))) (fun c hc hl => ⟨hl, hc⟩)
  · rintro c ⟨ho, hlt, i, j, hc⟩
    obtain ⟨h1, h2⟩ := hown ho i j c hc
    exact ⟨h1, Nat.lt_of_lt_of_le hlt hp.size, h2, fun hM => hF i j c hc (t.mono c hlt hM)⟩
theorem ins_get {us xs : List Value} {n i sz : Nat} (hu : us.length = n * sz) (hx : xs.length = sz) (hi : i ≤ n) (r j : Nat) (_hr : r < n + 1) (hj : j < sz) :
    (us.take (i * sz) ++ xs ++ us.drop (i * sz)).getD (r * sz + j) undef = if r < i then us.getD (r * sz + j) undef else if r = i then xs.getD j undef else us.getD ((r - 1) * sz + j) undef := by
  have h1 : i * sz ≤ n * sz := Nat.mul_le_mul_right _ hi
  have hl : (us.take (i * sz)).length = i * sz := by simp; omega
  simp only [List.getD_eq_getElem?_getD]
  rw [List.append_assoc]
  by_cases c1 : r < i
  · have h2 : (r + 1) * sz ≤ i * sz := Nat.mul_le_mul_right _ c1
    rw [Nat.succ_mul] at h2
    rw [if_pos c1, List.getElem?_append_left (by omega), List.getElem?_take, if_pos (by omega)]
  · have h2 : i * sz ≤ r * sz := Nat.mul_le_mul_right _ (by omega)
    rw [if_neg c1, List.getElem?_append_right (by omega), hl]
    by_cases c2 : r = i
    · subst c2
      rw [if_pos rfl, List.getElem?_append_left (by omega)]
      congr 2
      omega
    · have h3 : (i + 1) * sz ≤ r * sz := Nat.mul_le_mul_right _ (by omega)
      have h4 : r * sz = (r - 1) * sz + sz := by rw [← Nat.succ_mul]; congr 1; omega
      rw [Nat.succ_mul] at h3
      rw [if_neg c2, List.getElem?_append_right (by omega), hx, List.getElem?_drop]
      congr 2
      omega
theorem ACall.insert {E : Env} {f sz bytes : Nat} (hc : InsertC E.P f sz bytes) (hz : 0 < sz) {st : ASt} {dst : Option Nat} {K : ASt → Prop} {k kv : Nat} {H Hv : Hd} {rows : List (List CD)} {row : List CD} {own ownv : Bool} {i n : Nat} (hn : rows.length = n)
    (hk : st.h.get k = .rows H sz rows own) (hkv : st.h.get kv = .rows Hv sz [row] ownv) (hne : k ≠ kv) (hi : i ≤ rows.length) (hb : (rows.length + 1) * bytes ≤ 140737488355328)
    (h : ∀ H', aPut { st with h := (k, .rows H' sz (rows.take i ++ row :: rows.drop i) (own && ownv)) :: (kv, .dead) :: st.h } dst (.sl k H' sz 0 (n + 1)) K) :
    ACall E f [.sl k H sz 0 n, .v (.int .i64 i), .sl kv Hv sz 0 1] st dst K := by
  subst hn
  refine ⟨hc.1, fun a w hR xs hxs hargs => ?_⟩
  obtain ⟨s, iv, v, rfl⟩ : ∃ s iv v, xs = #[s, iv, v] := by
    obtain ⟨l⟩ := xs
    match l, hxs with
    | [s, iv, v], _ => exact ⟨s, iv, v, rfl⟩
  have e0 := hargs 0 _ rfl
  have e1 := hargs 1 _ rfl
  have e2 := hargs 2 _ rfl
  simp at e0 e1 e2
  cases e0 with | sl _ _ _ _ _ _ hs0 =>
  cases e1 with | v _ _ =>
  cases e2 with | sl _ _ _ _ _ _ hs2 =>
  obtain ⟨E0, H0⟩ := hR.heap
  have ho := H0.obj k
  have hov := H0.obj kv
  rw [hk] at ho
  rw [hkv] at hov
  obtain ⟨us, hul, hsa, F, hF, hd, hrl, hr⟩ := slAt_of ho hs0
  obtain ⟨vs, hvl, hsv, Fv, hFv, hdv, hrlv, hrv⟩ := slAt_of hov hs2
  simp at hvl
  have hap : ∀ b, AObj.blk (.rows H sz rows own) = some b → AObj.blk (.rows Hv sz [row] ownv) ≠ some b := by
    intro b h1 h2
    exact hne (H0.inj k kv b (by rw [hk]; exact h1) (by rw [hkv]; exact h2))
  refine (hc.2 w us vs rows.length i s v _ _ hul hvl hi hb hsa hsv hap).mono ?_
  rintro e w' ⟨nb, no, nC, rfl, hp⟩
  have hlen : (rows.take i ++ row :: rows.drop i).length = rows.length + 1 := by simp; omega
  rw [← hlen] at hp
  have kill := H0.kill kv
  have hrow : row.length = sz := hrlv row (by simp)
  have low : ∀ c, E0 k c ∨ E0 kv c → ¬ E.base.G c := fun c hc => hc.elim (fun h => (H0.elow k c h).1) (fun h => (H0.elow kv c h).1)
  have getr : ∀ r q, (rows.take i ++ row :: rows.drop i)[r]? = some q → (r < i ∧ rows[r]? = some q) ∨ (r = i ∧ q = row) ∨ (i < r ∧ rows[r - 1]? = some q) := by
    intro r q hq
    have hti : (rows.take i).length = i := by simp; omega
    by_cases c1 : r < i
    · rw [List.getElem?_append_left (by omega), List.getElem?_take, if_pos c1] at hq
      exact .inl ⟨c1, hq⟩
    · rw [List.getElem?_append_right (by omega), hti] at hq
      by_cases c2 : r = i
      · subst c2; simp at hq; exact .inr (.inl ⟨rfl, hq.symm⟩)
      · obtain ⟨m, hm⟩ : ∃ m, r - i = m + 1 := ⟨r - i - 1, by omega⟩
        rw [hm, List.getElem?_cons_succ, List.getElem?_drop] at hq
        refine .inr (.inr ⟨by omega, ?_⟩)
        rw [show r - 1 = i + m by omega]
        exact hq
  have tk : Tr st.h.M w (AH.M ((kv, .dead) :: st.h)) w := Tr.kill H0 kv
  have blkk : (AH.get ((kv, .dead) :: st.h) k).blk = AObj.blk (.rows H sz rows own) := by rw [get_cons, if_neg hne, hk]
  have m := hR.place kill tk blkk (own && ownv) hp hz (by
      intro q hq
      obtain ⟨r, hr'⟩ := List.getElem?_of_mem hq
      rcases getr r q hr' with ⟨-, g⟩ | ⟨-, rfl⟩ | ⟨-, g⟩
      · exact hrl q (List.mem_of_getElem? g)
      · exact hrow
      · exact hrl q (List.mem_of_getElem? g))
    (fun r j c => if r < i then F r j c else if r = i then Fv 0 j c else F (r - 1) j c) ?_ ?_ ?_ ?_
  · obtain ⟨av, h', g1, g2, g3, g4⟩ := m.put (VRel.sl k (some (nb, no, nC)) sz 0 (rows.length + 1) (.slice (some ⟨nb, no, none⟩) (rows.length + 1) nC) (Or.inl ⟨by simp, by have := hp.le; omega⟩)) (h (some (nb, no, nC)))
    exact ⟨_, av, h', rfl, g1, g2, g3, g4⟩
  · intro r j q d hq hj
    have hjl : j < sz := by
      rcases getr r q hq with ⟨-, g⟩ | ⟨-, rfl⟩ | ⟨-, g⟩
      · rw [← hrl q (List.mem_of_getElem? g)]; exact (List.getElem?_eq_some_iff.1 hj).1
      · rw [← hrow]; exact (List.getElem?_eq_some_iff.1 hj).1
      · rw [← hrl q (List.mem_of_getElem? g)]; exact (List.getElem?_eq_some_iff.1 hj).1
    have hrlt : r < rows.length + 1 := by rw [← hlen]; exact (List.getElem?_eq_some_iff.1 hq).1
    rw [ins_get hul hvl hi r j hrlt hjl]
    rcases getr r q hq with ⟨c, g⟩ | ⟨c, rfl⟩ | ⟨c, g⟩
    · simp only [c, if_true]
      exact Rd.own_of _ (hr r j q d g hj) (fun h => by simp at h; exact h.1)
    · have c1 : ¬ r < i := by omega
      simp only [if_neg c1, if_pos c]
      have := hrv 0 j q d rfl hj
      rw [Nat.zero_mul, Nat.zero_add] at this
      exact Rd.own_of _ this (fun h => by simp at h; exact h.2)
    · have c1 : ¬ r < i := by omega
      have c2 : ¬ r = i := by omega
      simp only [c1, c2, if_false]
      exact Rd.own_of _ (hr (r - 1) j q d g hj) (fun h => by simp at h; exact h.1)
  · intro r j c hcc hM
    have hM' := M_kill hM
    split at hcc
    · exact (hF _ _ _ hcc).2 hM'
    · split at hcc
      · exact (hFv _ _ _ hcc).2 hM'
      · exact (hF _ _ _ hcc).2 hM'
  · intro hoo r j c hcc
    simp at hoo
    have hE : E0 k c ∨ E0 kv c := by
      split at hcc
      · exact .inl ((hF _ _ _ hcc).1 hoo.1)
      · split at hcc
        · exact .inr ((hFv _ _ _ hcc).1 hoo.2)
        · exact .inl ((hF _ _ _ hcc).1 hoo.1)
    refine ⟨low c hE, fun q hq hqe => ?_⟩
    split at hqe
    · exact hqe
    · rename_i hqv
      rcases hE with hE | hE
      · exact hq (H0.einj _ _ _ hqe hE)
      · exact hqv (H0.einj _ _ _ hqe hE)
  · intro hoo r j r' j' c hcc hcc'
    simp at hoo
    have key : ∀ i j j', F i j c → Fv 0 j' c → False := fun i j j' h1 h2 => hne (H0.einj _ _ _ ((hF _ _ _ h1).1 hoo.1) ((hFv _ _ _ h2).1 hoo.2))
    split at hcc <;> split at hcc'
    · exact hd hoo.1 _ _ _ _ c hcc hcc'
    · split at hcc'
      · exact (key _ _ _ hcc hcc').elim
      · have := hd hoo.1 _ _ _ _ c hcc hcc'; omega
    · split at hcc
      · exact (key _ _ _ hcc' hcc).elim
      · have := hd hoo.1 _ _ _ _ c hcc hcc'; omega
    · split at hcc <;> split at hcc'
      · have := hdv hoo.2 _ _ _ _ c hcc hcc'; omega
      · exact (key _ _ _ hcc' hcc).elim
      · exact (key _ _ _ hcc hcc').elim
      · have := hd hoo.1 _ _ _ _ c hcc hcc'; omega
theorem run_copyK {P : Program} {w : World} {t ty e : TypeId} {i : TypeInfo} (hu : P.underlying t = some (.slice e)) (hi : P.info? e = some i) {b o dl dc sl sc : Nat} {cs : Array Value} {T : TypeId}
    (hb : w.heap[b]? = some (.cells cs T (0, 0))) (a : Addr) (vs : List Value) (m : Nat) (hm : Nat.min sl dl = m) (hl : vs.length = m * i.size) (hvs : ∀ j v, vs[j]? = some v → w.cell? (a.add j) = some v) (h1 : ∀ v ∈ vs, v.oneCell' = true)
    (hfit : o + vs.length ≤ cs.size) :
    (Builtin.copy_ #[t, t] ty #[.slice (some ⟨b, o, none⟩) dl dc, .slice (some a) sl sc]).run P w = .ok (goInt m) (w.setRow b (cs.toList.take o ++ vs ++ cs.toList.drop (o + vs.length)).toArray) := by
  have hf := run_firstCells_some (P := P) w i.size m a sl sc vs hl hvs
  have hst := run_storeCells_at (P := P) b o T vs 0 cs w hb (by omega) h1
  simp only [Nat.add_zero] at hst
  simp [Builtin.copy_, run_underlying hu, run_sizeOf' hi, Builtin.lenOf, hm, hf, hst]
/-- the cells of a block, from a place on -/
theorem cell_at {w : World} {b o : Nat} {cs : Array Value} {T : TypeId} (hb : w.heap[b]? = some (.cells cs T (0, 0))) {vs : List Value} (h : ∀ j, j < vs.length → cs.getD (o + j) undef = vs.getD j undef) (hfit : o + vs.length ≤ cs.size) :
    ∀ j v, vs[j]? = some v → w.cell? ⟨b, o + j, none⟩ = some v := by
  intro j v hj
  obtain ⟨hlt, rfl⟩ := List.getElem?_eq_some_iff.1 hj
  have := h j hlt
  rw [show vs.getD j undef = vs[j] by simp [List.getD_eq_getElem?_getD, hlt]] at this
  rw [← this]
  simpa using cell_of hb (show o + j < cs.size by omega)
theorem wp_copy_runA (w : World) {P : Program} {o : Oper} {a : Act} {K : Act → World → Prop} {Q : Exit → Act → World → Prop} (d s : Operand) (t t' : TypeId)
    (ho : o.op = .call { callee := .builtin .copy, args := #[d, s], argTypes := #[t, t'] }) (v u : Value) (hd : a.eval d = v) (hs : a.eval s = u) {v' : Value} {w' : World}
    (hr : (Builtin.copy_ #[t, t'] o.type #[v, u]).run P w = .ok v' w') (h : K (a.put o.dst v') w') : o.wp P a w K Q := by
  unfold Oper.wp execOp
  simp only [ho, resolve, invoke, builtin, Sem.run_bind, Sem.run_pure, Result.andThen_ok, List.map_toArray, List.map_cons, List.map_nil, hd, hs, hr]
  exact h
theorem wpList_copy_runA (w : World) {P : Program} {ops : Array Oper} {rest : List Oper} {o : Oper} {a : Act} {Q : Exit → Act → World → Prop} (hgd : o.guard = none) (d s : Operand) (t t' : TypeId)
    (ho : o.op = .call { callee := .builtin .copy, args := #[d, s], argTypes := #[t, t'] }) (v u : Value) (hd : a.eval d = v) (hs : a.eval s = u) {v' : Value} {w' : World}
    (hr : (Builtin.copy_ #[t, t'] o.type #[v, u]).run P w = .ok v' w') (h : wpList P ops Q rest (a.put o.dst v') w') : wpList P ops Q (o :: rest) a w :=
  wpList_plain hgd fun _ hK => wp_copy_runA w d s t t' ho v u hd hs hr (hK _ _ h)
end Go.AM

