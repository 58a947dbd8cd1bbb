import Derived.Test.YtdfdabjdfmamgaaGreatPE
import Derived.Test.YtdfdabjdfmamgaaGreatPD
import Derived.Test.YtdfdabjdfmamgaaGreatPC
import Derived.Test.YtdfdabjdfmamgaaGreatMF
import Derived.Test.YtdfdabjdfmamgaaGreatNB
namespace Go.Proofs.YtdfdabjdfmamgaaGreat
open Go.AM
set_option maxRecDepth 20000
set_option maxHeartbeats 3200000
theorem rows3_new {l : List Entry} {x y z : CD} : ∀ row : List CD, (∃ a, a ∈ l ∧ [vi a.client, vi a.seq, CD.s (List.map Part.row a.o)] = row) ∨ row = [x, y, z] → row.length = 3 := by
  rintro row (⟨a, -, rfl⟩ | rfl) <;> rfl
theorem fSubmit_no {d : Doc} {client seq base : Int} {o : List Part} (h : ¬ subOk d client seq o) : fSubmit d client seq base o = (Doc.zero, 0, 1) := by unfold fSubmit; rw [if_neg h]
theorem fSubmit_yes {d : Doc} {client seq base : Int} {o : List Part} (h : subOk d client seq o) : fSubmit d client seq base o = if (seenOf d client).1.seq = seq then (d, (seenOf d client).1.rev, 0)
    else if (seenOf d client).1.seq + 1 = seq then
      if (fRebase d base o).2 = 0 then
        if 999999000 ≤ headRev d then (Doc.zero, 0, 5) else (docPush d ⟨client, seq, (fRebase d base o).1⟩, headRev d + 1, 0)
      else (Doc.zero, 0, (fRebase d base o).2)
    else (Doc.zero, 0, 4) := by unfold fSubmit; rw [if_pos h]
theorem fRebase_n (d : Doc) (base : Int) (o : List Part) : nL nPart (fRebase d base o).1 ≤ 2 ^ 20 := by
  unfold fRebase
  split
  · split
    · simp [nL, sumN]
    · split
      · simp [nL, sumN]
      · split
        · split
          · exact fPast_n _ _
          · simp [nL, sumN]
        · simp [nL, sumN]
  · simp [nL, sumN]
theorem rows3_newS {l : List Seen} {x y z : CD} : ∀ row : List CD, (∃ a, a ∈ l ∧ [vi a.client, vi a.seq, vi a.rev] = row) ∨ row = [x, y, z] → row.length = 3 := by
  rintro row (⟨a, -, rfl⟩ | rfl) <;> rfl
def spStep (c s r : Int) (st : List Seen × Bool) (x : Seen) : List Seen × Bool :=
  if x.client = c then st else if st.2 = false ∧ c < x.client then (st.1 ++ [⟨c, s, r⟩, x], true) else (st.1 ++ [x], st.2)
def spRun (c s r : Int) (l : List Seen) : List Seen × Bool := l.foldl (spStep c s r) ([], false)
def spFin (c s r : Int) (st : List Seen × Bool) : List Seen := if st.2 = true then st.1 else st.1 ++ [⟨c, s, r⟩]
theorem spRun_suc {c s r : Int} {l : List Seen} {i : Nat} (h : i < l.length) : spRun c s r (l.take (i + 1)) = spStep c s r (spRun c s r (l.take i)) l[i] := by
  unfold spRun; rw [← List.take_append_getElem h, List.foldl_append]; rfl
def Asc (l : List Seen) : Prop := l.Pairwise fun a b => a.client < b.client
theorem asc_of {l : List Seen} (h : ∀ i, ∀ hi : i + 1 < l.length, l[i].client < l[i + 1].client) : Asc l := by
  unfold Asc; rw [List.pairwise_iff_getElem]; intro i j hi hj hij
  induction j with
  | zero => omega
  | succ j ih =>
    have h1 := h j hj; by_cases e : i = j
    · subst e; exact h1
    · have := ih (by omega) (by omega)
      omega
theorem spDone {c s r : Int} : ∀ (l : List Seen) (A : List Seen), (∀ x ∈ l, c < x.client) → l.foldl (spStep c s r) (A, true) = (A ++ l, true)
  | [], A, _ => by simp
  | x :: l, A, h => by
    have h1 := h x (by simp); have h2 : ¬ x.client = c := by omega
    rw [List.foldl_cons, show spStep c s r (A, true) x = (A ++ [x], true) by unfold spStep; rw [if_neg h2]; simp, spDone l _ (fun y hy => h y (by simp [hy]))]; simp
theorem spPut {c s r : Int} : ∀ (l : List Seen) (A : List Seen), Asc l → spFin c s r (l.foldl (spStep c s r) (A, false)) = A ++ seenPut c s r l
  | [], A, _ => by simp [spFin, seenPut]
  | x :: l, A, h => by
    obtain ⟨h1, h2⟩ := List.pairwise_cons.1 h; rw [List.foldl_cons]; by_cases c1 : x.client < c
    · have c2 : ¬ x.client = c := by omega
      have c3 : ¬ c < x.client := by omega
      rw [show spStep c s r (A, false) x = (A ++ [x], false) by unfold spStep; rw [if_neg c2]; simp [c3], spPut l _ h2, seenPut, if_pos c1]; simp
    · by_cases c2 : x.client = c
      · rw [show spStep c s r (A, false) x = (A, false) by unfold spStep; rw [if_pos c2], seenPut, if_neg c1, if_pos c2]
        cases l with
        | nil => simp [spFin]
        | cons y l =>
          have hy := h1 y (by simp); obtain ⟨h3, -⟩ := List.pairwise_cons.1 h2; have c4 : ¬ y.client = c := by omega
          have c5 : c < y.client := by omega
          rw [List.foldl_cons, show spStep c s r (A, false) y = (A ++ [⟨c, s, r⟩, y], true) by unfold spStep; rw [if_neg c4]; simp [c5], spDone l _ (fun z hz => by have := h3 z hz; omega)]; simp [spFin]
      · have c3 : c < x.client := by omega
        rw [show spStep c s r (A, false) x = (A ++ [⟨c, s, r⟩, x], true) by unfold spStep; rw [if_neg c2]; simp [c3], spDone l _ (fun z hz => by have := h1 z hz; omega), seenPut, if_neg c1, if_neg c2]; simp [spFin]
theorem spRun_put {c s r : Int} {l : List Seen} (h : Asc l) : spFin c s r (spRun c s r l) = seenPut c s r l := by
  have := spPut (c := c) (s := s) (r := r) l [] h
  simpa [spRun] using this
theorem docOk_asc {d : Doc} (h : docOk d) : Asc d.seen := asc_of fun i hi => by
  have := (h.2.2.2.2.2.2 (i + 1) hi).2.2.2 (by omega)
  simpa using this
theorem seenOf_none (d : Doc) (c : Int) : (seenOf d c).2 = false → (seenOf d c).1.seq = 0 := by
  unfold seenOf
  split <;> simp
theorem spRun_len {c s r : Int} (l : List Seen) : ∀ i, i ≤ l.length → (spRun c s r (l.take i)).1.length ≤ 2 * i
  | 0, _ => by simp [spRun]
  | i + 1, hi => by
    have ih := spRun_len (c := c) (s := s) (r := r) l i (by omega); rw [spRun_suc (show i < l.length by omega)]; generalize spRun c s r (l.take i) = st at ih; unfold spStep
    split
    · omega
    · split
      · simp; omega
      · simp; omega
theorem specSubmit_c (d : Doc) (hl : nDoc d ≤ 2 ^ 28) (client seq base : Int) (o : List Part) (ho : nL nPart o ≤ 2 ^ 40) :
    PureC Tryz.prog 237 [.agg d.row, .c (vi client), .c (vi seq), .c (vi base), .c (.s (o.map Part.row))] (.tup [.agg (fSubmit d client seq base o).1.res, .c (vi (fSubmit d client seq base o).2.1) 1, .c (vi (fSubmit d client seq base o).2.2) 1]) := by
  refine PureC.intro' tt_ok Tryz.func237 (by kernel_rfl) rfl rfl rfl (Nat.le_of_ble_eq_true rfl) (fun w0 bs => ?_); have hl' : nDoc d ≤ 2 ^ 30 := by omega
  obtain ⟨n1, n2, n3, n4⟩ := nDoc_list hl; simp [Doc.row]; intro b5 b10; refine ACall.pure (specDocOk_c d hl') (by simp [Doc.row]) ?_; have hno : ¬ subOk d client seq o → fSubmit d client seq base o = (Doc.zero, 0, 1) := fSubmit_no; by_cases c1 : docOk d
  rotate_left
  · simp [dc_neg c1, hno (fun h => c1 h.1), Doc.res, Doc.zero]
  simp [c1]; refine ACall.pure (l01In_c client 1 8) (by simp) ?_; by_cases c2 : 1 ≤ client ∧ client ≤ 8
  rotate_left
  · simp [dc_neg c2, hno (fun h => c2 h.2.1), Doc.res, Doc.zero]
  simp [c2]; refine ACall.pure (l01In_c seq 1 1000000000) (by simp) ?_; by_cases c3 : 1 ≤ seq ∧ seq ≤ 1000000000
  rotate_left
  · simp [dc_neg c3, hno (fun h => c3 h.2.2.1), Doc.res, Doc.zero]
  simp [c3]; refine ACall.pure (specOpOk_c o ho) (by simp) ?_; by_cases c4 : opOk o
  rotate_left
  · simp [dc_neg c4, hno (fun h => c4 h.2.2.2), Doc.res, Doc.zero]
  have e := fSubmit_yes (base := base) ⟨c1, c2, c3, c4⟩; have hh := docOk_head c1; have hsb := seenOf_b c1 client; have hnone := seenOf_none d client; simp [c4]; refine ACall.pure (specSeenOf_c d (by omega) client) (by simp [Doc.row]) ?_; generalize seenOf d client = S at e hsb hnone ⊢; obtain ⟨sn, there⟩ := S; simp only at e hsb hnone ⊢; have e1 : Go.IntKind.i64.wrap (sn.seq + 1) = sn.seq + 1 := Go.IntWalk.i64_in _ (by omega); simp [Seen.res]; intro b13; by_cases c5 : sn.seq = seq
  · simp only [c5, if_true] at e
    have ht : there = true := by
      cases there with
      | true => rfl
      | false => have := hnone rfl; omega
    simp [ht, c5]; refine DrawT.introS eok mix [0, 2, 3, 5, 6] [1, 4] (.child 1 [false, false, false, false, true] [true, true, true, true, false] (.child 4 [false, false, false, false, false] [true, true, true, true, false] (.leaf [true, true, true, true, false]) .stop) .stop) (by kernel_rfl) ?_; simp
    try intros
    refine ACall.pure (l08Copy_c d hl') (by simp [Doc.row]) ?_; simp [Doc.res]
    try intros
    simp [e]
  simp only [c5, if_false] at e; have c5b : ¬ seq = sn.seq := fun h => c5 h.symm
  by_cases c6 : sn.seq + 1 = seq
  rotate_left
  · simp only [c6, if_false] at e
    have c6b : ¬ seq = sn.seq + 1 := fun h => c6 h.symm
    cases there <;> simp [c5, e1, c6b, e, Doc.res, Doc.zero]
  simp only [c6, if_true] at e; have hasc := spRun_put (c := client) (s := seq) (r := headRev d + 1) (docOk_asc c1); have hsl := spRun_len (c := client) (s := seq) (r := headRev d + 1) d.seen
  cases there with
  | false =>
    have e2 : Go.IntKind.i64.wrap seq = seq := Go.IntWalk.i64_in _ (by omega); simp [c6, e2]; refine ACall.pure (specRebase_c d hl' base o ho) (by simp [Doc.row]) ?_; have hvn := fRebase_n d base o; generalize fRebase d base o = R at e hvn ⊢; obtain ⟨v, code⟩ := R; simp only at e hvn ⊢; simp; intro H1; by_cases c7 : code = 0
    rotate_left
    · simp only [c7, if_false] at e
      simp [c7, e, Doc.res, Doc.zero]
    simp only [c7, if_true] at e; simp [c7]; refine ACall.pure (specHeadRev_c d) (by simp [Doc.row]) ?_; by_cases c8 : 999999000 ≤ headRev d
    · simp only [c8, if_true] at e
      simp [c8, e, Doc.res, Doc.zero]
    simp only [c8, if_false] at e; simp [c8]; refine ACall.pure (l08Copy_c d hl') (by simp [Doc.row]) ?_; simp [Doc.res]; intro H2 H3 H4 b17 b87; refine ⟨by omega, fun H5 => ?_⟩; refine ACall.pure (specHeadRev_c ⟨d.name, d.fr, d.text, d.list ++ [⟨client, seq, v⟩], d.seen⟩) (by simp [Doc.row, Entry.row]) ?_
    have hr : headRev ⟨d.name, d.fr, d.text, d.list ++ [⟨client, seq, v⟩], d.seen⟩ = headRev d + 1 := by
      unfold headRev; simp only [List.length_append, List.length_cons, List.length_nil]; have h1 := hh.1; unfold headRev at h1; rw [h1, Go.IntWalk.i64_in _ (by omega)]; omega
    have hrr := hr; rw [hrr]; simp; intro b93; obtain ⟨sp, hspd⟩ : ∃ sp : Nat → List Seen × Bool, sp = fun i => spRun client seq (headRev d + 1) (d.seen.take i) := ⟨_, rfl⟩
    have hs0 : sp 0 = ([], false) := by rw [hspd]; simp [spRun]
    have hsuc : ∀ i, ∀ h : i < d.seen.length, sp (i + 1) = spStep client seq (headRev d + 1) (sp i) d.seen[i] := fun i h => by rw [hspd]; exact spRun_suc h
    have hspl : ∀ i, i ≤ d.seen.length → (sp i).1.length ≤ 2 * i := fun i h => by rw [hspd]; exact hsl i h
    have hall : spFin client seq (headRev d + 1) (sp d.seen.length) = seenPut client seq (headRev d + 1) d.seen := by rw [hspd]; simp only [List.take_length]; exact hasc
    clear hspd
    refine LoopT.introG eok (fun x : Nat × Hd => x.1 ≤ d.seen.length) (fun x => ⟨162, 0, [(97, .v (.int .i64 x.1)), (96, .v (.int .i64 d.seen.length)), (95, .sl 1300 H4 3 0 d.seen.length), (20, .v (.bool (sp x.1).2)), (19, .sl 1488 x.2 3 0 (sp x.1).1.length), (1, .v (.int .i64 client)), (2, .v (.int .i64 seq)), (18, .v (.int .i64 (headRev d + 1))), (17, .p 272 b17 0), (10, .p 160 b10 0)],
      [(272, .vars b17 35 [.v (.string d.name), .v (.int .i64 d.fr), .sl 1298 H2 1 0 d.text.length, .sl 1299 H5 3 0 (d.list.length + 1), .sl 1300 H4 3 0 d.seen.length]),
       (160, .vars b10 35 [.v (.string ⟨#[]⟩), .v (.int .i64 0), .nil, .nil, .nil]),
       (1298, .rows H2 1 (d.text.map intR) true), (1299, .rows H5 3 ((d.list ++ ([⟨client, seq, v⟩] : List Entry)).map Entry.row) true), (1300, .rows H4 3 (d.seen.map Seen.row) true), (1488, .rows x.2 3 ((sp x.1).1.map Seen.row) true)]⟩) (fun x => d.seen.length - x.1) (0, some (b93, 0, 0)) (by simp) (by simp [Entry.row, hs0]) (fun x hi => Ent.refl ?_)
    obtain ⟨i, H⟩ := x; simp only at hi ⊢; have hLl := hspl i hi; by_cases hlt : i < d.seen.length
    · have hsu := hsuc i hlt
      generalize sp i = st at hLl hsu ⊢; obtain ⟨L, done⟩ := st; simp only at hLl ⊢; obtain ⟨x, hx⟩ : ∃ x, d.seen[i] = x := ⟨_, rfl⟩; rw [hx] at hsu; simp [hlt, hx, Seen.row]; intro b22; unfold spStep at hsu; by_cases k1 : x.client = client
      · simp only [k1, if_true] at hsu
        simp [k1]; exact Ent.refl ⟨i + 1, by omega, by omega, H, by simp [Entry.row, hsu]; exact i64_suc (by omega)⟩
      simp only [k1, if_false] at hsu; simp [k1]; by_cases k2 : done = false ∧ client < x.client
      · obtain ⟨rfl, k2⟩ := k2
        simp only [k2, and_self, if_true] at hsu; simp [k2]; intro b118; refine ⟨by omega, fun H6 b122 => ⟨by omega, fun H7 => Ent.refl ⟨i + 1, by omega, by omega, H7, ?_⟩⟩⟩; simp [Seen.row, Entry.row, hsu]; exact i64_suc (by omega)
      · simp only [k2, if_false] at hsu
        have k3 : done = true ∨ done = false ∧ ¬ client < x.client := by
          cases done with
          | true => exact .inl rfl
          | false => exact .inr ⟨rfl, fun h => k2 ⟨rfl, h⟩⟩
        rcases k3 with rfl | ⟨rfl, k3⟩
        · simp
          intro b122; refine ⟨by omega, fun H7 => Ent.refl ⟨i + 1, by omega, by omega, H7, ?_⟩⟩; simp [Seen.row, Entry.row, hsu]; exact i64_suc (by omega)
        · simp [k3]
          intro b122; refine ⟨by omega, fun H7 => Ent.refl ⟨i + 1, by omega, by omega, H7, ?_⟩⟩; simp [Seen.row, Entry.row, hsu]; exact i64_suc (by omega)
    · obtain rfl : i = d.seen.length := by omega
      generalize sp d.seen.length = st at hLl hall ⊢; obtain ⟨L, done⟩ := st; simp only at hLl ⊢; unfold spFin at hall
      cases done with
      | true =>
        simp only [if_true] at hall; simp; by_cases c9 : d.list.length < 8
        · have c9' : ¬ 8 < (d.list.length : Int) + 1 := by omega
          simp [c9', e, docPush, c9, ← hall, Entry.row, Seen.row]; exact rows3_new
        · have hpd : docPush d ⟨client, seq, v⟩ = ⟨d.name, d.fr + 1, (apply ((d.list ++ ([⟨client, seq, v⟩] : List Entry))[0]'(by simp)).o d.text).1, (d.list ++ ([⟨client, seq, v⟩] : List Entry)).drop 1, seenPut client seq (headRev d + 1) d.seen⟩ := by unfold docPush; rw [if_neg c9]
          obtain ⟨e0, l', hd⟩ : ∃ e0 l', d.list = e0 :: l' := by
            cases h : d.list with
            | nil => rw [h] at c9; simp at c9
            | cons a l => exact ⟨a, l, rfl⟩
          have hm0 : nL nPart e0.o ≤ 2 ^ 40 := by
            have := nL_mem n1 (a := e0) (by rw [hd]; simp); unfold nEntry at this; omega
          have hll : d.list.length = l'.length + 1 := by rw [hd]; simp
          have c9' : 8 < (l'.length : Int) + 1 + 1 := by omega
          have c90 : 0 < (l'.length : Int) + 1 + 1 := by omega
          have ef : Go.IntKind.i64.wrap (d.fr + 1) = d.fr + 1 := Go.IntWalk.i64_in _ (by omega); have hpd2 : docPush d ⟨client, seq, v⟩ = ⟨d.name, d.fr + 1, (apply e0.o d.text).1, l' ++ ([⟨client, seq, v⟩] : List Entry), seenPut client seq (headRev d + 1) d.seen⟩ := by rw [hpd]; simp [hd]
          simp [c9', hd, Entry.row]; refine DrawT.introS eok mix [0, 1, 2, 3, 4, 5, 6, 11] [7, 8, 9, 10, 12] (.child 7 [false, true, false, true, false, false, false, false] [true, false, true, false, true, true, true, true] (.child 8 [false, false, false, false, false, false, false, false] [true, false, true, false, true, true, true, true] (.child 9 [false, false, false, false, false, false, false, false] [true, false, true, false, true, true, true, true] (.child 10 [false, false, false, false, false, false, false, false] [true, false, true, false, true, true, true, true] (.child 12 [true, false, true, false, true, true, true, true] [false, false, false, false, false, false, false, false] (.leaf [false, false, false, false, false, false, false, false]) .stop) .stop) .stop) .stop) .stop) (by kernel_rfl) ?_; simp [c90]
          try intros
          refine ACall.pure (specApply_c e0.o d.text hm0 (by omega)) (by simp) ?_; simp
          try intros
          simp [ef]; have hlen1 : 1 + (l'.length + 1) ≤ l'.length + 1 + 1 := by omega
          simp [e, hpd2, ← hall, Entry.row, cut, hlen1]; exact ⟨rows3_new, (List.take_of_length_le (by simp)).symm⟩
      | false =>
        simp only [Bool.false_eq_true, if_false] at hall; simp; intro b132; refine ⟨by omega, fun H6 => ?_⟩; by_cases c9 : d.list.length < 8
        · have c9' : ¬ 8 < (d.list.length : Int) + 1 := by omega
          simp [c9', e, docPush, c9, ← hall, Entry.row, Seen.row]; exact ⟨rows3_new, rows3_newS⟩
        · have hpd : docPush d ⟨client, seq, v⟩ = ⟨d.name, d.fr + 1, (apply ((d.list ++ ([⟨client, seq, v⟩] : List Entry))[0]'(by simp)).o d.text).1, (d.list ++ ([⟨client, seq, v⟩] : List Entry)).drop 1, seenPut client seq (headRev d + 1) d.seen⟩ := by unfold docPush; rw [if_neg c9]
          obtain ⟨e0, l', hd⟩ : ∃ e0 l', d.list = e0 :: l' := by
            cases h : d.list with
            | nil => rw [h] at c9; simp at c9
            | cons a l => exact ⟨a, l, rfl⟩
          have hm0 : nL nPart e0.o ≤ 2 ^ 40 := by
            have := nL_mem n1 (a := e0) (by rw [hd]; simp); unfold nEntry at this; omega
          have hll : d.list.length = l'.length + 1 := by rw [hd]; simp
          have c9' : 8 < (l'.length : Int) + 1 + 1 := by omega
          have c90 : 0 < (l'.length : Int) + 1 + 1 := by omega
          have ef : Go.IntKind.i64.wrap (d.fr + 1) = d.fr + 1 := Go.IntWalk.i64_in _ (by omega); have hpd2 : docPush d ⟨client, seq, v⟩ = ⟨d.name, d.fr + 1, (apply e0.o d.text).1, l' ++ ([⟨client, seq, v⟩] : List Entry), seenPut client seq (headRev d + 1) d.seen⟩ := by rw [hpd]; simp [hd]
          simp [c9', hd, Entry.row]; refine DrawT.introS eok mix [0, 1, 2, 3, 4, 5, 6, 11] [7, 8, 9, 10, 12] (.child 7 [false, true, false, true, false, false, false, false] [true, false, true, false, true, true, true, true] (.child 8 [false, false, false, false, false, false, false, false] [true, false, true, false, true, true, true, true] (.child 9 [false, false, false, false, false, false, false, false] [true, false, true, false, true, true, true, true] (.child 10 [false, false, false, false, false, false, false, false] [true, false, true, false, true, true, true, true] (.child 12 [true, false, true, false, true, true, true, true] [false, false, false, false, false, false, false, false] (.leaf [false, false, false, false, false, false, false, false]) .stop) .stop) .stop) .stop) .stop) (by kernel_rfl) ?_; simp [c90]
          try intros
          refine ACall.pure (specApply_c e0.o d.text hm0 (by omega)) (by simp) ?_; simp
          try intros
          simp [ef]; have hlen1 : 1 + (l'.length + 1) ≤ l'.length + 1 + 1 := by omega
          simp [e, hpd2, ← hall, Seen.row, Entry.row, cut, hlen1]; exact ⟨rows3_new, (List.take_of_length_le (by simp)).symm, rows3_newS⟩
  | true =>
    have e2 : Go.IntKind.i64.wrap seq = seq := Go.IntWalk.i64_in _ (by omega); simp [c5, c6, e2]; refine ACall.pure (specRebase_c d hl' base o ho) (by simp [Doc.row]) ?_; have hvn := fRebase_n d base o; generalize fRebase d base o = R at e hvn ⊢; obtain ⟨v, code⟩ := R; simp only at e hvn ⊢; simp; intro H1; by_cases c7 : code = 0
    rotate_left
    · simp only [c7, if_false] at e
      simp [c7, e, Doc.res, Doc.zero]
    simp only [c7, if_true] at e; simp [c7]; refine ACall.pure (specHeadRev_c d) (by simp [Doc.row]) ?_; by_cases c8 : 999999000 ≤ headRev d
    · simp only [c8, if_true] at e
      simp [c8, e, Doc.res, Doc.zero]
    simp only [c8, if_false] at e; simp [c8]; refine ACall.pure (l08Copy_c d hl') (by simp [Doc.row]) ?_; simp [Doc.res]; intro H2 H3 H4 b17 b87; refine ⟨by omega, fun H5 => ?_⟩; refine ACall.pure (specHeadRev_c ⟨d.name, d.fr, d.text, d.list ++ [⟨client, seq, v⟩], d.seen⟩) (by simp [Doc.row, Entry.row]) ?_
    have hr : headRev ⟨d.name, d.fr, d.text, d.list ++ [⟨client, seq, v⟩], d.seen⟩ = headRev d + 1 := by
      unfold headRev; simp only [List.length_append, List.length_cons, List.length_nil]; have h1 := hh.1; unfold headRev at h1; rw [h1, Go.IntWalk.i64_in _ (by omega)]; omega
    have hrr := hr; rw [hrr]; simp; intro b93; obtain ⟨sp, hspd⟩ : ∃ sp : Nat → List Seen × Bool, sp = fun i => spRun client seq (headRev d + 1) (d.seen.take i) := ⟨_, rfl⟩
    have hs0 : sp 0 = ([], false) := by rw [hspd]; simp [spRun]
    have hsuc : ∀ i, ∀ h : i < d.seen.length, sp (i + 1) = spStep client seq (headRev d + 1) (sp i) d.seen[i] := fun i h => by rw [hspd]; exact spRun_suc h
    have hspl : ∀ i, i ≤ d.seen.length → (sp i).1.length ≤ 2 * i := fun i h => by rw [hspd]; exact hsl i h
    have hall : spFin client seq (headRev d + 1) (sp d.seen.length) = seenPut client seq (headRev d + 1) d.seen := by rw [hspd]; simp only [List.take_length]; exact hasc
    clear hspd
    refine LoopT.introG eok (fun x : Nat × Hd => x.1 ≤ d.seen.length) (fun x => ⟨162, 0, [(97, .v (.int .i64 x.1)), (96, .v (.int .i64 d.seen.length)), (95, .sl 1300 H4 3 0 d.seen.length), (20, .v (.bool (sp x.1).2)), (19, .sl 1488 x.2 3 0 (sp x.1).1.length), (1, .v (.int .i64 client)), (2, .v (.int .i64 seq)), (18, .v (.int .i64 (headRev d + 1))), (17, .p 272 b17 0), (10, .p 160 b10 0)],
      [(272, .vars b17 35 [.v (.string d.name), .v (.int .i64 d.fr), .sl 1298 H2 1 0 d.text.length, .sl 1299 H5 3 0 (d.list.length + 1), .sl 1300 H4 3 0 d.seen.length]),
       (160, .vars b10 35 [.v (.string ⟨#[]⟩), .v (.int .i64 0), .nil, .nil, .nil]),
       (1298, .rows H2 1 (d.text.map intR) true), (1299, .rows H5 3 ((d.list ++ ([⟨client, seq, v⟩] : List Entry)).map Entry.row) true), (1300, .rows H4 3 (d.seen.map Seen.row) true), (1488, .rows x.2 3 ((sp x.1).1.map Seen.row) true)]⟩) (fun x => d.seen.length - x.1) (0, some (b93, 0, 0)) (by simp) (by simp [Entry.row, hs0]) (fun x hi => Ent.refl ?_)
    obtain ⟨i, H⟩ := x; simp only at hi ⊢; have hLl := hspl i hi; by_cases hlt : i < d.seen.length
    · have hsu := hsuc i hlt
      generalize sp i = st at hLl hsu ⊢; obtain ⟨L, done⟩ := st; simp only at hLl ⊢; obtain ⟨x, hx⟩ : ∃ x, d.seen[i] = x := ⟨_, rfl⟩; rw [hx] at hsu; simp [hlt, hx, Seen.row]; intro b22; unfold spStep at hsu; by_cases k1 : x.client = client
      · simp only [k1, if_true] at hsu
        simp [k1]; exact Ent.refl ⟨i + 1, by omega, by omega, H, by simp [Entry.row, hsu]; exact i64_suc (by omega)⟩
      simp only [k1, if_false] at hsu; simp [k1]; by_cases k2 : done = false ∧ client < x.client
      · obtain ⟨rfl, k2⟩ := k2
        simp only [k2, and_self, if_true] at hsu; simp [k2]; intro b118; refine ⟨by omega, fun H6 b122 => ⟨by omega, fun H7 => Ent.refl ⟨i + 1, by omega, by omega, H7, ?_⟩⟩⟩; simp [Seen.row, Entry.row, hsu]; exact i64_suc (by omega)
      · simp only [k2, if_false] at hsu
        have k3 : done = true ∨ done = false ∧ ¬ client < x.client := by
          cases done with
          | true => exact .inl rfl
          | false => exact .inr ⟨rfl, fun h => k2 ⟨rfl, h⟩⟩
        rcases k3 with rfl | ⟨rfl, k3⟩
        · simp
          intro b122; refine ⟨by omega, fun H7 => Ent.refl ⟨i + 1, by omega, by omega, H7, ?_⟩⟩; simp [Seen.row, Entry.row, hsu]; exact i64_suc (by omega)
        · simp [k3]
          intro b122; refine ⟨by omega, fun H7 => Ent.refl ⟨i + 1, by omega, by omega, H7, ?_⟩⟩; simp [Seen.row, Entry.row, hsu]; exact i64_suc (by omega)
    · obtain rfl : i = d.seen.length := by omega
      generalize sp d.seen.length = st at hLl hall ⊢; obtain ⟨L, done⟩ := st; simp only at hLl ⊢; unfold spFin at hall
      cases done with
      | true =>
        simp only [if_true] at hall; simp; by_cases c9 : d.list.length < 8
        · have c9' : ¬ 8 < (d.list.length : Int) + 1 := by omega
          simp [c9', e, docPush, c9, ← hall, Entry.row, Seen.row]; exact rows3_new
        · have hpd : docPush d ⟨client, seq, v⟩ = ⟨d.name, d.fr + 1, (apply ((d.list ++ ([⟨client, seq, v⟩] : List Entry))[0]'(by simp)).o d.text).1, (d.list ++ ([⟨client, seq, v⟩] : List Entry)).drop 1, seenPut client seq (headRev d + 1) d.seen⟩ := by unfold docPush; rw [if_neg c9]
          obtain ⟨e0, l', hd⟩ : ∃ e0 l', d.list = e0 :: l' := by
            cases h : d.list with
            | nil => rw [h] at c9; simp at c9
            | cons a l => exact ⟨a, l, rfl⟩
          have hm0 : nL nPart e0.o ≤ 2 ^ 40 := by
            have := nL_mem n1 (a := e0) (by rw [hd]; simp); unfold nEntry at this; omega
          have hll : d.list.length = l'.length + 1 := by rw [hd]; simp
          have c9' : 8 < (l'.length : Int) + 1 + 1 := by omega
          have c90 : 0 < (l'.length : Int) + 1 + 1 := by omega
          have ef : Go.IntKind.i64.wrap (d.fr + 1) = d.fr + 1 := Go.IntWalk.i64_in _ (by omega); have hpd2 : docPush d ⟨client, seq, v⟩ = ⟨d.name, d.fr + 1, (apply e0.o d.text).1, l' ++ ([⟨client, seq, v⟩] : List Entry), seenPut client seq (headRev d + 1) d.seen⟩ := by rw [hpd]; simp [hd]
          simp [c9', hd, Entry.row]; refine DrawT.introS eok mix [0, 1, 2, 3, 4, 5, 6, 11] [7, 8, 9, 10, 12] (.child 7 [false, true, false, true, false, false, false, false] [true, false, true, false, true, true, true, true] (.child 8 [false, false, false, false, false, false, false, false] [true, false, true, false, true, true, true, true] (.child 9 [false, false, false, false, false, false, false, false] [true, false, true, false, true, true, true, true] (.child 10 [false, false, false, false, false, false, false, false] [true, false, true, false, true, true, true, true] (.child 12 [true, false, true, false, true, true, true, true] [false, false, false, false, false, false, false, false] (.leaf [false, false, false, false, false, false, false, false]) .stop) .stop) .stop) .stop) .stop) (by kernel_rfl) ?_; simp [c90]
          try intros
          refine ACall.pure (specApply_c e0.o d.text hm0 (by omega)) (by simp) ?_; simp
          try intros
          simp [ef]; have hlen1 : 1 + (l'.length + 1) ≤ l'.length + 1 + 1 := by omega
          simp [e, hpd2, ← hall, Entry.row, cut, hlen1]; exact ⟨rows3_new, (List.take_of_length_le (by simp)).symm⟩
      | false =>
        simp only [Bool.false_eq_true, if_false] at hall; simp; intro b132; refine ⟨by omega, fun H6 => ?_⟩; by_cases c9 : d.list.length < 8
        · have c9' : ¬ 8 < (d.list.length : Int) + 1 := by omega
          simp [c9', e, docPush, c9, ← hall, Entry.row, Seen.row]; exact ⟨rows3_new, rows3_newS⟩
        · have hpd : docPush d ⟨client, seq, v⟩ = ⟨d.name, d.fr + 1, (apply ((d.list ++ ([⟨client, seq, v⟩] : List Entry))[0]'(by simp)).o d.text).1, (d.list ++ ([⟨client, seq, v⟩] : List Entry)).drop 1, seenPut client seq (headRev d + 1) d.seen⟩ := by unfold docPush; rw [if_neg c9]
          obtain ⟨e0, l', hd⟩ : ∃ e0 l', d.list = e0 :: l' := by
            cases h : d.list with
            | nil => rw [h] at c9; simp at c9
            | cons a l => exact ⟨a, l, rfl⟩
          have hm0 : nL nPart e0.o ≤ 2 ^ 40 := by
            have := nL_mem n1 (a := e0) (by rw [hd]; simp); unfold nEntry at this; omega
          have hll : d.list.length = l'.length + 1 := by rw [hd]; simp
          have c9' : 8 < (l'.length : Int) + 1 + 1 := by omega
          have c90 : 0 < (l'.length : Int) + 1 + 1 := by omega
          have ef : Go.IntKind.i64.wrap (d.fr + 1) = d.fr + 1 := Go.IntWalk.i64_in _ (by omega); have hpd2 : docPush d ⟨client, seq, v⟩ = ⟨d.name, d.fr + 1, (apply e0.o d.text).1, l' ++ ([⟨client, seq, v⟩] : List Entry), seenPut client seq (headRev d + 1) d.seen⟩ := by rw [hpd]; simp [hd]
          simp [c9', hd, Entry.row]; refine DrawT.introS eok mix [0, 1, 2, 3, 4, 5, 6, 11] [7, 8, 9, 10, 12] (.child 7 [false, true, false, true, false, false, false, false] [true, false, true, false, true, true, true, true] (.child 8 [false, false, false, false, false, false, false, false] [true, false, true, false, true, true, true, true] (.child 9 [false, false, false, false, false, false, false, false] [true, false, true, false, true, true, true, true] (.child 10 [false, false, false, false, false, false, false, false] [true, false, true, false, true, true, true, true] (.child 12 [true, false, true, false, true, true, true, true] [false, false, false, false, false, false, false, false] (.leaf [false, false, false, false, false, false, false, false]) .stop) .stop) .stop) .stop) .stop) (by kernel_rfl) ?_; simp [c90]
          try intros
          refine ACall.pure (specApply_c e0.o d.text hm0 (by omega)) (by simp) ?_; simp
          try intros
          simp [ef]; have hlen1 : 1 + (l'.length + 1) ≤ l'.length + 1 + 1 := by omega
          simp [e, hpd2, ← hall, Seen.row, Entry.row, cut, hlen1]; exact ⟨rows3_new, (List.take_of_length_le (by simp)).symm, rows3_newS⟩
end Go.Proofs.YtdfdabjdfmamgaaGreat

namespace Go.Proofs.YtdfdabjdfmamgaaGreat
open Go.AM
set_option maxRecDepth 20000
theorem nL_le {α : Type} {f : α → Nat} {B : Nat} : ∀ {l : List α}, (∀ a ∈ l, f a ≤ B) → nL f l ≤ l.length * (B + 1)
  | [], _ => by simp [nL, sumN]
  | a :: l, h => by
    have h1 := h a (List.mem_cons_self ..); have h2 := nL_le (l := l) (fun x hx => h x (List.mem_cons_of_mem _ hx)); unfold nL at h2 ⊢; simp only [List.length_cons, sumN, Nat.succ_mul]; omega
theorem seens_le {d : Doc} (h : seensOk d) : ∀ i, ∀ hi : i < d.seen.length, (i : Int) + 1 ≤ d.seen[i].client
  | 0, hi => by have := (h 0 hi).1.1; simpa using this
  | i + 1, hi => by
    have h1 := seens_le h i (by omega); have h2 := (h (i + 1) hi).2.2.2 (by omega); simp only [Nat.add_sub_cancel] at h2; omega
theorem seens_len {d : Doc} (h : seensOk d) : d.seen.length ≤ 8 := by
  rcases Nat.lt_or_ge 8 d.seen.length with hl | hl
  · have h1 := seens_le h 8 hl
    have h2 := (h 8 hl).1.2; omega
  · exact hl
theorem docOk_n {d : Doc} (h : docOk d) : nDoc d ≤ 2 ^ 23 := by
  obtain ⟨h1, -, h3, h4, h5, -, h7⟩ := h; have h8 := seens_len h7; have h9 := h3.1; have ha := h1.1.2; have hb : nL nEntry d.list ≤ d.list.length * (2 ^ 18 + 1) := nL_le (fun e he => opOk_n (h5 e he).2.2.1); have hc := Nat.mul_le_mul_right (2 ^ 18 + 1) h4; unfold nDoc; omega
theorem seenPut_len {c s r : Int} : ∀ l : List Seen, (seenPut c s r l).length ≤ l.length + 1
  | [] => by simp [seenPut]
  | x :: l => by
    have := seenPut_len (c := c) (s := s) (r := r) l; unfold seenPut
    split
    · simp only [List.length_cons]; omega
    · split <;> simp
theorem nL_append {α : Type} {f : α → Nat} (a b : List α) : nL f (a ++ b) = nL f a + nL f b := by
  unfold nL; rw [sumN_append, List.length_append]; omega
theorem docPush_n {d : Doc} {e : Entry} (h : docOk d) (he : nEntry e ≤ 2 ^ 20) : nDoc (docPush d e) ≤ 2 ^ 24 := by
  have hn := docOk_n h; unfold nDoc at hn; have h1 := seenPut_len (c := e.client) (s := e.seq) (r := headRev d + 1) d.seen
  have h2 : nL nEntry (d.list ++ [e]) ≤ nL nEntry d.list + 2 ^ 20 + 1 := by
    rw [nL_append]; have : nL nEntry [e] = nEntry e + 1 := by simp [nL, sumN]; omega
    omega
  unfold docPush
  split
  · unfold nDoc
    simp only; omega
  · have h3 := nL_drop (k := 1) (Nat.le_refl (nL nEntry (d.list ++ [e])))
    have h4 := apply_len ((d.list ++ [e])[0]'(by simp)).o d.text; unfold nDoc; simp only; omega
theorem fSubmit_n {d : Doc} {client seq base : Int} {o : List Part} (h : docOk d) : nDoc (fSubmit d client seq base o).1 ≤ 2 ^ 24 := by
  have h0 := docOk_n h; unfold fSubmit
  split
  · split
    · simp only; omega
    · split
      · split
        · split
          · simp [Doc.zero_n]
          · exact docPush_n h (by unfold nEntry; exact fRebase_n d base o)
        · simp [Doc.zero_n]
      · simp [Doc.zero_n]
  · simp [Doc.zero_n]
end Go.Proofs.YtdfdabjdfmamgaaGreat

namespace Go.AM
open Go.RowKit
def sLt (s u : ByteArray) : Prop := Op.bytesLess s.toList u.toList = true
theorem b_dc (b : Bool) : b = dc (b = true) := by cases b <;> simp [dc]
section
variable {tb : Prop} {F : AV → Prop} {s u : ByteArray}
theorem B_slss : aBin tb .lss (.string s) (.string u) F = F (.v (.bool (dc (sLt s u)))) := by
  simp only [aBin]; rw [b_dc (Op.bytesLess s.toList u.toList)]; rfl
theorem B_sgeq : aBin tb .geq (.string s) (.string u) F = F (.v (.bool (!dc (sLt s u)))) := by
  simp only [aBin]; rw [b_dc (Op.bytesLess s.toList u.toList)]; rfl
end
attribute [simp ↓] B_slss B_sgeq
end Go.AM

namespace Go.Proofs.YtdfdabjdfmamgaaGreat
open Go.AM
set_option maxRecDepth 20000
noncomputable def fIdx {α : Type} (p : α → Prop) (l : List α) : Int :=
  open Classical in match l.findIdx? (fun a => decide (p a)) with
  | some k => k
  | none => -1
theorem fIdx_at {α : Type} {p : α → Prop} {l : List α} {i : Nat} (h : i < l.length) (hp : p l[i]) (hb : ∀ j, j < i → ∀ hj : j < l.length, ¬ p l[j]) : fIdx p l = i := by
  classical
  unfold fIdx
  have : l.findIdx? (fun a => decide (p a)) = some i := by
    rw [List.findIdx?_eq_some_iff_getElem]; exact ⟨h, by simpa using hp, fun j hj => by simpa using hb j hj (by omega)⟩
  rw [this]
theorem fIdx_none {α : Type} {p : α → Prop} {l : List α} (hb : ∀ j, ∀ hj : j < l.length, ¬ p l[j]) : fIdx p l = -1 := by
  classical
  unfold fIdx
  have : l.findIdx? (fun a => decide (p a)) = none := by
    rw [List.findIdx?_eq_none_iff]; intro x hx; obtain ⟨j, hj, rfl⟩ := List.getElem_of_mem hx
    simpa using hb j hj
  rw [this]
theorem fIdx_cases {α : Type} (p : α → Prop) (l : List α) : (∃ k : Nat, ∃ h : k < l.length, fIdx p l = k ∧ p l[k] ∧ ∀ j, j < k → ∀ hj : j < l.length, ¬ p l[j]) ∨ (fIdx p l = -1 ∧ ∀ j, ∀ hj : j < l.length, ¬ p l[j]) := by
  classical
  cases e : l.findIdx? (fun a => decide (p a)) with
  | some k =>
    rw [List.findIdx?_eq_some_iff_getElem] at e; obtain ⟨h, hp, hb⟩ := e; have hp : p l[k] := by simpa using hp
    have hb : ∀ j, j < k → ∀ hj : j < l.length, ¬ p l[j] := fun j hj hl => by simpa using hb j hj
    exact .inl ⟨k, h, fIdx_at h hp hb, hp, hb⟩
  | none =>
    rw [List.findIdx?_eq_none_iff] at e; have hb : ∀ j, ∀ hj : j < l.length, ¬ p l[j] := fun j hj => by simpa using e _ (List.getElem_mem hj)
    exact .inr ⟨fIdx_none hb, hb⟩
noncomputable def docIdx (l : List Doc) (name : ByteArray) : Int := fIdx (fun d => d.name = name) l
noncomputable def subIdx (l : List Sub) (id : Int) : Int := fIdx (fun s => s.id = id) l
noncomputable def queueIdx (l : List Queue) (name : ByteArray) : Int := fIdx (fun q => q.doc = name) l
def ringOk (r : Ring) : Prop := (∀ e ∈ r.list, entryOk e) ∧ (1 ≤ r.cap ∧ r.cap ≤ 6) ∧ (1 ≤ r.next ∧ r.next ≤ 1000000000) ∧ (r.list.length : Int) ≤ r.cap ∧ ¬ (r.out = true ∧ 0 < r.list.length)
def docAt (l : List Doc) (i : Nat) : Prop := ∀ h : i < l.length, docOk l[i] ∧ ∀ _ : 0 < i, sLt l[i - 1].name l[i].name
def subAt (docs : List Doc) (last : Int) (l : List Sub) (i : Nat) : Prop := ∀ h : i < l.length, (1 ≤ l[i].id ∧ l[i].id ≤ last) ∧ ringOk l[i].r ∧ (∀ _ : 0 < i, l[i - 1].id < l[i].id) ∧
  ∃ k : Nat, ∃ hk : k < docs.length, docIdx docs l[i].doc = k ∧ (l[i].r.out = false → l[i].r.next + l[i].r.list.length = headRev docs[k] + 1)
def hubOk (h : Hub) : Prop := h.docs.length ≤ 5 ∧ h.subs.length ≤ 6 ∧ (0 ≤ h.last ∧ h.last ≤ 1000000000) ∧ (∀ i, docAt h.docs i) ∧ ∀ i, subAt h.docs h.last h.subs i
def onDoc (k : Int) : Prop := 1 ≤ k ∧ k ≤ 5
def callOk (c : Call) : Prop := (1 ≤ c.kind ∧ c.kind ≤ 8) ∧ c.doc.size ≤ 8 ∧ partsOk c.o ∧ textOk c.text ∧ (¬ onDoc c.kind → c.doc = ⟨#[]⟩) ∧ (c.kind ≠ 1 → c.text = []) ∧
  (c.kind ≠ 2 → c.o = [] ∧ c.seq = 0) ∧ (¬ (c.kind = 2 ∨ c.kind = 6 ∨ c.kind = 7) → c.client = 0) ∧ (¬ (c.kind = 2 ∨ c.kind = 3 ∨ c.kind = 5 ∨ c.kind = 6) → c.n = 0)
open Classical in
noncomputable def usedCall (c : Call) : Call := ⟨c.kind, if onDoc c.kind then c.doc else ⟨#[]⟩, if c.kind = 2 ∨ c.kind = 6 ∨ c.kind = 7 then c.client else 0, if c.kind = 2 then c.seq else 0,
  if c.kind = 2 ∨ c.kind = 3 ∨ c.kind = 5 ∨ c.kind = 6 then c.n else 0, if c.kind = 2 then c.o else [], if c.kind = 1 then c.text else []⟩
theorem callOk_used {c : Call} : callOk c ↔ (1 ≤ c.kind ∧ c.kind ≤ 8) ∧ c.doc.size ≤ 8 ∧ partsOk c.o ∧ textOk c.text ∧ c = usedCall c := by
  obtain ⟨kind, doc, client, seq, n, o, text⟩ := c; unfold callOk usedCall onDoc; simp only [Call.mk.injEq, true_and]
  constructor
  · rintro ⟨h1, h2, h3, h4, h5, h6, h7, h8, h9⟩
    refine ⟨h1, h2, h3, h4, ?_, ?_, ?_, ?_, ?_, ?_⟩ <;> split <;> simp_all
  · rintro ⟨h1, h2, h3, h4, h5, h6, h7, h8, h9, h10⟩
    refine ⟨h1, h2, h3, h4, ?_, ?_, ?_, ?_, ?_⟩
    · intro h; rw [if_neg h] at h5; exact h5
    · intro h; rw [if_neg h] at h10; exact h10
    · intro h; rw [if_neg h] at h7 h9; exact ⟨h9, h7⟩
    · intro h; rw [if_neg h] at h6; exact h6
    · intro h; rw [if_neg h] at h8; exact h8
theorem callOk_n {c : Call} (h : callOk c) : nCall c ≤ 2 ^ 20 := by
  obtain ⟨h1, h2, h3, h4, -⟩ := h; have h5 := nL_parts h3.1; have h6 := h3.2; have h7 := h4.1; unfold nCall; omega
noncomputable def fnvStep (n : Int) (c : UInt8) : Int := (Go.IntKind.i64.wrap (bits .xor .i64 n (c.toNat : Int) * 16777619)).tmod 4294967296
noncomputable def fnvTo (s : ByteArray) : Nat → Int
  | 0 => 2166136261
  | i + 1 => if h : i < s.size then fnvStep (fnvTo s i) s[i] else fnvTo s i
theorem fnvTo_suc {s : ByteArray} {i : Nat} (h : i < s.size) : fnvTo s (i + 1) = fnvStep (fnvTo s i) s[i] := by rw [fnvTo, dif_pos h]
theorem xor_b {a c : Nat} (ha : a < 2 ^ 32) (hc : c < 256) : bits .xor .i64 (a : Int) (c : Int) = ((a ^^^ c : Nat) : Int) ∧ a ^^^ c < 2 ^ 32 := by
  have hx : a ^^^ c < 2 ^ 32 := Nat.xor_lt_two_pow ha (by omega); refine ⟨?_, hx⟩
  show IntKind.i64.wrap ((BitVec.ofInt 64 (a : Int) ^^^ BitVec.ofInt 64 (c : Int)).toNat : Int) = _
  have h1 : (BitVec.ofInt 64 (a : Int)).toNat = a := by rw [BitVec.ofInt_natCast, BitVec.toNat_ofNat]; exact Nat.mod_eq_of_lt (by omega)
  have h2 : (BitVec.ofInt 64 (c : Int)).toNat = c := by rw [BitVec.ofInt_natCast, BitVec.toNat_ofNat]; exact Nat.mod_eq_of_lt (by omega)
  rw [BitVec.toNat_xor, h1, h2]; exact Go.IntWalk.i64_in _ (by omega)
theorem fnvTo_b (s : ByteArray) : ∀ i, 0 ≤ fnvTo s i ∧ fnvTo s i < 2 ^ 32
  | 0 => by simp [fnvTo]
  | i + 1 => by
    obtain ⟨h1, h2⟩ := fnvTo_b s i; unfold fnvTo
    split
    · rename_i h
      unfold fnvStep; generalize fnvTo s i = n at h1 h2; obtain ⟨a, rfl⟩ : ∃ a : Nat, n = a := ⟨n.toNat, by omega⟩; obtain ⟨e, hx⟩ := xor_b (a := a) (c := s[i].toNat) (by omega) s[i].toNat_lt; rw [e]; generalize a ^^^ s[i].toNat = z at hx; have ew : Go.IntKind.i64.wrap ((z : Int) * 16777619) = (z : Int) * 16777619 := Go.IntWalk.i64_in _ (by omega); rw [ew, show ((z : Int) * 16777619).tmod 4294967296 = ((z : Int) * 16777619) % 4294967296 from Int.tmod_eq_emod_of_nonneg (by omega)]; omega
    · exact ⟨h1, h2⟩
noncomputable def fnv (s : ByteArray) : Int := fnvTo s s.size
noncomputable def stripe (s : ByteArray) (n : Nat) : Nat := (fnv s).toNat % n
theorem stripe_eq (s : ByteArray) {n : Nat} (h : 1 ≤ n) : (fnv s).tmod n = stripe s n ∧ stripe s n < n := by
  obtain ⟨h1, -⟩ := fnvTo_b s s.size; unfold stripe fnv; generalize fnvTo s s.size = m at h1; obtain ⟨a, rfl⟩ : ∃ a : Nat, m = a := ⟨m.toNat, by omega⟩; refine ⟨?_, Nat.mod_lt _ (by omega)⟩; rw [Int.tmod_eq_emod_of_nonneg (by omega)]; simp
def Answer.zero : Answer := ⟨0, 0, [], []⟩
def busyA (t : Task) : Prop := t.a = ⟨11, 0, [], []⟩ ∧ t.c.kind = 2 ∧ t.lin = -1
def taskOk (t : Task) : Prop := callOk t.c ∧ (0 ≤ t.inv ∧ t.inv ≤ 1000000) ∧ (0 ≤ t.pc ∧ t.pc ≤ 4) ∧ (t.pc = 1 → onDoc t.c.kind) ∧ (t.pc = 2 → t.c.kind = 2) ∧
  (t.pc ≤ 2 → t.lin = -1 ∧ t.rs = -1 ∧ t.a = Answer.zero) ∧ (3 ≤ t.pc → busyA t ∨ (t.inv ≤ t.lin ∧ t.lin ≤ 1000000)) ∧ (t.pc = 3 → t.rs = -1) ∧ (t.pc = 4 → (t.inv ≤ t.rs ∧ t.rs ≤ 1000000) ∧ t.lin ≤ t.rs)
def toldOf (t : Task) : List Int := [t.inv, t.lin, t.rs]
def stepsRun (step : Int) : List Int → List Int → Option (List Int)
  | met, [] => some met
  | met, n :: l => if n = -1 then stepsRun step met l else if n ≥ step ∨ n ∈ met then none else stepsRun step (met ++ [n]) l
def stepsOk (w : Wld) : Prop := (stepsRun w.step [] (w.tasks.flatMap toldOf)).isSome = true
theorem stepsRun_append {step : Int} : ∀ (a b met : List Int), stepsRun step met (a ++ b) = (stepsRun step met a).bind fun m => stepsRun step m b
  | [], b, met => by simp [stepsRun]
  | n :: a, b, met => by
    simp only [List.cons_append, stepsRun]
    split
    · exact stepsRun_append a b met
    · split
      · rfl
      · exact stepsRun_append a b _
theorem stepsRun_len {step : Int} : ∀ (l met m : List Int), stepsRun step met l = some m → m.length ≤ met.length + l.length
  | [], met, m, h => by simp [stepsRun] at h; subst h; simp
  | n :: l, met, m, h => by
    unfold stepsRun at h
    split at h
    · have := stepsRun_len l met m h; simp; omega
    · split at h
      · cases h
      · have := stepsRun_len l _ m h; simp at this ⊢; omega
def lockAt (tasks : List Task) (locks : List Int) (s : Nat) : Prop := ∀ h : s < locks.length, locks[s] = -1 ∨ ∃ k : Nat, ∃ hk : k < tasks.length, locks[s] = k ∧ tasks[k].pc = 1 ∧ stripe tasks[k].c.doc locks.length = s
def lockedAt (tasks : List Task) (locks : List Int) (k : Nat) : Prop := ∀ h : k < tasks.length, tasks[k].pc = 1 → locks[stripe tasks[k].c.doc locks.length]? = some (k : Int)
def locksOk (w : Wld) : Prop := (∀ s, lockAt w.tasks w.locks s) ∧ ∀ k, lockedAt w.tasks w.locks k
def heldBy (tasks : List Task) (n i : Nat) (held : List Int) : Prop := held.length = n ∧ ∀ s, ∀ h : s < held.length,
  (held[s] = -1 ∧ ∀ k, k < i → ∀ hk : k < tasks.length, tasks[k].pc = 1 → stripe tasks[k].c.doc n ≠ s) ∨
  (∃ k : Nat, k < i ∧ ∃ hk : k < tasks.length, held[s] = k ∧ tasks[k].pc = 1 ∧ stripe tasks[k].c.doc n = s ∧ ∀ j, j < i → ∀ hj : j < tasks.length, tasks[j].pc = 1 → stripe tasks[j].c.doc n = s → j = k)
theorem held_zero (tasks : List Task) (n : Nat) : heldBy tasks n 0 (List.replicate n (-1)) := by
  refine ⟨by simp, fun s h => .inl ⟨by simp, fun k hk => by omega⟩⟩
theorem held_skip {tasks : List Task} {n i : Nat} {held : List Int} (h : heldBy tasks n i held) (hi : i < tasks.length) (hp : ¬ tasks[i].pc = 1) : heldBy tasks n (i + 1) held := by
  obtain ⟨h1, h2⟩ := h; refine ⟨h1, fun s hs => ?_⟩; rcases h2 s hs with ⟨ha, hb⟩ | ⟨k, hk, hkl, ha, hb, hc, hd⟩
  · refine .inl ⟨ha, fun k hk hkl hp' => ?_⟩
    rcases Nat.lt_or_ge k i with hlt | hge
    · exact hb k hlt hkl hp'
    · have : k = i := by omega
      subst this; exact absurd hp' hp
  · refine .inr ⟨k, by omega, hkl, ha, hb, hc, fun j hj hjl hp' hs' => ?_⟩
    rcases Nat.lt_or_ge j i with hlt | hge
    · exact hd j hlt hjl hp' hs'
    · have : j = i := by omega
      subst this; exact absurd hp' hp
theorem held_set {tasks : List Task} {n i : Nat} {held : List Int} (h : heldBy tasks n i held) (hi : i < tasks.length) (hp : tasks[i].pc = 1) {s : Nat} (hs : stripe tasks[i].c.doc n = s) (hl : s < held.length) (hm : held[s] = -1) :
    heldBy tasks n (i + 1) (held.set s (i : Int)) := by
  obtain ⟨h1, h2⟩ := h; refine ⟨by simpa using h1, fun r hr => ?_⟩; have hr' : r < held.length := by simpa using hr
  by_cases e : s = r
  · subst e
    rcases h2 s hl with ⟨ha, hb⟩ | ⟨k, hk, hkl, ha, -⟩
    · refine .inr ⟨i, by omega, hi, by simp, hp, hs, fun j hj hjl hp' hs' => ?_⟩
      rcases Nat.lt_or_ge j i with hlt | hge
      · exact absurd hs' (hb j hlt hjl hp')
      · omega
    · omega
  · rw [List.getElem_set_ne e]
    rcases h2 r hr' with ⟨ha, hb⟩ | ⟨k, hk, hkl, ha, hb, hc, hd⟩
    · refine .inl ⟨ha, fun k hk hkl hp' hs' => ?_⟩
      rcases Nat.lt_or_ge k i with hlt | hge
      · exact hb k hlt hkl hp' hs'
      · have : k = i := by omega
        subst this; exact e (hs.symm.trans hs')
    · refine .inr ⟨k, by omega, hkl, ha, hb, hc, fun j hj hjl hp' hs' => ?_⟩
      rcases Nat.lt_or_ge j i with hlt | hge
      · exact hd j hlt hjl hp' hs'
      · have : j = i := by omega
        subst this; exact absurd (hs.symm.trans hs') e
theorem held_two {tasks : List Task} {locks : List Int} {i : Nat} {held : List Int} (h : heldBy tasks locks.length i held) (hi : i < tasks.length) (hp : tasks[i].pc = 1) (hl : stripe tasks[i].c.doc locks.length < held.length) (hm : ¬ held[stripe tasks[i].c.doc locks.length] = -1) :
    ¬ ∀ k, lockedAt tasks locks k := by
  intro hk; rcases h.2 _ hl with ⟨ha, -⟩ | ⟨k, hki, hkl, ha, hb, hc, -⟩
  · exact hm ha
  · have e1 := hk i hi hp
    have e2 := hk k hkl hb; rw [hc, e1] at e2; simp at e2; omega
theorem held_end {tasks : List Task} {locks held : List Int} (hn : 1 ≤ locks.length) (h : heldBy tasks locks.length tasks.length held) : held = locks ↔ ((∀ s, lockAt tasks locks s) ∧ ∀ k, lockedAt tasks locks k) := by
  obtain ⟨h1, h2⟩ := h
  constructor
  · rintro rfl
    refine ⟨fun s hs => ?_, fun k hk hp => ?_⟩
    · rcases h2 s hs with ⟨ha, -⟩ | ⟨k, -, hkl, ha, hb, hc, -⟩
      · exact .inl ha
      · exact .inr ⟨k, hkl, ha, hb, hc⟩
    · by_cases hz : stripe tasks[k].c.doc held.length < held.length
      · rcases h2 _ hz with ⟨-, hb⟩ | ⟨k', -, hkl, ha, hb, hc, hd⟩
        · exact absurd rfl (hb k hk hk hp)
        · have := hd k hk hk hp rfl
          subst this; rw [List.getElem?_eq_getElem hz, ha]
      · exfalso
        exact hz (Nat.mod_lt _ (by omega))
  · rintro ⟨ha, hb⟩
    refine List.ext_getElem h1 (fun s hs hs' => ?_); rcases h2 s hs with ⟨hc, hd⟩ | ⟨k, hk, hkl, hc, hd, he, -⟩
    · rcases ha s hs' with h3 | ⟨k, hkl, h3, h4, h5⟩
      · rw [hc, h3]
      · exact absurd h5 (hd k hkl hkl h4)
    · have h3 := hb k hkl hd
      rw [he, List.getElem?_eq_getElem hs'] at h3; rw [hc]; exact (Option.some.inj h3).symm
def mayWait (tasks : List Task) (doc : ByteArray) (k : Int) : Prop := ∃ i : Nat, ∃ h : i < tasks.length, k = i ∧ tasks[i].pc = 2 ∧ tasks[i].c.doc = doc
open Classical in
noncomputable def queueRun (tasks : List Task) (doc : ByteArray) : List Int → List Int → Option (List Int)
  | all, [] => some all
  | all, k :: l => if mayWait tasks doc k ∧ k ∉ all then queueRun tasks doc (all ++ [k]) l else none
theorem queueRun_append {tasks : List Task} {doc : ByteArray} : ∀ (a b all : List Int), queueRun tasks doc all (a ++ b) = (queueRun tasks doc all a).bind fun m => queueRun tasks doc m b
  | [], b, all => by simp [queueRun]
  | k :: a, b, all => by
    simp only [List.cons_append, queueRun]
    split
    · exact queueRun_append a b _
    · rfl
theorem queueRun_len {tasks : List Task} {doc : ByteArray} : ∀ (l all m : List Int), queueRun tasks doc all l = some m → m.length = all.length + l.length
  | [], all, m, h => by simp [queueRun] at h; subst h; simp
  | k :: l, all, m, h => by
    unfold queueRun at h
    split at h
    · have := queueRun_len l _ m h; simp at this ⊢; omega
    · cases h
def queueAt (h : Hub) (l : List Queue) (i : Nat) : Prop := ∀ hi : i < l.length, (∀ _ : 0 < i, sLt l[i - 1].doc l[i].doc) ∧ (1 ≤ l[i].list.length ∧ l[i].list.length ≤ 2) ∧ 0 ≤ docIdx h.docs l[i].doc
open Classical in
noncomputable def queuesRun (w : Wld) : Nat → Option (List Int)
  | 0 => some []
  | i + 1 => (queuesRun w i).bind fun all => if h : i < w.queues.length then (if queueAt w.h w.queues i then queueRun w.tasks w.queues[i].doc all w.queues[i].list else none) else some all
theorem queuesRun_suc {w : Wld} {i : Nat} (h : i < w.queues.length) {all : List Int} (ha : queuesRun w i = some all) (hq : queueAt w.h w.queues i) : queuesRun w (i + 1) = queueRun w.tasks w.queues[i].doc all w.queues[i].list := by
  rw [queuesRun, ha]; simp only [Option.bind_some]; rw [dif_pos h, if_pos hq]
theorem queuesRun_bad {w : Wld} {i : Nat} (h : i < w.queues.length) (hq : ¬ queueAt w.h w.queues i) : queuesRun w (i + 1) = none := by
  rw [queuesRun]
  cases queuesRun w i with
  | none => rfl
  | some all => simp only [Option.bind_some]; rw [dif_pos h, if_neg hq]
theorem queuesRun_none {w : Wld} {i : Nat} (h : queuesRun w i = none) : ∀ j, queuesRun w (i + j) = none
  | 0 => h
  | j + 1 => by rw [← Nat.add_assoc, queuesRun, queuesRun_none h j]; rfl
def queuesOk (w : Wld) : Prop := ∃ all, queuesRun w w.queues.length = some all ∧ ∀ k, ∀ hk : k < w.tasks.length, w.tasks[k].pc = 2 → (k : Int) ∈ all
theorem queuesOk_no {w : Wld} {i : Nat} (hi : i < w.queues.length) (h : queuesRun w (i + 1) = none) : ¬ queuesOk w := by
  rintro ⟨all, h1, -⟩
  have := queuesRun_none h (w.queues.length - (i + 1)); rw [show i + 1 + (w.queues.length - (i + 1)) = w.queues.length by omega, h1] at this
  cases this
theorem queueRun_one {tasks : List Task} {doc : ByteArray} {all l : List Int} {j : Nat} (hj : j < l.length) {m : List Int} (h : queueRun tasks doc all (l.take j) = some m) : (mayWait tasks doc l[j] ∧ l[j] ∉ m → queueRun tasks doc all (l.take (j + 1)) = some (m ++ [l[j]])) ∧
    (¬ (mayWait tasks doc l[j] ∧ l[j] ∉ m) → queueRun tasks doc all l = none) := by
  constructor
  · intro hc
    rw [← List.take_append_getElem hj, queueRun_append, h]; simp only [Option.bind_some, queueRun]; rw [if_pos hc]
  · intro hc
    rw [show l = l.take j ++ (l[j] :: l.drop (j + 1)) by rw [← List.drop_eq_getElem_cons hj, List.take_append_drop], queueRun_append, h]; simp only [Option.bind_some, queueRun]; have e : (l.take j ++ (l[j] :: l.drop (j + 1)))[j]'(by simp; omega) = l[j] := by simp
    rw [if_neg hc]
theorem stepsRun_one {step : Int} {met l : List Int} {j : Nat} (hj : j < l.length) {m : List Int} (h : stepsRun step met (l.take j) = some m) : (l[j] = -1 → stepsRun step met (l.take (j + 1)) = some m) ∧
    (¬ l[j] = -1 → ¬ (l[j] ≥ step ∨ l[j] ∈ m) → stepsRun step met (l.take (j + 1)) = some (m ++ [l[j]])) ∧ (¬ l[j] = -1 → (l[j] ≥ step ∨ l[j] ∈ m) → stepsRun step met l = none) := by
  refine ⟨fun hc => ?_, fun hc hd => ?_, fun hc hd => ?_⟩
  · rw [← List.take_append_getElem hj, stepsRun_append, h]
    simp only [Option.bind_some, stepsRun]; rw [if_pos hc]
  · rw [← List.take_append_getElem hj, stepsRun_append, h]
    simp only [Option.bind_some, stepsRun]; rw [if_neg hc, if_neg hd]
  · rw [show stepsRun step met l = stepsRun step met (l.take j ++ (l[j] :: l.drop (j + 1))) by rw [← List.drop_eq_getElem_cons hj, List.take_append_drop], stepsRun_append, h]
    simp only [Option.bind_some, stepsRun]; rw [if_neg hc, if_pos hd]
theorem told_suc {l : List Task} {i : Nat} (h : i < l.length) : (l.take (i + 1)).flatMap toldOf = (l.take i).flatMap toldOf ++ toldOf l[i] := by
  rw [← List.take_append_getElem h, List.flatMap_append]; simp
theorem told_len : ∀ (l : List Task), (l.flatMap toldOf).length = 3 * l.length
  | [] => rfl
  | t :: l => by
    rw [List.flatMap_cons, List.length_append, told_len l]; simp [toldOf]; omega
theorem stepsOk_no {w : Wld} {i : Nat} (hi : i < w.tasks.length) {m : List Int} (h : stepsRun w.step [] ((w.tasks.take i).flatMap toldOf) = some m) (hn : stepsRun w.step m (toldOf w.tasks[i]) = none) : ¬ stepsOk w := by
  unfold stepsOk
  rw [show w.tasks.flatMap toldOf = (w.tasks.take i).flatMap toldOf ++ (toldOf w.tasks[i] ++ (w.tasks.drop (i + 1)).flatMap toldOf) by
    rw [← List.append_assoc, ← told_suc hi, ← List.flatMap_append, List.take_append_drop]]
  rw [stepsRun_append, h]; simp only [Option.bind_some]; rw [stepsRun_append, hn]; simp
def worldOk (w : Wld) : Prop := (∀ t ∈ w.tasks, taskOk t) ∧ hubOk w.h ∧ (1 ≤ w.locks.length ∧ w.locks.length ≤ 4) ∧ w.tasks.length ≤ 10 ∧ (0 ≤ w.step ∧ w.step ≤ 1000000) ∧ stepsOk w ∧ locksOk w ∧ queuesOk w
end Go.Proofs.YtdfdabjdfmamgaaGreat

namespace Go.Proofs.YtdfdabjdfmamgaaGreat
open Go.AM
set_option maxRecDepth 20000
def Ring.zero : Ring := ⟨0, 0, false, []⟩
def Hub.zero : Hub := ⟨false, [], [], 0⟩
def Wld.zero : Wld := ⟨Hub.zero, [], [], [], 0⟩
def ringEmpty (room rev : Int) : Ring := ⟨room, rev + 1, false, []⟩
open Classical in
noncomputable def fRingNew (room rev : Int) : Ring × Bool := if ringOk (ringEmpty room rev) then (ringEmpty room rev, true) else (Ring.zero, false)
open Classical in
noncomputable def fRingPush (r : Ring) (e : Entry) : Ring :=
  if ringOk r ∧ entryOk e ∧ r.out = false then (if (r.list.length : Int) = r.cap then ⟨r.cap, r.next, true, []⟩ else ⟨r.cap, r.next, r.out, r.list ++ [e]⟩) else r
open Classical in
noncomputable def fRingPoll (r : Ring) (n : Int) : Ring × List Entry × Int :=
  if ringOk r ∧ 1 ≤ n then (if r.out = true then (r, [], 9) else (⟨r.cap, r.next + (min n.toNat r.list.length : Nat), r.out, r.list.drop n.toNat⟩, r.list.take n.toNat, 0)) else (r, [], 1)
open Classical in
noncomputable def fRingResync (r : Ring) (rev : Int) : Ring × Bool := if ringOk r then fRingNew r.cap rev else (Ring.zero, false)
noncomputable def docPut (d : Doc) : List Doc → List Doc
  | [] => [d]
  | x :: l => open Classical in if sLt x.name d.name then x :: docPut d l else d :: x :: l
open Classical in
noncomputable def fHubOpen (h : Hub) (name : ByteArray) (t : List Int) : Hub × Int :=
  if hubOk h ∧ docOk (doc0 name t) then
    (if h.shut = true then (Hub.zero, 12) else if 0 ≤ docIdx h.docs name then (Hub.zero, 7) else if h.docs.length = 5 then (Hub.zero, 10) else (⟨h.shut, docPut (doc0 name t) h.docs, h.subs, h.last⟩, 0))
  else (Hub.zero, 1)
noncomputable def tellSub (name : ByteArray) (e : Entry) (s : Sub) : Sub := open Classical in if s.doc = name then ⟨s.id, s.doc, fRingPush s.r e⟩ else s
noncomputable def hubCommit (h : Hub) (name : ByteArray) (k : Nat) (d0 d : Doc) : Hub :=
  ⟨h.shut, h.docs.set k d, if headRev d > headRev d0 then (match d.list.getLast? with | some e => h.subs.map (tellSub name e) | none => h.subs) else h.subs, h.last⟩
open Classical in
noncomputable def fHubSubmit (h : Hub) (name : ByteArray) (client seq base : Int) (o : List Part) : Hub × Int × Int :=
  if hubOk h then
    if h.shut = true then (Hub.zero, 0, 12) else
    match h.docs[(docIdx h.docs name).toNat]? with
    | some d0 => if 0 ≤ docIdx h.docs name then
        (if (fSubmit d0 client seq base o).2.2 = 0 then (hubCommit h name (docIdx h.docs name).toNat d0 (fSubmit d0 client seq base o).1, (fSubmit d0 client seq base o).2.1, 0) else (Hub.zero, 0, (fSubmit d0 client seq base o).2.2))
      else (Hub.zero, 0, 6)
    | none => (Hub.zero, 0, 6)
  else (Hub.zero, 0, 1)
open Classical in
noncomputable def fHubSubscribe (h : Hub) (name : ByteArray) (room : Int) : Hub × Int × Int :=
  if hubOk h ∧ (1 ≤ room ∧ room ≤ 6) then
    if h.shut = true then (Hub.zero, 0, 12) else
    match h.docs[(docIdx h.docs name).toNat]? with
    | some d => if 0 ≤ docIdx h.docs name then
        (if h.subs.length = 6 ∨ h.last = 1000000000 then (Hub.zero, 0, 10) else (⟨h.shut, h.docs, h.subs ++ [⟨h.last + 1, name, (fRingNew room (headRev d)).1⟩], h.last + 1⟩, h.last + 1, 0))
      else (Hub.zero, 0, 6)
    | none => (Hub.zero, 0, 6)
  else (Hub.zero, 0, 1)
open Classical in
noncomputable def fHubPoll (h : Hub) (id n : Int) : Hub × List Entry × Int :=
  if hubOk h ∧ 1 ≤ n then
    match h.subs[(subIdx h.subs id).toNat]? with
    | some s => if 0 ≤ subIdx h.subs id then
        (if (fRingPoll s.r n).2.2 = 0 then (⟨h.shut, h.docs, h.subs.set (subIdx h.subs id).toNat ⟨s.id, s.doc, (fRingPoll s.r n).1⟩, h.last⟩, (fRingPoll s.r n).2.1, 0) else (Hub.zero, [], (fRingPoll s.r n).2.2))
      else (Hub.zero, [], 8)
    | none => (Hub.zero, [], 8)
  else (Hub.zero, [], 1)
open Classical in
noncomputable def fHubResync (h : Hub) (id : Int) : Hub × List Int × Int × Int :=
  if hubOk h then
    match h.subs[(subIdx h.subs id).toNat]? with
    | some s => if 0 ≤ subIdx h.subs id then
        (match h.docs[(docIdx h.docs s.doc).toNat]? with
        | some d => (⟨h.shut, h.docs, h.subs.set (subIdx h.subs id).toNat ⟨s.id, s.doc, (fRingResync s.r (headRev d)).1⟩, h.last⟩, headText d, headRev d, 0)
        | none => (Hub.zero, [], 0, 8))
      else (Hub.zero, [], 0, 8)
    | none => (Hub.zero, [], 0, 8)
  else (Hub.zero, [], 0, 1)
open Classical in
noncomputable def fHubShut (h : Hub) : Hub × Int := if hubOk h then (if h.shut = true then (Hub.zero, 12) else (⟨true, h.docs, h.subs, h.last⟩, 0)) else (Hub.zero, 1)
def codeA (code : Int) : Answer := ⟨code, 0, [], []⟩
open Classical in
noncomputable def fLook (h : Hub) (c : Call) : Answer :=
  if h.shut = true then codeA 12 else
  match h.docs[(docIdx h.docs c.doc).toNat]? with
  | some d => if 0 ≤ docIdx h.docs c.doc then (if c.kind = 4 then ⟨0, headRev d, headText d, []⟩ else ⟨(fFetch d c.n).2, 0, [], (fFetch d c.n).1⟩) else codeA 6
  | none => codeA 6
open Classical in
noncomputable def fDo (h : Hub) (c : Call) : Hub × Answer :=
  if hubOk h ∧ callOk c then
    if c.kind = 1 then (if (fHubOpen h c.doc c.text).2 = 0 then ((fHubOpen h c.doc c.text).1, codeA 0) else (h, codeA (fHubOpen h c.doc c.text).2))
    else if c.kind = 2 then (if (fHubSubmit h c.doc c.client c.seq c.n c.o).2.2 = 0 then ((fHubSubmit h c.doc c.client c.seq c.n c.o).1, ⟨0, (fHubSubmit h c.doc c.client c.seq c.n c.o).2.1, [], []⟩) else (h, codeA (fHubSubmit h c.doc c.client c.seq c.n c.o).2.2))
    else if c.kind = 3 ∨ c.kind = 4 then (h, fLook h c)
    else if c.kind = 5 then (if (fHubSubscribe h c.doc c.n).2.2 = 0 then ((fHubSubscribe h c.doc c.n).1, ⟨0, (fHubSubscribe h c.doc c.n).2.1, [], []⟩) else (h, codeA (fHubSubscribe h c.doc c.n).2.2))
    else if c.kind = 6 then (if (fHubPoll h c.client c.n).2.2 = 0 then ((fHubPoll h c.client c.n).1, ⟨0, 0, [], (fHubPoll h c.client c.n).2.1⟩) else (h, codeA (fHubPoll h c.client c.n).2.2))
    else if c.kind = 7 then (if (fHubResync h c.client).2.2.2 = 0 then ((fHubResync h c.client).1, ⟨0, (fHubResync h c.client).2.2.1, (fHubResync h c.client).2.1, []⟩) else (h, codeA (fHubResync h c.client).2.2.2))
    else (if (fHubShut h).2 = 0 then ((fHubShut h).1, codeA 0) else (h, codeA (fHubShut h).2))
  else (h, codeA 1)
end Go.Proofs.YtdfdabjdfmamgaaGreat

