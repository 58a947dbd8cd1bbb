import Derived.Test.YtdfdabjdfmamgaaGreatPH
import Derived.Test.YtdfdabjdfmamgaaGreatPG
namespace Go.Proofs.YtdfdabjdfmamgaaGreat
open Go.AM
set_option maxRecDepth 20000
set_option maxHeartbeats 1600000

noncomputable def atBase (d : Doc) (rev : Int) : Int := if headRev d < rev then 2 else if rev < d.fr then 3 else 0
theorem atBase_c (d : Doc) (rev : Int) : PureC Tryz.prog 319 [.agg d.row, .c (vi rev)] (.one (.c (vi (atBase d rev)) 1)) := by
  refine PureC.intro' tt_ok Tryz.func319 (by kernel_rfl) rfl rfl rfl (Nat.le_of_ble_eq_true rfl) (fun w0 base => ?_)
  simp [Doc.row]
  intro b
  refine ACall.pure (implHeadRev_c d) (by simp [Doc.row]) ?_
  unfold atBase
  by_cases c1 : headRev d < rev
  · simp [c1]
  · by_cases c2 : rev < d.fr
    · simp [c1, c2]
    · simp [c1, c2]
open Classical in
noncomputable def opsSince (d : Doc) (rev : Int) : List (List Part) × Bool := if docOk d ∧ d.fr ≤ rev ∧ rev ≤ headRev d then ((d.list.drop (rev - d.fr).toNat).map Entry.o, true) else ([], false)
theorem opsSince_no {d : Doc} {rev : Int} (h : ¬ (docOk d ∧ d.fr ≤ rev ∧ rev ≤ headRev d)) : opsSince d rev = ([], false) := by unfold opsSince; rw [if_neg h]
theorem opsSince_yes {d : Doc} {rev : Int} (h : docOk d ∧ d.fr ≤ rev ∧ rev ≤ headRev d) : opsSince d rev = ((d.list.drop (rev - d.fr).toNat).map Entry.o, true) := by unfold opsSince; rw [if_pos h]
theorem sumN_drop' {α : Type} {f : α → Nat} : ∀ (l : List α) (k : Nat), sumN f (l.drop k) ≤ sumN f l
  | [], k => by simp
  | a :: l, 0 => by simp
  | a :: l, k + 1 => by have := sumN_drop' (f := f) l k; simp only [List.drop_succ_cons, sumN]; omega
theorem nL_drop {α : Type} {f : α → Nat} {l : List α} {k B : Nat} (h : nL f l ≤ B) : nL f (l.drop k) ≤ B := by
  have := sumN_drop' (f := f) l k
  unfold nL at *
  simp only [List.length_drop]
  omega
theorem cut_dropE {l : List Entry} {k : Nat} (h : k ≤ l.length) : cut (l.map Entry.row) k (l.length - k) = (l.drop k).map Entry.row := by
  unfold cut
  split
  · rename_i h1
    rw [h1.1]; simp
  · rw [← List.map_drop, List.take_of_length_le (by simp)]
theorem implOpsSince_c (d : Doc) (hl : nDoc d ≤ 2 ^ 30) (rev : Int) : PureC Tryz.prog 340 [.agg d.row, .c (vi rev)] (.tup [.c (.s ((opsSince d rev).1.map partsR)) 1, .c (.v (.bool (opsSince d rev).2)) 1]) := by
  refine PureC.intro' tt_ok Tryz.func340 (by kernel_rfl) rfl rfl rfl (Nat.le_of_ble_eq_true rfl) (fun w0 base => ?_)
  obtain ⟨n1, n2, n3, n4⟩ := nDoc_list hl
  simp [Doc.row]
  intro b2
  refine DrawT.quiet eok mix (by kernel_rfl) ?_
  simp
  refine ⟨_, _, implDocOk_c d hl, by simp [Doc.row], ?_⟩
  by_cases c1 : docOk d
  rotate_left
  · have e := opsSince_no (d := d) (rev := rev) (fun h => c1 h.1)
    simp [dc_neg c1, e]
  simp [c1]
  refine ⟨_, _, implHeadRev_c d, by simp [Doc.row], ?_⟩
  simp
  refine ⟨_, _, within_c rev d.fr (headRev d), by simp, ?_⟩
  by_cases c2 : d.fr ≤ rev ∧ rev ≤ headRev d
  rotate_left
  · have e := opsSince_no (d := d) (rev := rev) (fun h => c2 h.2)
    simp [dc_neg c2, e]
  have e := opsSince_yes ⟨c1, c2⟩
  have hh := docOk_head c1
  obtain ⟨k, hk⟩ : ∃ k : Nat, rev - d.fr = k := ⟨(rev - d.fr).toNat, by omega⟩
  have hkl : k ≤ d.list.length := by omega
  have ew : Go.IntKind.i64.wrap (rev - d.fr) = (k : Int) := by rw [Go.IntWalk.i64_in _ (by omega)]; omega
  rw [hk] at e
  simp only [Int.toNat_natCast] at e
  simp [c2, ew, hkl, cut_dropE hkl]
  refine ACall.pure (opsOf_c (d.list.drop k) (nL_drop n1)) (by simp) ?_
  simp [e]
  intro row h
  have := List.mem_of_mem_drop h
  simp at this
  obtain ⟨x, -, rfl⟩ := this
  rfl
theorem specOpsSince_c (d : Doc) (hl : nDoc d ≤ 2 ^ 30) (rev : Int) : PureC Tryz.prog 335 [.agg d.row, .c (vi rev)] (.tup [.c (.s ((opsSince d rev).1.map partsR)) 1, .c (.v (.bool (opsSince d rev).2)) 1]) := by
  refine PureC.intro' tt_ok Tryz.func335 (by kernel_rfl) rfl rfl rfl (Nat.le_of_ble_eq_true rfl) (fun w0 base => ?_)
  obtain ⟨n1, n2, n3, n4⟩ := nDoc_list hl
  simp [Doc.row]
  intro b2
  refine DrawT.quiet eok mix (by kernel_rfl) ?_
  simp
  refine ⟨_, _, specDocOk_c d hl, by simp [Doc.row], ?_⟩
  by_cases c1 : docOk d
  rotate_left
  · have e := opsSince_no (d := d) (rev := rev) (fun h => c1 h.1)
    simp [dc_neg c1, e]
  simp [c1]
  refine ⟨_, _, specHeadRev_c d, by simp [Doc.row], ?_⟩
  simp
  refine ⟨_, _, l01In_c rev d.fr (headRev d), by simp, ?_⟩
  by_cases c2 : d.fr ≤ rev ∧ rev ≤ headRev d
  rotate_left
  · have e := opsSince_no (d := d) (rev := rev) (fun h => c2 h.2)
    simp [dc_neg c2, e]
  have e := opsSince_yes ⟨c1, c2⟩
  have hh := docOk_head c1
  obtain ⟨k, hk⟩ : ∃ k : Nat, rev - d.fr = k := ⟨(rev - d.fr).toNat, by omega⟩
  have hkl : k ≤ d.list.length := by omega
  have ew : Go.IntKind.i64.wrap (rev - d.fr) = (k : Int) := by rw [Go.IntWalk.i64_in _ (by omega)]; omega
  rw [hk] at e
  simp only [Int.toNat_natCast] at e
  simp [c2, ew, hkl, cut_dropE hkl]
  intro b21
  obtain ⟨l, hl'⟩ : ∃ l, d.list.drop k = l := ⟨_, rfl⟩
  have hn : nL nEntry l ≤ 2 ^ 30 := hl' ▸ nL_drop n1
  have hll : d.list.length - k = l.length := by rw [← hl']; simp
  have hle := nL_len hn
  rw [hl'] at e
  simp only [← List.map_drop, hl', hll]
  refine LoopT.introG eok (fun x : Nat × Hd => x.1 ≤ l.length) (fun x => ⟨42, 0, [(30, .v (.int .i64 x.1)), (29, .v (.int .i64 l.length)), (28, .ro (l.map Entry.row)), (6, .sl 336 x.2 1 0 x.1)], [(336, .rows x.2 1 (((l.take x.1).map Entry.o).map partsR) true)]⟩) (fun x => l.length - x.1) (0, some (b21, 0, 0)) (by simp) (by simp) (fun x hx => Ent.refl ?_)
  obtain ⟨i, H⟩ := x
  simp only at hx ⊢
  by_cases hlt : i < l.length
  · have hm := nL_at hn hlt
    unfold nEntry at hm
    simp [hlt, Entry.row]
    intro b5
    refine ACall.pure (l02Copy_c l[i].o hm) (by simp) ?_
    simp
    intro H1 b
    have e1 : i = min i l.length := by omega
    refine ⟨e1, by omega, fun H2 => Ent.refl ⟨i + 1, by omega, by omega, H2, ?_⟩⟩
    simp
    exact ⟨i64_suc (by omega), take_snoc (f := fun e : Entry => partsR e.o) hlt⟩
  · have e2 : l.length = i := by omega
    simp [hlt, e]
    have e1 : i ≤ min i l.length := by omega
    refine ⟨e1, ?_, ?_⟩
    · intro row hr
      have := List.mem_of_mem_take hr
      simp at this
      obtain ⟨x, -, rfl⟩ := this
      rfl
    · rw [List.take_of_length_le (by simp; omega)]
      simp [cut, e2]

theorem drop_rows3 (l : List Entry) (k : Nat) : ∀ row ∈ List.drop k (List.map Entry.row l), row.length = 3 := by
  intro row h
  have := List.mem_of_mem_drop h
  simp at this
  obtain ⟨x, -, rfl⟩ := this
  rfl
open Classical in
theorem fFetch_no {d : Doc} {rev : Int} (h : ¬ docOk d) : fFetch d rev = ([], 1) := by unfold fFetch; rw [if_neg h]
theorem fFetch_yes {d : Doc} {rev : Int} (h : docOk d) : fFetch d rev = if headRev d < rev then ([], 2) else if rev < d.fr then ([], 3) else (d.list.drop (rev - d.fr).toNat, 0) := by unfold fFetch; rw [if_pos h]
theorem implFetch_c (d : Doc) (hl : nDoc d ≤ 2 ^ 30) (rev : Int) : PureC Tryz.prog 248 [.agg d.row, .c (vi rev)] (.tup [.c (.s ((fFetch d rev).1.map Entry.row)) 3, .c (vi (fFetch d rev).2) 1]) := by
  refine PureC.intro' tt_ok Tryz.func248 (by kernel_rfl) rfl rfl rfl (Nat.le_of_ble_eq_true rfl) (fun w0 base => ?_)
  obtain ⟨n1, n2, n3, n4⟩ := nDoc_list hl
  simp [Doc.row]
  intro b2
  refine ACall.pure (implDocOk_c d hl) (by simp [Doc.row]) ?_
  by_cases c1 : docOk d
  rotate_left
  · simp [dc_neg c1, fFetch_no c1]
  have e := fFetch_yes (rev := rev) c1
  simp [c1]
  refine ACall.pure (atBase_c d rev) (by simp [Doc.row]) ?_
  unfold atBase
  by_cases c2 : headRev d < rev
  · simp [c2, e]
  by_cases c3 : rev < d.fr
  · simp [c2, c3, e]
  have hh := docOk_head c1
  obtain ⟨k, hk⟩ : ∃ k : Nat, rev - d.fr = k := ⟨(rev - d.fr).toNat, by omega⟩
  have hkl : k ≤ d.list.length := by omega
  have ew : Go.IntKind.i64.wrap (rev - d.fr) = (k : Int) := by rw [Go.IntWalk.i64_in _ (by omega)]; omega
  simp only [c2, c3, if_false, hk, Int.toNat_natCast] at e
  simp [c2, c3, ew, hkl, cut_dropE hkl]
  refine ACall.pure (copyEntries_c (d.list.drop k) (nL_drop n1)) (by simp) ?_
  simp [e]
  exact drop_rows3 _ _
theorem specFetch_c (d : Doc) (hl : nDoc d ≤ 2 ^ 30) (rev : Int) : PureC Tryz.prog 238 [.agg d.row, .c (vi rev)] (.tup [.c (.s ((fFetch d rev).1.map Entry.row)) 3, .c (vi (fFetch d rev).2) 1]) := by
  refine PureC.intro' tt_ok Tryz.func238 (by kernel_rfl) rfl rfl rfl (Nat.le_of_ble_eq_true rfl) (fun w0 base => ?_)
  obtain ⟨n1, n2, n3, n4⟩ := nDoc_list hl
  simp [Doc.row]
  intro b2
  refine ACall.pure (specDocOk_c d hl) (by simp [Doc.row]) ?_
  by_cases c1 : docOk d
  rotate_left
  · simp [dc_neg c1, fFetch_no c1]
  have e := fFetch_yes (rev := rev) c1
  simp [c1]
  refine ACall.pure (specHeadRev_c d) (by simp [Doc.row]) ?_
  by_cases c2 : headRev d < rev
  · simp [c2, e]
  by_cases c3 : rev < d.fr
  · simp [c2, c3, e]
  have hh := docOk_head c1
  obtain ⟨k, hk⟩ : ∃ k : Nat, rev - d.fr = k := ⟨(rev - d.fr).toNat, by omega⟩
  have hkl : k ≤ d.list.length := by omega
  have ew : Go.IntKind.i64.wrap (rev - d.fr) = (k : Int) := by rw [Go.IntWalk.i64_in _ (by omega)]; omega
  simp only [c2, c3, if_false, hk, Int.toNat_natCast] at e
  simp [c2, c3, ew, hkl, cut_dropE hkl]
  refine ACall.pure (l08Entries_c (d.list.drop k) (nL_drop n1)) (by simp) ?_
  simp [e]
  exact drop_rows3 _ _

theorem specHeadText_c (d : Doc) (hl : nDoc d ≤ 2 ^ 30) : PureC Tryz.prog 78 [.agg d.row] (.one (.c (.s ((headText d).map intR)) 1)) := by
  refine PureC.intro' tt_ok Tryz.func78 (by kernel_rfl) rfl rfl rfl (Nat.le_of_ble_eq_true rfl) (fun w0 base => ?_)
  simp [Doc.row]
  intro b2
  refine DrawT.introS eok mix [0, 1] [2, 3, 4, 5, 6, 7, 8] (.child 2 [true, false] [false, true] (.child 3 [false, true] [false, false] (.child 4 [false, false] [false, false] (.child 5 [false, false] [false, false] (.child 6 [false, false] [false, false] (.child 7 [false, false] [false, false] (.child 8 [false, false] [false, false] (.leaf [false, false]) .stop) .stop) .stop) .stop) .stop) .stop) .stop) (by kernel_rfl) ?_
  simp
  try intros
  refine ACall.pure (specHeadRev_c d) (by simp [Doc.row]) ?_
  simp
  try intros
  refine ACall.pure (specTextAt_c d hl (headRev d)) (by simp [Doc.row]) ?_
  simp
  try intros
  simp [headText]

theorem implHeadText_c (d : Doc) (hl : nDoc d ≤ 2 ^ 30) : PureC Tryz.prog 85 [.agg d.row] (.one (.c (.s ((headText d).map intR)) 1)) := by
  refine PureC.intro' tt_ok Tryz.func85 (by kernel_rfl) rfl rfl rfl (Nat.le_of_ble_eq_true rfl) (fun w0 base => ?_)
  simp [Doc.row]
  intro b2
  refine DrawT.introS eok mix [0, 1] [2, 3, 4, 5, 6, 7, 8] (.child 2 [true, false] [false, true] (.child 3 [false, true] [false, false] (.child 4 [false, false] [false, false] (.child 5 [false, false] [false, false] (.child 6 [false, false] [false, false] (.child 7 [false, false] [false, false] (.child 8 [false, false] [false, false] (.leaf [false, false]) .stop) .stop) .stop) .stop) .stop) .stop) .stop) (by kernel_rfl) ?_
  simp
  try intros
  refine ACall.pure (implHeadRev_c d) (by simp [Doc.row]) ?_
  simp
  try intros
  refine ACall.pure (implTextAt_c d hl (headRev d)) (by simp [Doc.row]) ?_
  simp
  try intros
  simp [headText]

theorem fRebase_no {d : Doc} {base : Int} {o : List Part} (h : ¬ (docOk d ∧ opOk o)) : fRebase d base o = ([], 1) := by unfold fRebase; rw [if_neg h]
theorem fRebase_yes {d : Doc} {base : Int} {o : List Part} (h : docOk d ∧ opOk o) : fRebase d base o = if headRev d < base then ([], 2) else if base < d.fr then ([], 3) else
    if opFrom o = (textAt d base).1.length then
      if (fPast ((d.list.drop (base - d.fr).toNat).map Entry.o) o).2 = true then ((fPast ((d.list.drop (base - d.fr).toNat).map Entry.o) o).1, 0) else ([], 5)
    else ([], 1) := by unfold fRebase; rw [if_pos h]
theorem implRebase_c (d : Doc) (hl : nDoc d ≤ 2 ^ 30) (base : Int) (o : List Part) (ho : nL nPart o ≤ 2 ^ 40) : PureC Tryz.prog 317 [.agg d.row, .c (vi base), .c (.s (o.map Part.row))] (.tup [.c (.s ((fRebase d base o).1.map Part.row)) 3, .c (vi (fRebase d base o).2) 1]) := by
  refine PureC.intro' tt_ok Tryz.func317 (by kernel_rfl) rfl rfl rfl (Nat.le_of_ble_eq_true rfl) (fun w0 bs => ?_)
  obtain ⟨n1, n2, n3, n4⟩ := nDoc_list hl
  simp [Doc.row]
  intro b3
  refine ACall.pure (implDocOk_c d hl) (by simp [Doc.row]) ?_
  by_cases c1 : docOk d
  rotate_left
  · simp [dc_neg c1, fRebase_no (d := d) (base := base) (o := o) (fun h => c1 h.1)]
  simp [c1]
  refine ACall.pure (implOpOk_c o ho) (by simp) ?_
  by_cases c2 : opOk o
  rotate_left
  · simp [dc_neg c2, fRebase_no (d := d) (base := base) (o := o) (fun h => c2 h.2)]
  have e := fRebase_yes (base := base) ⟨c1, c2⟩
  simp [c2]
  refine ACall.pure (atBase_c d base) (by simp [Doc.row]) ?_
  unfold atBase
  by_cases c3 : headRev d < base
  · simp [c3, e]
  by_cases c4 : base < d.fr
  · simp [c3, c4, e]
  have hh := docOk_head c1
  have c5 : docOk d ∧ d.fr ≤ base ∧ base ≤ headRev d := ⟨c1, by omega, by omega⟩
  have hops := opsSince_yes c5
  simp only [c3, c4, if_false] at e
  simp [c3, c4]
  refine ACall.pure (implTextAt_c d hl base) (by simp [Doc.row]) ?_
  generalize textAt d base = T at e ⊢
  obtain ⟨t, ok⟩ := T
  simp only at e ⊢
  simp
  intro H1
  refine ACall.pure (implOpFrom_c o ho) (by simp) ?_
  by_cases c6 : opFrom o = t.length
  rotate_left
  · simp only [c6, if_false] at e
    simp [c6, e]
  simp only [c6, if_true] at e
  simp [c6]
  refine ACall.pure (implOpsSince_c d hl base) (by simp [Doc.row]) ?_
  rw [hops]
  generalize hL : (d.list.drop (base - d.fr).toNat) = L at e ⊢
  have hL1 : L.length ≤ d.list.length := by rw [← hL]; simp
  have hle := nL_len n1
  have hs : ∀ q ∈ L.map Entry.o, nL nPart q ≤ 2 ^ 40 := fun q hq => by
    have := docOk_ops n1 (l := L) (fun e he => by rw [← hL] at he; exact List.mem_of_mem_drop he) hq
    omega
  simp
  intro H2
  refine ACall.pure (implPast_c (L.map Entry.o) o (by simp; omega) hs ho) (by simp) ?_
  generalize fPast (L.map Entry.o) o = P at e ⊢
  obtain ⟨v, ok2⟩ := P
  simp only at e ⊢
  cases ok2 with
  | false => simp at e; simp [e]
  | true => simp at e; simp [e]
theorem specRebase_c (d : Doc) (hl : nDoc d ≤ 2 ^ 30) (base : Int) (o : List Part) (ho : nL nPart o ≤ 2 ^ 40) : PureC Tryz.prog 306 [.agg d.row, .c (vi base), .c (.s (o.map Part.row))] (.tup [.c (.s ((fRebase d base o).1.map Part.row)) 3, .c (vi (fRebase d base o).2) 1]) := by
  refine PureC.intro' tt_ok Tryz.func306 (by kernel_rfl) rfl rfl rfl (Nat.le_of_ble_eq_true rfl) (fun w0 bs => ?_)
  obtain ⟨n1, n2, n3, n4⟩ := nDoc_list hl
  simp [Doc.row]
  intro b3
  refine ACall.pure (specDocOk_c d hl) (by simp [Doc.row]) ?_
  by_cases c1 : docOk d
  rotate_left
  · simp [dc_neg c1, fRebase_no (d := d) (base := base) (o := o) (fun h => c1 h.1)]
  simp [c1]
  refine ACall.pure (specOpOk_c o ho) (by simp) ?_
  by_cases c2 : opOk o
  rotate_left
  · simp [dc_neg c2, fRebase_no (d := d) (base := base) (o := o) (fun h => c2 h.2)]
  have e := fRebase_yes (base := base) ⟨c1, c2⟩
  simp [c2]
  refine ACall.pure (specHeadRev_c d) (by simp [Doc.row]) ?_
  by_cases c3 : headRev d < base
  · simp [c3, e]
  by_cases c4 : base < d.fr
  · simp [c3, c4, e]
  have hh := docOk_head c1
  have c5 : docOk d ∧ d.fr ≤ base ∧ base ≤ headRev d := ⟨c1, by omega, by omega⟩
  have hops := opsSince_yes c5
  have hfit := fRebase_fits (o := o) c1 c2 c5.2.1 c5.2.2
  simp only [c3, c4, if_false] at e
  simp [c3, c4]
  refine ACall.pure (specTextAt_c d hl base) (by simp [Doc.row]) ?_
  generalize textAt d base = T at e hfit ⊢
  obtain ⟨t, ok⟩ := T
  simp only at e hfit ⊢
  simp
  intro H1
  refine ACall.pure (specOpFrom_c o ho) (by simp) ?_
  by_cases c6 : opFrom o = t.length
  rotate_left
  · simp only [c6, if_false] at e
    simp [c6, e]
  simp only [c6, if_true, true_implies] at e hfit
  simp [c6]
  refine ACall.pure (specOpsSince_c d hl base) (by simp [Doc.row]) ?_
  rw [hops]
  generalize hL : (d.list.drop (base - d.fr).toNat) = L at e hfit ⊢
  have hL1 : L.length ≤ d.list.length := by rw [← hL]; simp
  have hle := nL_len n1
  have hs : ∀ q ∈ L.map Entry.o, nL nPart q ≤ 2 ^ 40 := fun q hq => by
    have := docOk_ops n1 (l := L) (fun e he => by rw [← hL] at he; exact List.mem_of_mem_drop he) hq
    omega
  have hpn := fPast_n (L.map Entry.o) o
  simp
  intro H2
  refine ACall.pure (specPast_c (L.map Entry.o) o (by simp; omega) hs ho) (by simp) ?_
  generalize fPast (L.map Entry.o) o = P at e hfit hpn ⊢
  obtain ⟨v, ok2⟩ := P
  simp only at e hfit hpn ⊢
  cases ok2 with
  | false => simp at e; simp [e]
  | true =>
    have hf := hfit rfl
    have ht := hf.2.1.1
    simp at e
    simp [e]
    intro H3
    refine ACall.pure (specHeadText_c d hl) (by simp [Doc.row]) ?_
    simp
    intro H4
    refine ACall.pure (specApply_c v (headText d) (by omega) (by omega)) (by simp) ?_
    have ha := apply_yes.2 hf
    generalize apply v (headText d) = A at ha ⊢
    obtain ⟨u, ok3⟩ := A
    simp only at ha
    subst ha
    simp
end Go.Proofs.YtdfdabjdfmamgaaGreat

namespace Go.Proofs.YtdfdabjdfmamgaaGreat
open Go.AM
set_option maxRecDepth 20000
set_option maxHeartbeats 1600000

def netAlike (n : Net) : Prop := ∀ r ∈ n.reps, fRepText r = headText n.d
noncomputable def fNetAlike (n : Net) : Bool := dc (netAlike n)
theorem fNetAlike_b (n : Net) (_ : n.fits) (_ : nNet n ≤ 2 ^ 20) : True := trivial
theorem fRepText_n (r : Rep) (h : nRep r ≤ 2 ^ 30) : (fRepText r).length ≤ 2 ^ 40 := by
  unfold fRepText
  split
  · have := applyAll_len [r.sent, r.buf] r.text
    unfold nRep at h
    omega
  · simp
theorem implNetAlike_i (n : Net) (hl : nNet n ≤ 2 ^ 30) : PureC Tryz.prog 18 [.agg n.row] (.one (.c (vb (netAlike n)) 1)) := by
  refine PureC.intro' tt_ok Tryz.func18 (by kernel_rfl) rfl rfl rfl (Nat.le_of_ble_eq_true rfl) (fun w0 base => ?_)
  obtain ⟨d, l⟩ := n
  unfold nNet at hl
  simp only at hl
  have hle := nL_len (f := nRep) (B := 2 ^ 30) (l := l) (by omega)
  simp [Net.row]
  intro b1
  refine LoopT.introG eok (fun i : Nat => i ≤ l.length ∧ ∀ r ∈ l.take i, fRepText r = headText d) (fun i => ⟨20, 0, [(1, .p 16 b1 0), (8, .v (.int .i64 i)), (7, .v (.int .i64 l.length)), (6, .ro (l.map Rep.row))],
    [(16, .vars b1 38 [.v (.string d.name), .v (.int .i64 d.fr), .ro (d.text.map intR), .ro (d.list.map Entry.row), .ro (d.seen.map Seen.row), .ro (l.map Rep.row)])]⟩) (fun i => l.length - i) 0 (by simp) (by simp) (fun i hi => Ent.refl ?_)
  by_cases hlt : i < l.length
  · have hm := nL_mem (f := nRep) (B := 2 ^ 30) (l := l) (by omega) (List.getElem_mem hlt)
    obtain ⟨r, hr⟩ : ∃ r, l[i] = r := ⟨_, rfl⟩
    have hmem : r ∈ l := hr ▸ List.getElem_mem hlt
    rw [hr] at hm
    have hlen := fRepText_n r hm
    simp [hlt, hr, Rep.row]
    intro b4
    refine DrawT.quiet eok mix (by kernel_rfl) ?_
    simp
    refine ⟨_, _, implRepText_i r hm, by simp [Rep.row], ?_⟩
    simp
    refine ⟨_, _, implHeadText_c d (by omega), by simp [Doc.row], ?_⟩
    simp
    refine ⟨_, _, slEqInt_c (fRepText r) (headText d) hlen, by simp, ?_⟩
    by_cases c1 : fRepText r = headText d
    · simp [c1]
      refine Ent.refl ⟨i + 1, ⟨by omega, all_suc (P := fun r => fRepText r = headText d) hlt hi.2 (by rw [hr]; exact c1)⟩, by omega, ?_⟩
      simp
      exact i64_suc (by omega)
    · have h3 : ¬ netAlike ⟨d, l⟩ := fun h => c1 (h r hmem)
      simp [c1, dc_neg h3]
  · have h3 : netAlike ⟨d, l⟩ := fun r hr => hi.2 r (by rw [List.take_of_length_le (by omega)]; exact hr)
    simp [hlt, h3]
theorem specNetAlike_i (n : Net) (hl : nNet n ≤ 2 ^ 30) : PureC Tryz.prog 16 [.agg n.row] (.one (.c (vb (netAlike n)) 1)) := by
  refine PureC.intro' tt_ok Tryz.func16 (by kernel_rfl) rfl rfl rfl (Nat.le_of_ble_eq_true rfl) (fun w0 base => ?_)
  obtain ⟨d, l⟩ := n
  unfold nNet at hl
  simp only at hl
  have hle := nL_len (f := nRep) (B := 2 ^ 30) (l := l) (by omega)
  simp [Net.row]
  intro b1
  refine ACall.pure (specHeadText_c d (by omega)) (by simp [Doc.row]) ?_
  simp
  intro H8
  refine LoopT.introG eok (fun i : Nat => i ≤ l.length ∧ ∀ r ∈ l.take i, fRepText r = headText d) (fun i => ⟨22, 0, [(1, .p 16 b1 0), (3, .sl 128 H8 1 0 (headText d).length), (12, .v (.int .i64 i)), (11, .v (.int .i64 l.length)), (10, .ro (l.map Rep.row))],
    [(128, .rows H8 1 ((headText d).map intR) true), (16, .vars b1 38 [.v (.string d.name), .v (.int .i64 d.fr), .ro (d.text.map intR), .ro (d.list.map Entry.row), .ro (d.seen.map Seen.row), .ro (l.map Rep.row)])]⟩) (fun i => l.length - i) 0 (by simp) (by simp) (fun i hi => Ent.refl ?_)
  by_cases hlt : i < l.length
  · have hm := nL_mem (f := nRep) (B := 2 ^ 30) (l := l) (by omega) (List.getElem_mem hlt)
    obtain ⟨r, hr⟩ : ∃ r, l[i] = r := ⟨_, rfl⟩
    have hmem : r ∈ l := hr ▸ List.getElem_mem hlt
    rw [hr] at hm
    have hlen := fRepText_n r hm
    simp [hlt, hr, Rep.row]
    intro b4
    refine ACall.pure (specRepText_i r hm) (by simp [Rep.row]) ?_
    simp
    intro H9
    refine ACall.pure (signsSame_c (fRepText r) (headText d) hlen) (by simp) ?_
    by_cases c1 : fRepText r = headText d
    · simp [c1]
      refine Ent.refl ⟨i + 1, ⟨by omega, all_suc (P := fun r => fRepText r = headText d) hlt hi.2 (by rw [hr]; exact c1)⟩, by omega, ?_⟩
      simp
      exact i64_suc (by omega)
    · have h3 : ¬ netAlike ⟨d, l⟩ := fun h => c1 (h r hmem)
      simp [c1, dc_neg h3]
  · have h3 : netAlike ⟨d, l⟩ := fun r hr => hi.2 r (by rw [List.take_of_length_le (by omega)]; exact hr)
    simp [hlt, h3]
theorem implNetAlike_c (n : Net) (_ : n.fits) (h : nNet n ≤ 2 ^ 20) : PureC Tryz.prog 18 [.agg n.row] (.one (.c (.v (.bool (fNetAlike n))) 1)) := implNetAlike_i n (by omega)
theorem specNetAlike_c (n : Net) (_ : n.fits) (h : nNet n ≤ 2 ^ 20) : PureC Tryz.prog 16 [.agg n.row] (.one (.c (.v (.bool (fNetAlike n))) 1)) := specNetAlike_i n (by omega)
end Go.Proofs.YtdfdabjdfmamgaaGreat

