import Derived.Test.YtdfdabjdfmamgaaGreatPB
import Derived.Test.YtdfdabjdfmamgaaGreatNA
import Derived.Test.YtdfdabjdfmamgaaGreatMF
import Derived.Lib.AppendZerosOnto
import Derived.Lib.Overlaps
import Derived.Laws.IdiomCopy
import Derived.Laws.Externs
import Derived.Test.YtdfdabjdfmamgaaGreatMG
import Derived.Shelf.RegionOpenPlain
import Derived.Test.YtdfdabjdfmamgaaGreatNB
namespace Go.Proofs.YtdfdabjdfmamgaaGreat
open Go.AM
set_option maxRecDepth 20000
set_option maxHeartbeats 1600000

theorem implNameOk_c (s : ByteArray) (hl : s.size ≤ 2 ^ 40) : PureC Tryz.prog 269 [.c (.v (.string s))] (.one (.c (vb (nameOk s)) 1)) := by
  refine PureC.intro' tt_ok Tryz.func269 (by kernel_rfl) rfl rfl rfl (Nat.le_of_ble_eq_true rfl) (fun w0 base => ?_)
  simp
  refine LoopT.intro eok (fun i : Nat => i ≤ s.size ∧ ∀ j, j < i → nameAt s j) (fun i => ⟨23, 0, [(3, .v (.int .i64 i)), (0, .v (.string s))], []⟩) (fun i => s.size - i) 0 (by simp) (by simp) (fun i hi => ?_)
  by_cases hlt : i < s.size
  · simp [hlt]
    by_cases h1 : (s[i].toNat : Int) < 97
    · have hno : ¬ nameOk s := fun h => by have := (h.2 i hlt).1; omega
      simp [h1, dc_neg hno]
    · by_cases h2 : 122 < (s[i].toNat : Int)
      · have hno : ¬ nameOk s := fun h => by have := (h.2 i hlt).2; omega
        simp [h1, h2, hlt, dc_neg hno]
      · simp [h1, h2, hlt]
        refine ⟨i + 1, ⟨by omega, fun j hj => ?_⟩, by omega, i64_suc (by omega)⟩
        by_cases hji : j = i
        · subst hji; exact fun _ => by omega
        · exact hi.2 j (by omega)
  · simp [hlt]
    refine ACall.pure (within_c s.size 1 8) (by simp) ?_
    have hsz : (1 ≤ (s.size : Int) ∧ (s.size : Int) ≤ 8) ↔ (1 ≤ s.size ∧ s.size ≤ 8) := by omega
    by_cases h3 : 1 ≤ s.size ∧ s.size ≤ 8
    · have hy : nameOk s := ⟨h3, fun j hj => hi.2 j (by omega) hj⟩
      have h4 := hsz.2 h3
      simp [h4, hy]
    · have hno : ¬ nameOk s := fun h => h3 h.1
      have h4 : ¬ (1 ≤ (s.size : Int) ∧ (s.size : Int) ≤ 8) := fun h => h3 (hsz.1 h)
      simp [dc_neg h4, dc_neg hno]
theorem specNameOk_c (s : ByteArray) (hl : s.size ≤ 2 ^ 40) : PureC Tryz.prog 267 [.c (.v (.string s))] (.one (.c (vb (nameOk s)) 1)) := by
  refine PureC.intro' tt_ok Tryz.func267 (by kernel_rfl) rfl rfl rfl (Nat.le_of_ble_eq_true rfl) (fun w0 base => ?_)
  simp
  refine LoopT.intro eok (fun i : Nat => i ≤ s.size ∧ ∀ j, j < i → nameAt s j) (fun i => ⟨23, 0, [(3, .v (.int .i64 i)), (0, .v (.string s))], []⟩) (fun i => s.size - i) 0 (by simp) (by simp) (fun i hi => ?_)
  by_cases hlt : i < s.size
  · simp [hlt]
    by_cases h1 : (s[i].toNat : Int) < 97
    · have hno : ¬ nameOk s := fun h => by have := (h.2 i hlt).1; omega
      simp [h1, dc_neg hno]
    · by_cases h2 : 122 < (s[i].toNat : Int)
      · have hno : ¬ nameOk s := fun h => by have := (h.2 i hlt).2; omega
        simp [h1, h2, hlt, dc_neg hno]
      · simp [h1, h2, hlt]
        refine ⟨i + 1, ⟨by omega, fun j hj => ?_⟩, by omega, i64_suc (by omega)⟩
        by_cases hji : j = i
        · subst hji; exact fun _ => by omega
        · exact hi.2 j (by omega)
  · simp [hlt]
    refine ACall.pure (l01In_c s.size 1 8) (by simp) ?_
    have hsz : (1 ≤ (s.size : Int) ∧ (s.size : Int) ≤ 8) ↔ (1 ≤ s.size ∧ s.size ≤ 8) := by omega
    by_cases h3 : 1 ≤ s.size ∧ s.size ≤ 8
    · have hy : nameOk s := ⟨h3, fun j hj => hi.2 j (by omega) hj⟩
      have h4 := hsz.2 h3
      simp [h4, hy]
    · have hno : ¬ nameOk s := fun h => h3 h.1
      have h4 : ¬ (1 ≤ (s.size : Int) ∧ (s.size : Int) ≤ 8) := fun h => h3 (hsz.1 h)
      simp [dc_neg h4, dc_neg hno]

theorem opsOf_c (l : List Entry) (hl : nL nEntry l ≤ 2 ^ 30) : PureC Tryz.prog 264 [.c (.s (l.map Entry.row))] (.one (.c (.s ((l.map Entry.o).map partsR)) 1)) := by
  refine PureC.intro' tt_ok Tryz.func264 (by kernel_rfl) rfl rfl rfl (Nat.le_of_ble_eq_true rfl) (fun w0 base => ?_)
  have hle := nL_len hl
  simp
  refine LoopT.introG eok (fun x : Nat × Hd => x.1 ≤ l.length) (fun x => ⟨20, 0, [(8, .v (.int .i64 x.1)), (7, .v (.int .i64 l.length)), (6, .ro (l.map Entry.row)), (3, .sl 5000 x.2 1 0 x.1)], [(5000, .rows x.2 1 (((l.take x.1).map Entry.o).map partsR) true)]⟩) (fun x => l.length - x.1) (0, none) (by simp) (by simp) (fun x hx => Ent.refl ?_)
  obtain ⟨i, H⟩ := x
  simp only at hx ⊢
  by_cases hlt : i < l.length
  · have hm := nL_at hl hlt
    unfold nEntry at hm
    simp [hlt, Entry.row]
    intro b5
    refine ACall.pure (copyOp_c l[i].o hm) (by simp) ?_
    simp
    intro H1 b
    have e1 : i = min i l.length := by omega
    refine ⟨e1, by omega, fun H2 => Ent.refl ⟨i + 1, by omega, by omega, H2, ?_⟩⟩
    simp
    exact ⟨i64_suc (by omega), take_snoc (f := fun e : Entry => partsR e.o) hlt⟩
  · have e : l.length = i := by omega
    simp [hlt]
    have e1 : i ≤ min i l.length := by omega
    refine ⟨e1, ?_, ?_⟩
    · intro row hr
      have := List.mem_of_mem_take hr
      simp at this
      obtain ⟨x, -, rfl⟩ := this
      rfl
    · rw [List.take_of_length_le (by simp; omega)]
      simp [cut, e]

theorem implDocOk_c (d : Doc) (hl : nDoc d ≤ 2 ^ 30) : PureC Tryz.prog 188 [.agg d.row] (.one (.c (vb (docOk d)) 1)) := by
  refine PureC.intro' tt_ok Tryz.func188 (by kernel_rfl) rfl rfl rfl (Nat.le_of_ble_eq_true rfl) (fun w0 base => ?_)
  obtain ⟨n1, n2, n3, n4⟩ := nDoc_list hl
  have hle := nL_len n1
  simp [Doc.row]
  intro b1
  refine ACall.pure (implNameOk_c d.name (by omega)) (by simp) ?_
  by_cases c1 : nameOk d.name
  rotate_left
  · have h : ¬ docOk d := fun h => c1 h.1
    simp [dc_neg c1, dc_neg h]
  simp [c1]
  refine ACall.pure (within_c d.fr 0 999999000) (by simp) ?_
  by_cases c2 : 0 ≤ d.fr ∧ d.fr ≤ 999999000
  rotate_left
  · have h : ¬ docOk d := fun h => c2 h.2.1
    simp [dc_neg c2, dc_neg h]
  simp [c2]
  refine ACall.pure (implTextOk_c d.text (by omega)) (by simp) ?_
  by_cases c3 : textOk d.text
  rotate_left
  · have h : ¬ docOk d := fun h => c3 h.2.2.1
    simp [dc_neg c3, dc_neg h]
  simp [c3]
  by_cases c4 : d.list.length ≤ 8
  rotate_left
  · have h : ¬ docOk d := fun h => c4 h.2.2.2.1
    have c4' : 8 < (d.list.length : Int) := by omega
    simp [c4', dc_neg h]
  have c4' : ¬ 8 < (d.list.length : Int) := by omega
  simp [c4']
  refine LoopT.intro eok (fun i : Nat => i ≤ d.list.length ∧ ∀ e ∈ d.list.take i, entryOk e) (fun i => ⟨96, 0, [(34, .v (.int .i64 i)), (33, .v (.int .i64 d.list.length)), (32, .ro (d.list.map Entry.row)), (1, .p 16 b1 0)],
    [(16, .vars b1 35 [.v (.string d.name), .v (.int .i64 d.fr), .ro (d.text.map intR), .ro (d.list.map Entry.row), .ro (d.seen.map Seen.row)])]⟩) (fun i => d.list.length - i) 0 (by simp) (by simp) (fun i hi => ?_)
  by_cases hlt : i < d.list.length
  · have hm := nL_at n1 hlt
    simp [hlt, Entry.row]
    intro b4
    refine ACall.pure (implEntryOk_c d.list[i] (by omega)) (by simp [Entry.row]) ?_
    by_cases c5 : entryOk d.list[i]
    · simp [c5]
      exact ⟨i + 1, ⟨by omega, all_suc hlt hi.2 c5⟩, by omega, i64_suc (by omega)⟩
    · have h : ¬ docOk d := fun h => c5 (h.2.2.2.2.1 _ (List.getElem_mem hlt))
      simp [dc_neg c5, dc_neg h]
  have c5 : ∀ e ∈ d.list, entryOk e := all_end (by omega) hi.2
  simp [hlt]
  refine DrawT.quiet eok mix (by kernel_rfl) ?_
  simp
  refine ⟨_, _, opsOf_c d.list n1, by simp, ?_⟩
  simp
  have hops : ∀ o ∈ d.list.map Entry.o, nL nPart o ≤ 2 ^ 40 := by
    intro o ho
    rw [List.mem_map] at ho
    obtain ⟨e, he, rfl⟩ := ho
    have := nL_mem n1 he
    unfold nEntry at this
    omega
  refine ⟨_, _, implApplyAll_c (d.list.map Entry.o) d.text (by simp; omega) hops (by omega), by simp, ?_⟩
  have hsome := applyAll_some (l := d.list.map Entry.o) c3
  generalize applyAll (d.list.map Entry.o) d.text = A at hsome ⊢
  obtain ⟨u, ok⟩ := A
  simp only at hsome ⊢
  cases ok with
  | false =>
    have h : ¬ docOk d := fun h => by have := hsome.2 h.2.2.2.2.2.1; simp at this
    simp [dc_neg h]
  | true =>
    have c6 := hsome.1 rfl
    simp
    have hno : ∀ i, ¬ seenAt d i → ¬ docOk d := fun i h hd => h (fun hh => hd.2.2.2.2.2.2 i hh)
    refine LoopT.intro eok (fun i : Nat => i ≤ d.seen.length ∧ ∀ j, j < i → seenAt d j) (fun i => ⟨96, 0, [(56, .v (.int .i64 i)), (55, .v (.int .i64 d.seen.length)), (54, .ro (d.seen.map Seen.row)), (1, .p 16 b1 0)],
      [(16, .vars b1 35 [.v (.string d.name), .v (.int .i64 d.fr), .ro (d.text.map intR), .ro (d.list.map Entry.row), .ro (d.seen.map Seen.row)])]⟩) (fun i => d.seen.length - i) 0 (by simp) (by simp) (fun i hi => ?_)
    by_cases hlt : i < d.seen.length
    rotate_left
    · have h : docOk d := ⟨c1, c2, c3, c4, c5, c6, fun j hj => hi.2 j (by omega) hj⟩
      simp [hlt, h]
    obtain ⟨x, hx⟩ : ∃ x, d.seen[i] = x := ⟨_, rfl⟩
    simp [hlt, hx, Seen.row]
    intro b8
    refine DrawT.quiet eok mix (by kernel_rfl) ?_
    simp
    refine ⟨_, _, within_c x.client 1 8, by simp, ?_⟩
    by_cases s1 : 1 ≤ x.client ∧ x.client ≤ 8
    rotate_left
    · have h := hno i (fun h => s1 (by have := (h hlt).1; rwa [hx] at this))
      simp [dc_neg s1, dc_neg h]
    simp [s1]
    have fin : (∀ h0 : 0 < i, d.seen[i - 1].client < x.client) → (1 ≤ x.seq ∧ x.seq ≤ 1000000000) → (1 ≤ x.rev ∧ x.rev ≤ headRev d) → ∀ j, j < i + 1 → seenAt d j := by
      intro h1 h2 h3 j hj
      by_cases hji : j = i
      · subst hji; intro hh; rw [hx]; exact ⟨s1, h2, h3, h1⟩
      · exact hi.2 j (by omega)
    have noq : ¬ (1 ≤ x.seq ∧ x.seq ≤ 1000000000) → ¬ docOk d := fun s2 => hno i (fun h => s2 (by have := (h hlt).2.1; rwa [hx] at this))
    have nor : ¬ (1 ≤ x.rev ∧ x.rev ≤ headRev d) → ¬ docOk d := fun s2 => hno i (fun h => s2 (by have := (h hlt).2.2.1; rwa [hx] at this))
    cases i with
    | zero =>
      simp
      refine ⟨_, _, within_c x.seq 1 1000000000, by simp, ?_⟩
      by_cases s2 : 1 ≤ x.seq ∧ x.seq ≤ 1000000000
      rotate_left
      · simp [dc_neg s2, dc_neg (noq s2)]
      simp [s2]
      refine ⟨_, _, implHeadRev_c d, by simp [Doc.row], ?_⟩
      simp
      refine ⟨_, _, within_c x.rev 1 (headRev d), by simp, ?_⟩
      by_cases s3 : 1 ≤ x.rev ∧ x.rev ≤ headRev d
      rotate_left
      · simp [dc_neg s3, dc_neg (nor s3)]
      simp [s3]
      exact ⟨1, ⟨by omega, fin (by simp) s2 s3⟩, by omega, i64_suc (n := 0) (by omega)⟩
    | succ k =>
      have ek : Go.IntKind.i64.wrap (k : Int) = k := i64_nat (by omega)
      have hk1 : k < d.seen.length := by omega
      have hk0 : (0 : Int) < (k : Int) + 1 := by omega
      obtain ⟨y, hy⟩ : ∃ y, d.seen[k] = y := ⟨_, rfl⟩
      simp [ek, hk0, hk1, hy, Seen.row]
      by_cases s4 : y.client < x.client
      rotate_left
      · have h := hno (k + 1) (fun h => s4 (by have := (h hlt).2.2.2 (by omega); rw [hx] at this; simp only [Nat.add_sub_cancel] at this; rwa [hy] at this))
        have s4' : x.client ≤ y.client := by omega
        simp [s4', dc_neg h]
      have s4' : ¬ x.client ≤ y.client := by omega
      simp [s4']
      refine ⟨_, _, within_c x.seq 1 1000000000, by simp, ?_⟩
      by_cases s2 : 1 ≤ x.seq ∧ x.seq ≤ 1000000000
      rotate_left
      · simp [dc_neg s2, dc_neg (noq s2)]
      simp [s2]
      refine ⟨_, _, implHeadRev_c d, by simp [Doc.row], ?_⟩
      simp
      refine ⟨_, _, within_c x.rev 1 (headRev d), by simp, ?_⟩
      by_cases s3 : 1 ≤ x.rev ∧ x.rev ≤ headRev d
      rotate_left
      · simp [dc_neg s3, dc_neg (nor s3)]
      simp [s3]
      exact ⟨k + 2, ⟨by omega, fin (fun _ => by simp only [Nat.add_sub_cancel]; rw [hy]; exact s4) s2 s3⟩, by omega, by rw [Go.IntWalk.i64_in _ (by omega)]; omega⟩
theorem specDocOk_c (d : Doc) (hl : nDoc d ≤ 2 ^ 30) : PureC Tryz.prog 185 [.agg d.row] (.one (.c (vb (docOk d)) 1)) := by
  refine PureC.intro' tt_ok Tryz.func185 (by kernel_rfl) rfl rfl rfl (Nat.le_of_ble_eq_true rfl) (fun w0 base => ?_)
  obtain ⟨n1, n2, n3, n4⟩ := nDoc_list hl
  have hle := nL_len n1
  simp [Doc.row]
  intro b1
  refine ACall.pure (specNameOk_c d.name (by omega)) (by simp) ?_
  by_cases c1 : nameOk d.name
  rotate_left
  · have h : ¬ docOk d := fun h => c1 h.1
    simp [dc_neg c1, dc_neg h]
  simp [c1]
  refine ACall.pure (l01In_c d.fr 0 999999000) (by simp) ?_
  by_cases c2 : 0 ≤ d.fr ∧ d.fr ≤ 999999000
  rotate_left
  · have h : ¬ docOk d := fun h => c2 h.2.1
    simp [dc_neg c2, dc_neg h]
  simp [c2]
  refine ACall.pure (specTextOk_c d.text (by omega)) (by simp) ?_
  by_cases c3 : textOk d.text
  rotate_left
  · have h : ¬ docOk d := fun h => c3 h.2.2.1
    simp [dc_neg c3, dc_neg h]
  simp [c3]
  by_cases c4 : d.list.length ≤ 8
  rotate_left
  · have h : ¬ docOk d := fun h => c4 h.2.2.2.1
    have c4' : 8 < (d.list.length : Int) := by omega
    simp [c4', dc_neg h]
  have c4' : ¬ 8 < (d.list.length : Int) := by omega
  simp [c4']
  refine LoopT.introG eok (fun x : Nat × List Int => x.1 ≤ d.list.length ∧ (∀ e ∈ d.list.take x.1, entryOk e) ∧ textOk x.2 ∧ applyFrom ((d.list.map Entry.o).drop x.1) x.2 = applyFrom (d.list.map Entry.o) d.text) (fun x => ⟨105, 0, [(37, .v (.int .i64 x.1)), (36, .v (.int .i64 d.list.length)), (35, .ro (d.list.map Entry.row)), (3, .ro (x.2.map intR)), (1, .p 16 b1 0)],
    [(16, .vars b1 35 [.v (.string d.name), .v (.int .i64 d.fr), .ro (d.text.map intR), .ro (d.list.map Entry.row), .ro (d.seen.map Seen.row)])]⟩) (fun x => d.list.length - x.1) (0, d.text) ⟨by simp, by simp, c3, by simp⟩ (by simp) (fun x hi => Ent.refl ?_)
  obtain ⟨i, t⟩ := x
  obtain ⟨hi1, hi2, hi3, hi4⟩ := hi
  simp only at hi1 hi2 hi3 hi4 ⊢
  by_cases hlt : i < d.list.length
  · have hm := nL_at n1 hlt
    have hmo := entryOk_n (e := d.list[i]) (by omega)
    rw [applyFrom_drop (show i < (d.list.map Entry.o).length by simpa using hlt)] at hi4
    simp only [List.getElem_map] at hi4
    have hyes := @apply_yes d.list[i].o t
    have htok := @apply_textOk d.list[i].o t
    obtain ⟨e, he⟩ : ∃ e, d.list[i] = e := ⟨_, rfl⟩
    have hmem : e ∈ d.list := he ▸ List.getElem_mem hlt
    have c5' : entryOk e → ∀ e ∈ d.list.take (i + 1), entryOk e := fun h => all_suc hlt hi2 (he ▸ h)
    rw [he] at hi4 hyes htok hm hmo
    simp [hlt, he, Entry.row]
    intro b5
    refine ACall.pure (specApply_c e.o t hmo (by have := hi3.1; omega)) (by simp) ?_
    generalize apply e.o t = A at hi4 hyes htok ⊢
    obtain ⟨u, ok⟩ := A
    simp only at hi4 hyes htok ⊢
    simp
    intro H1
    cases ok with
    | false =>
      have h : ¬ docOk d := fun h => by have := h.2.2.2.2.2.1; rw [← hi4] at this; simp at this
      simp [dc_neg h]
    | true =>
      simp only [if_true] at hi4
      have hu := (htok (hyes.1 rfl)).1
      simp
      refine ACall.pure (specEntryOk_c e (by omega)) (by simp [Entry.row]) ?_
      by_cases c5 : entryOk e
      rotate_left
      · have h : ¬ docOk d := fun h => c5 (h.2.2.2.2.1 _ hmem)
        simp [dc_neg c5, dc_neg h]
      simp [c5]
      refine ACall.pure (specTextOk_c u (by have := hu.1; omega)) (by simp) ?_
      simp [hu]
      refine Ent.frzT 3 720 (sz := 1) (off := 0) (len := u.length) (H := H1) (rows := u.map intR) (own := true) (by simp) (by simp) (by simp) (Ent.refl ⟨i + 1, u, ⟨by omega, c5' c5, hu, hi4⟩, by omega, ?_⟩)
      simp
      exact i64_suc (by omega)
  · have c5 : ∀ e ∈ d.list, entryOk e := all_end (by omega) hi2
    have c6 : (applyFrom (d.list.map Entry.o) d.text).isSome = true := by
      rw [← hi4, List.drop_eq_nil_of_le (by simp; omega)]
      simp [applyFrom]
    simp [hlt]
    have hno : ∀ i, ¬ seenAt d i → ¬ docOk d := fun i h hd => h (fun hh => hd.2.2.2.2.2.2 i hh)
    refine LoopT.intro eok (fun i : Nat => i ≤ d.seen.length ∧ ∀ j, j < i → seenAt d j) (fun i => ⟨105, 0, [(65, .v (.int .i64 i)), (64, .v (.int .i64 d.seen.length)), (63, .ro (d.seen.map Seen.row)), (1, .p 16 b1 0)],
      [(16, .vars b1 35 [.v (.string d.name), .v (.int .i64 d.fr), .ro (d.text.map intR), .ro (d.list.map Entry.row), .ro (d.seen.map Seen.row)])]⟩) (fun i => d.seen.length - i) 0 (by simp) (by simp) (fun i hi => ?_)
    by_cases hlt : i < d.seen.length
    rotate_left
    · have h : docOk d := ⟨c1, c2, c3, c4, c5, c6, fun j hj => hi.2 j (by omega) hj⟩
      simp [hlt, h]
    obtain ⟨x, hx⟩ : ∃ x, d.seen[i] = x := ⟨_, rfl⟩
    simp [hlt, hx, Seen.row]
    intro b8
    refine DrawT.quiet eok mix (by kernel_rfl) ?_
    simp
    refine ⟨_, _, l01In_c x.client 1 8, by simp, ?_⟩
    by_cases s1 : 1 ≤ x.client ∧ x.client ≤ 8
    rotate_left
    · have h := hno i (fun h => s1 (by have := (h hlt).1; rwa [hx] at this))
      simp [dc_neg s1, dc_neg h]
    simp [s1]
    have fin : (∀ h0 : 0 < i, d.seen[i - 1].client < x.client) → (1 ≤ x.seq ∧ x.seq ≤ 1000000000) → (1 ≤ x.rev ∧ x.rev ≤ headRev d) → ∀ j, j < i + 1 → seenAt d j := by
      intro h1 h2 h3 j hj
      by_cases hji : j = i
      · subst hji; intro hh; rw [hx]; exact ⟨s1, h2, h3, h1⟩
      · exact hi.2 j (by omega)
    have noq : ¬ (1 ≤ x.seq ∧ x.seq ≤ 1000000000) → ¬ docOk d := fun s2 => hno i (fun h => s2 (by have := (h hlt).2.1; rwa [hx] at this))
    have nor : ¬ (1 ≤ x.rev ∧ x.rev ≤ headRev d) → ¬ docOk d := fun s2 => hno i (fun h => s2 (by have := (h hlt).2.2.1; rwa [hx] at this))
    refine ⟨_, _, l01In_c x.seq 1 1000000000, by simp, ?_⟩
    by_cases s2 : 1 ≤ x.seq ∧ x.seq ≤ 1000000000
    rotate_left
    · simp [dc_neg s2, dc_neg (noq s2)]
    simp [s2]
    refine ⟨_, _, specHeadRev_c d, by simp [Doc.row], ?_⟩
    simp
    refine ⟨_, _, l01In_c x.rev 1 (headRev d), by simp, ?_⟩
    by_cases s3 : 1 ≤ x.rev ∧ x.rev ≤ headRev d
    rotate_left
    · simp [dc_neg s3, dc_neg (nor s3)]
    simp [s3]
    cases i with
    | zero =>
      simp
      exact ⟨1, ⟨by omega, fin (by simp) s2 s3⟩, by omega, i64_suc (n := 0) (by omega)⟩
    | succ k =>
      have ek : Go.IntKind.i64.wrap (k : Int) = k := i64_nat (by omega)
      have hk1 : k < d.seen.length := by omega
      have hk0 : (0 : Int) < (k : Int) + 1 := by omega
      obtain ⟨y, hy⟩ : ∃ y, d.seen[k] = y := ⟨_, rfl⟩
      simp [ek, hk0, hk1, hy, Seen.row]
      by_cases s4 : y.client < x.client
      rotate_left
      · have h := hno (k + 1) (fun h => s4 (by have := (h hlt).2.2.2 (by omega); rw [hx] at this; simp only [Nat.add_sub_cancel] at this; rwa [hy] at this))
        have s4' : x.client ≤ y.client := by omega
        simp [s4', dc_neg h]
      have s4' : ¬ x.client ≤ y.client := by omega
      simp [s4']
      exact ⟨k + 2, ⟨by omega, fin (fun _ => by simp only [Nat.add_sub_cancel]; rw [hy]; exact s4) s2 s3⟩, by omega, by rw [Go.IntWalk.i64_in _ (by omega)]; omega⟩
end Go.Proofs.YtdfdabjdfmamgaaGreat

namespace Go.Proofs.YtdfdabjdfmamgaaGreat
open Go.AM
set_option maxRecDepth 20000
set_option maxHeartbeats 1600000
end Go.Proofs.YtdfdabjdfmamgaaGreat

namespace Go.Proofs.YtdfdabjdfmamgaaGreat
open Go.AM
set_option maxRecDepth 20000
set_option maxHeartbeats 1600000
end Go.Proofs.YtdfdabjdfmamgaaGreat

namespace Go.Proofs.YtdfdabjdfmamgaaGreat
set_option maxRecDepth 20000
end Go.Proofs.YtdfdabjdfmamgaaGreat

namespace Go.Proofs.YtdfdabjdfmamgaaGreat
open Go.AM
set_option maxRecDepth 20000
end Go.Proofs.YtdfdabjdfmamgaaGreat

namespace Go.Proofs.YtdfdabjdfmamgaaGreat
open Go.AM
set_option maxRecDepth 20000
set_option maxHeartbeats 1600000

theorem seen_v (l : List Seen) : ∀ a ∈ l, ∀ d ∈ a.row, isV d = true := by
  intro a _ d hd
  simp [Seen.row] at hd
  rcases hd with rfl | rfl | rfl <;> rfl
theorem copyEntries_c (l : List Entry) (hl : nL nEntry l ≤ 2 ^ 30) : PureC Tryz.prog 285 [.c (.s (l.map Entry.row))] (.one (.c (.s (l.map Entry.row)) 3)) := by
  refine PureC.intro' tt_ok Tryz.func285 (by kernel_rfl) rfl rfl rfl (Nat.le_of_ble_eq_true rfl) (fun w0 base => ?_)
  have hle := nL_len hl
  simp
  refine LoopT.introG eok (fun x : Nat × Hd => x.1 ≤ l.length) (fun x => ⟨22, 0, [(8, .v (.int .i64 x.1)), (7, .v (.int .i64 l.length)), (6, .ro (l.map Entry.row)), (3, .sl 5000 x.2 3 0 x.1)], [(5000, .rows x.2 3 ((l.take x.1).map Entry.row) true)]⟩) (fun x => l.length - x.1) (0, none) (by simp) (by simp) (fun x hx => Ent.refl ?_)
  obtain ⟨i, H⟩ := x
  simp only at hx ⊢
  by_cases hlt : i < l.length
  · have hm := nL_at hl hlt
    unfold nEntry at hm
    simp [hlt, Entry.row]
    intro b5
    refine ACall.pure (copyOp_c l[i].o hm) (by simp) ?_
    simp
    intro H1
    have e1 : min i l.length = i := by omega
    simp [e1]
    intro b6
    refine ⟨by omega, fun H2 => Ent.refl ⟨i + 1, by omega, by omega, H2, ?_⟩⟩
    simp
    exact ⟨i64_suc (by omega), take_snoc (f := Entry.row) hlt⟩
  · have e : l.length = i := by omega
    simp [hlt]
    rw [List.take_of_length_le (by simp; omega)]
    simp [cut, e]
theorem l08Entry_c (e : Entry) (hl : nEntry e ≤ 2 ^ 30) : PureC Tryz.prog 328 [.agg e.row] (.one (.agg e.res)) := by
  refine PureC.intro' tt_ok Tryz.func328 (by kernel_rfl) rfl rfl rfl (Nat.le_of_ble_eq_true rfl) (fun w0 base => ?_)
  unfold nEntry at hl
  simp [Entry.row]
  intro b1 b2
  refine DrawT.introS eok mix [0, 1, 2, 3, 4, 5] [6, 7, 8] (.child 6 [true, false, false, false, false, false] [false, true, true, true, true, true] (.child 7 [false, false, true, false, true, false] [false, true, false, true, false, true] (.child 8 [false, true, false, true, false, true] [false, false, false, false, false, false] (.leaf [false, false, false, false, false, false]) .stop) .stop) .stop) (by kernel_rfl) ?_
  simp
  try intros
  refine ACall.pure (l02Copy_c e.o (by omega)) (by simp) ?_
  simp
  try intros
  simp [Entry.res]
theorem l08Entries_c (l : List Entry) (hl : nL nEntry l ≤ 2 ^ 30) : PureC Tryz.prog 282 [.c (.s (l.map Entry.row))] (.one (.c (.s (l.map Entry.row)) 3)) := by
  refine PureC.intro' tt_ok Tryz.func282 (by kernel_rfl) rfl rfl rfl (Nat.le_of_ble_eq_true rfl) (fun w0 base => ?_)
  have hle := nL_len hl
  simp
  intro b6
  refine LoopT.introG eok (fun x : Nat × Hd => x.1 ≤ l.length) (fun x => ⟨20, 0, [(9, .v (.int .i64 x.1)), (8, .v (.int .i64 l.length)), (7, .ro (l.map Entry.row)), (3, .sl 96 x.2 3 0 x.1)], [(96, .rows x.2 3 ((l.take x.1).map Entry.row) true)]⟩) (fun x => l.length - x.1) (0, some (b6, 0, 0)) (by simp) (by simp) (fun x hx => Ent.refl ?_)
  obtain ⟨i, H⟩ := x
  simp only at hx ⊢
  by_cases hlt : i < l.length
  · have hm := nL_at hl hlt
    simp [hlt, Entry.row]
    intro b5
    refine ACall.pure (l08Entry_c l[i] hm) (by simp [Entry.row]) ?_
    simp [Entry.res]
    intro H1
    have e1 : min i l.length = i := by omega
    simp [e1]
    intro b7
    refine ⟨by omega, fun H2 => Ent.refl ⟨i + 1, by omega, by omega, H2, ?_⟩⟩
    simp
    exact ⟨i64_suc (by omega), take_snoc (f := Entry.row) hlt⟩
  · have e : l.length = i := by omega
    simp [hlt]
    rw [List.take_of_length_le (by simp; omega)]
    simp [cut, e]
theorem copyDoc_c (d : Doc) (hl : nDoc d ≤ 2 ^ 30) : PureC Tryz.prog 208 [.agg d.row] (.one (.agg d.res)) := by
  refine PureC.intro' tt_ok Tryz.func208 (by kernel_rfl) rfl rfl rfl (Nat.le_of_ble_eq_true rfl) (fun w0 base => ?_)
  obtain ⟨n1, n2, n3, n4⟩ := nDoc_list hl
  simp [Doc.row]
  intro b1 b2
  refine DrawT.introS eok mix [0, 1, 2, 3, 4, 5, 7, 8, 10, 11] [6, 9, 12, 13, 14] (.child 6 [false, false, false, false, true, false, false, false, false, false] [true, true, true, true, false, true, true, true, true, true] (.child 9 [false, false, true, false, false, false, false, false, false, false] [true, true, false, true, false, true, true, true, true, true] (.child 12 [true, false, false, false, false, false, false, false, false, false] [false, true, false, true, false, true, true, true, true, true] (.child 13 [false, false, false, false, false, false, true, false, true, false] [false, true, false, true, false, true, false, true, false, true] (.child 14 [false, true, false, true, false, true, false, true, false, true] [false, false, false, false, false, false, false, false, false, false] (.leaf [false, false, false, false, false, false, false, false, false, false]) .stop) .stop) .stop) .stop) .stop) (by kernel_rfl) ?_
  simp
  try intros
  refine ACall.pure (copyInts_c d.text (by omega)) (by simp) ?_
  simp
  try intros
  refine ACall.pure (copyEntries_c d.list n1) (by simp) ?_
  simp
  try intros
  refine ⟨seen_v d.seen, by omega, fun H => ?_⟩
  simp [Doc.res]
theorem l08Copy_c (d : Doc) (hl : nDoc d ≤ 2 ^ 30) : PureC Tryz.prog 205 [.agg d.row] (.one (.agg d.res)) := by
  refine PureC.intro' tt_ok Tryz.func205 (by kernel_rfl) rfl rfl rfl (Nat.le_of_ble_eq_true rfl) (fun w0 base => ?_)
  obtain ⟨n1, n2, n3, n4⟩ := nDoc_list hl
  simp [Doc.row]
  intro b1 b2
  have h8 : d.text.length * 8 ≤ 140737488355328 := by omega
  have h24 : d.seen.length * 24 ≤ 140737488355328 := by omega
  refine DrawT.introS eok mix [0, 1, 2, 3, 5, 6, 8, 9, 12, 13] [4, 7, 10, 11, 14, 15, 16] (.child 4 [false, false, false, false, false, false, false, false, false, false] [true, true, true, true, true, true, true, true, true, true] (.child 7 [false, false, false, false, true, false, false, false, false, false] [true, true, true, true, false, true, true, true, true, true] (.child 10 [false, false, true, false, false, false, false, false, false, false] [true, true, false, true, false, true, true, true, true, true] (.child 11 [false, false, false, false, false, false, false, false, false, false] [true, true, false, true, false, true, true, true, true, true] (.child 14 [true, false, false, false, false, false, false, false, false, false] [false, true, false, true, false, true, true, true, true, true] (.child 15 [false, false, false, false, false, false, true, false, true, false] [false, true, false, true, false, true, false, true, false, true] (.child 16 [false, true, false, true, false, true, false, true, false, true] [false, false, false, false, false, false, false, false, false, false] (.leaf [false, false, false, false, false, false, false, false, false, false]) .stop) .stop) .stop) .stop) (.child 11 [false, false, false, false, false, false, false, false, false, false] [true, true, true, true, false, true, true, true, true, true] (.child 10 [false, false, true, false, false, false, false, false, false, false] [true, true, false, true, false, true, true, true, true, true] (.child 14 [true, false, false, false, false, false, false, false, false, false] [false, true, false, true, false, true, true, true, true, true] (.child 15 [false, false, false, false, false, false, true, false, true, false] [false, true, false, true, false, true, false, true, false, true] (.child 16 [false, true, false, true, false, true, false, true, false, true] [false, false, false, false, false, false, false, false, false, false] (.leaf [false, false, false, false, false, false, false, false, false, false]) .stop) .stop) .stop) .stop) .stop)) (.child 11 [false, false, false, false, false, false, false, false, false, false] [true, true, true, true, true, true, true, true, true, true] (.child 7 [false, false, false, false, true, false, false, false, false, false] [true, true, true, true, false, true, true, true, true, true] (.child 10 [false, false, true, false, false, false, false, false, false, false] [true, true, false, true, false, true, true, true, true, true] (.child 14 [true, false, false, false, false, false, false, false, false, false] [false, true, false, true, false, true, true, true, true, true] (.child 15 [false, false, false, false, false, false, true, false, true, false] [false, true, false, true, false, true, false, true, false, true] (.child 16 [false, true, false, true, false, true, false, true, false, true] [false, false, false, false, false, false, false, false, false, false] (.leaf [false, false, false, false, false, false, false, false, false, false]) .stop) .stop) .stop) .stop) .stop) .stop)) (.child 11 [false, false, false, false, false, false, false, false, false, false] [true, true, true, true, true, true, true, true, true, true] (.child 4 [false, false, false, false, false, false, false, false, false, false] [true, true, true, true, true, true, true, true, true, true] (.child 7 [false, false, false, false, true, false, false, false, false, false] [true, true, true, true, false, true, true, true, true, true] (.child 10 [false, false, true, false, false, false, false, false, false, false] [true, true, false, true, false, true, true, true, true, true] (.child 14 [true, false, false, false, false, false, false, false, false, false] [false, true, false, true, false, true, true, true, true, true] (.child 15 [false, false, false, false, false, false, true, false, true, false] [false, true, false, true, false, true, false, true, false, true] (.child 16 [false, true, false, true, false, true, false, true, false, true] [false, false, false, false, false, false, false, false, false, false] (.leaf [false, false, false, false, false, false, false, false, false, false]) .stop) .stop) .stop) .stop) .stop) .stop) .stop)) (by kernel_rfl) ?_
  simp
  try intros
  rw [Tr_child]
  refine ⟨?_, ?_⟩
  · skip
    simp
    try intros
    rw [Tr_child]
    refine ⟨?_, ?_⟩
    · skip
      simp [h8]
      try intros
      rw [Tr_child]
      refine ⟨?_, ?_⟩
      · skip
        simp [h24]
        try intros
        refine ACall.pure (l08Entries_c d.list n1) (by simp) ?_
        simp
        try intros
        simp [Doc.res]
        exact seen_v d.seen
      · skip
        simp
        try intros
        refine ACall.pure (l08Entries_c d.list n1) (by simp) ?_
        simp [h24]
        try intros
        simp [Doc.res]
        exact seen_v d.seen
    · skip
      simp [h8]
      try intros
      refine ACall.pure (l08Entries_c d.list n1) (by simp) ?_
      simp [h24]
      try intros
      simp [Doc.res]
      exact seen_v d.seen
  · skip
    simp [h8]
    try intros
    refine ACall.pure (l08Entries_c d.list n1) (by simp) ?_
    simp [h24]
    try intros
    simp [Doc.res]
    exact seen_v d.seen
end Go.Proofs.YtdfdabjdfmamgaaGreat

namespace Go.Proofs.YtdfdabjdfmamgaaGreat
open Go.AM
set_option maxRecDepth 20000
set_option maxHeartbeats 1600000
end Go.Proofs.YtdfdabjdfmamgaaGreat

namespace Go.Proofs.YtdfdabjdfmamgaaGreat
open Go.AM
set_option maxRecDepth 20000
set_option maxHeartbeats 1600000
end Go.Proofs.YtdfdabjdfmamgaaGreat

/-
  slices.Insert of one element: what its cells are, and what that is to the machine.
-/
namespace Go.AM
open Go.RowKit
/-- behind the call: the rows' block is new, or the old one; all others are as they were -/
structure Placed (w w' : World) (ob : Option Nat) (nb no nC n sz : Nat) (us : List Value) : Prop where
  at_ : ∃ cs T, w'.heap[nb]? = some (.cells cs T (0, 0)) ∧ no + nC * sz ≤ cs.size ∧ ∀ j, j < n * sz → cs.getD (no + j) undef = us.getD j undef
  le : n ≤ nC
  cap : nC ≤ maxLen
  size : w.heap.size ≤ w'.heap.size
  same : Same w w'
  blk : w.heap.size ≤ nb ∨ ob = some nb
  frame : ∀ c, c < w.heap.size → c ≠ nb → w'.heap[c]? = w.heap[c]?
/-- rows are put down in a block: a new one, or the one that they had -/
theorem Rep.place {w0 : World} {base : Bs} {st : ASt} {a : Act} {w w' : World} (hR : Rep w0 base st a w) {h' : AH} {E' : Nat → Nat → Prop} (H' : HRel base h' w E') (tr : Tr st.h.M w h'.M w) {k : Nat} {ob : Option Nat} (hob : (h'.get k).blk = ob)
    {nb no nC sz : Nat} {us : List Value} {rows : List (List CD)} (own : Bool) (hp : Placed w w' ob nb no nC rows.length sz us) (hsz : 0 < sz) (hrl : ∀ row ∈ rows, row.length = sz) (F : Nat → Nat → Nat → Prop)
    (hr : ∀ i j row d, rows[i]? = some row → row[j]? = some d → Rd w own (F i j) (us.getD (i * sz + j) undef) d) (hF : ∀ i j c, F i j c → ¬ h'.M c)
    (hown : own = true → ∀ i j c, F i j c → ¬ base.G c ∧ ∀ q, q ≠ k → ¬ E' q c) (hinj : own = true → ∀ i j i' j' c, F i j c → F i' j' c → i = i' ∧ j = j') :
    Moved w0 base st a w ((k, .rows (some (nb, no, nC)) sz rows own) :: h') w' := by
  obtain ⟨cs, T, hb, hfit, hcs⟩ := hp.at_
  have hnb : ∀ c, c < w.heap.size → c = nb → (h'.get k).blk = some c := by
    intro c hc e
    subst e
    rcases hp.blk with h | h
    · omega
    · rw [hob]; exact h
  have hfr : ∀ c, c < w.heap.size → (¬ h'.M c ∨ ∃ j, j ≠ k ∧ (h'.get j).blk = some c) → w'.heap[c]? = w.heap[c]? := by
    intro c hc h
    refine hp.frame c hc (fun e => ?_)
    have hk := hnb c hc e
    rcases h with h | ⟨j, hne, hj⟩
    · exact h ⟨k, hk⟩
    · exact hne (H'.inj _ _ _ hj hk)
  have t : Tr h'.M w (AH.M ((k, .rows (some (nb, no, nC)) sz rows own) :: h')) w' := Tr.upd H' hp.size (fun c hc hM => hfr c hc (.inl hM)) (fun c hc => by
    simp [AObj.blk] at hc
    subst hc
    rcases hp.blk with h | h
    · exact .inl h
    · exact .inr (by rw [hob]; exact h))
  have lt : ∀ i j, i < rows.length → j < sz → i * sz + j < rows.length * sz := by
    intro i j hi hj
    have := Nat.mul_le_mul_right sz (show i + 1 ≤ rows.length by omega)
    have e : (i + 1) * sz = i * sz + sz := Nat.succ_mul i sz
    omega
  refine (hR.move H' tr ⟨rfl, rfl, rfl⟩).move (H'.upd (Ek := fun c => own = true ∧ c < w.heap.size ∧ ∃ i j, F i j c) hp.size hfr (fun c hc => ?_)
    ⟨cs, T, fun i j c => c < w.heap.size ∧ F i j c, hb, hp.le, hp.cap, hsz, hfit, hrl, ?_, ?_, ?_⟩ ?_) t hp.same
  · simp [AObj.blk] at hc
    subst hc
    rcases hp.blk with h | h
    · exact ⟨hR.newer h, .inl h⟩
    · have hk : (h'.get k).blk = some nb := by rw [hob]; exact h
      exact ⟨H'.low k _ hk, .inr hk⟩
  · rintro i j c ⟨hlt, hc⟩
    exact ⟨fun ho => ⟨ho, hlt, i, j, hc⟩, fun hM => hF i j c hc (t.mono c hlt hM)⟩
  · rintro ho i j i' j' c ⟨-, hc⟩ ⟨-, hc'⟩
    exact hinj ho i j i' j' c hc hc'
  · intro i j row d hi hj
    have h1 : i < rows.length := (List.getElem?_eq_some_iff.1 hi).1
    have h2 : j < sz := by rw [← hrl _ (List.mem_of_getElem? hi)]; exact (List.getElem?_eq_some_iff.1 hj).1
    rw [hcs _ (lt i j h1 h2)]
    exact (hr i j row d hi hj).map (fun c hc hl => hfr c hl (.inl (hF i j c hc))) (fun c hc hl => ⟨hl, hc⟩)
  · rintro c ⟨ho, hlt, i, j, hc⟩
    obtain ⟨h1, h2⟩ := hown ho i j c hc
    exact ⟨h1, Nat.lt_of_lt_of_le hlt hp.size, h2, fun hM => hF i j c hc (t.mono c hlt hM)⟩
end Go.AM

namespace Go.Proofs.YtdfdabjdfmamgaaGreat
open Go.AM Go.RowKit
set_option maxRecDepth 100000
set_option maxHeartbeats 4000000
set_option linter.unusedVariables false
set_option linter.unusedSimpArgs false
end Go.Proofs.YtdfdabjdfmamgaaGreat

namespace Go.Proofs.YtdfdabjdfmamgaaGreat
open Go.AM
set_option maxRecDepth 20000
set_option maxHeartbeats 3200000
end Go.Proofs.YtdfdabjdfmamgaaGreat

namespace Go.Proofs.YtdfdabjdfmamgaaGreat
open Go.AM
set_option maxRecDepth 20000
theorem nL_append {α : Type} {f : α → Nat} (a b : List α) : nL f (a ++ b) = nL f a + nL f b := by
  unfold nL
  rw [sumN_append, List.length_append]
  omega
end Go.Proofs.YtdfdabjdfmamgaaGreat

/-
  The abstract machine: the order of strings.
-/
namespace Go.AM
open Go.RowKit
def sLt (s u : ByteArray) : Prop := Op.bytesLess s.toList u.toList = true
theorem b_dc (b : Bool) : b = dc (b = true) := by cases b <;> simp [dc]
section
variable {tb : Prop} {F : AV → Prop} {s u : ByteArray}
theorem B_slss : aBin tb .lss (.string s) (.string u) F = F (.v (.bool (dc (sLt s u)))) := by
  simp only [aBin]; rw [b_dc (Op.bytesLess s.toList u.toList)]; rfl
theorem B_sgeq : aBin tb .geq (.string s) (.string u) F = F (.v (.bool (!dc (sLt s u)))) := by
  simp only [aBin]; rw [b_dc (Op.bytesLess s.toList u.toList)]; rfl
end
attribute [simp ↓] B_slss B_sgeq
end Go.AM

namespace Go.Proofs.YtdfdabjdfmamgaaGreat
open Go.AM
set_option maxRecDepth 20000
/-- the first place of a list where something holds; -1: none -/
noncomputable def fIdx {α : Type} (p : α → Prop) (l : List α) : Int :=
  open Classical in match l.findIdx? (fun a => decide (p a)) with
  | some k => k
  | none => -1
theorem fIdx_at {α : Type} {p : α → Prop} {l : List α} {i : Nat} (h : i < l.length) (hp : p l[i]) (hb : ∀ j, j < i → ∀ hj : j < l.length, ¬ p l[j]) : fIdx p l = i := by
  classical
  unfold fIdx
  have : l.findIdx? (fun a => decide (p a)) = some i := by
    rw [List.findIdx?_eq_some_iff_getElem]
    exact ⟨h, by simpa using hp, fun j hj => by simpa using hb j hj (by omega)⟩
  rw [this]
theorem fIdx_none {α : Type} {p : α → Prop} {l : List α} (hb : ∀ j, ∀ hj : j < l.length, ¬ p l[j]) : fIdx p l = -1 := by
  classical
  unfold fIdx
  have : l.findIdx? (fun a => decide (p a)) = none := by
    rw [List.findIdx?_eq_none_iff]
    intro x hx
    obtain ⟨j, hj, rfl⟩ := List.getElem_of_mem hx
    simpa using hb j hj
  rw [this]
theorem fIdx_cases {α : Type} (p : α → Prop) (l : List α) : (∃ k : Nat, ∃ h : k < l.length, fIdx p l = k ∧ p l[k] ∧ ∀ j, j < k → ∀ hj : j < l.length, ¬ p l[j]) ∨ (fIdx p l = -1 ∧ ∀ j, ∀ hj : j < l.length, ¬ p l[j]) := by
  classical
  cases e : l.findIdx? (fun a => decide (p a)) with
  | some k =>
    rw [List.findIdx?_eq_some_iff_getElem] at e
    obtain ⟨h, hp, hb⟩ := e
    have hp : p l[k] := by simpa using hp
    have hb : ∀ j, j < k → ∀ hj : j < l.length, ¬ p l[j] := fun j hj hl => by simpa using hb j hj
    exact .inl ⟨k, h, fIdx_at h hp hb, hp, hb⟩
  | none =>
    rw [List.findIdx?_eq_none_iff] at e
    have hb : ∀ j, ∀ hj : j < l.length, ¬ p l[j] := fun j hj => by simpa using e _ (List.getElem_mem hj)
    exact .inr ⟨fIdx_none hb, hb⟩
noncomputable def docIdx (l : List Doc) (name : ByteArray) : Int := fIdx (fun d => d.name = name) l
def ringOk (r : Ring) : Prop := (∀ e ∈ r.list, entryOk e) ∧ (1 ≤ r.cap ∧ r.cap ≤ 6) ∧ (1 ≤ r.next ∧ r.next ≤ 1000000000) ∧ (r.list.length : Int) ≤ r.cap ∧ ¬ (r.out = true ∧ 0 < r.list.length)
def docAt (l : List Doc) (i : Nat) : Prop := ∀ h : i < l.length, docOk l[i] ∧ ∀ _ : 0 < i, sLt l[i - 1].name l[i].name
def subAt (docs : List Doc) (last : Int) (l : List Sub) (i : Nat) : Prop := ∀ h : i < l.length, (1 ≤ l[i].id ∧ l[i].id ≤ last) ∧ ringOk l[i].r ∧ (∀ _ : 0 < i, l[i - 1].id < l[i].id) ∧
  ∃ k : Nat, ∃ hk : k < docs.length, docIdx docs l[i].doc = k ∧ (l[i].r.out = false → l[i].r.next + l[i].r.list.length = headRev docs[k] + 1)
def hubOk (h : Hub) : Prop := h.docs.length ≤ 5 ∧ h.subs.length ≤ 6 ∧ (0 ≤ h.last ∧ h.last ≤ 1000000000) ∧ (∀ i, docAt h.docs i) ∧ ∀ i, subAt h.docs h.last h.subs i
def onDoc (k : Int) : Prop := 1 ≤ k ∧ k ≤ 5
def callOk (c : Call) : Prop := (1 ≤ c.kind ∧ c.kind ≤ 8) ∧ c.doc.size ≤ 8 ∧ partsOk c.o ∧ textOk c.text ∧ (¬ onDoc c.kind → c.doc = ⟨#[]⟩) ∧ (c.kind ≠ 1 → c.text = []) ∧
  (c.kind ≠ 2 → c.o = [] ∧ c.seq = 0) ∧ (¬ (c.kind = 2 ∨ c.kind = 6 ∨ c.kind = 7) → c.client = 0) ∧ (¬ (c.kind = 2 ∨ c.kind = 3 ∨ c.kind = 5 ∨ c.kind = 6) → c.n = 0)
open Classical in
/-- the fields alone that a call's kind uses -/
noncomputable def usedCall (c : Call) : Call := ⟨c.kind, if onDoc c.kind then c.doc else ⟨#[]⟩, if c.kind = 2 ∨ c.kind = 6 ∨ c.kind = 7 then c.client else 0, if c.kind = 2 then c.seq else 0,
  if c.kind = 2 ∨ c.kind = 3 ∨ c.kind = 5 ∨ c.kind = 6 then c.n else 0, if c.kind = 2 then c.o else [], if c.kind = 1 then c.text else []⟩
theorem callOk_used {c : Call} : callOk c ↔ (1 ≤ c.kind ∧ c.kind ≤ 8) ∧ c.doc.size ≤ 8 ∧ partsOk c.o ∧ textOk c.text ∧ c = usedCall c := by
  obtain ⟨kind, doc, client, seq, n, o, text⟩ := c
  unfold callOk usedCall onDoc
  simp only [Call.mk.injEq, true_and]
  constructor
  · rintro ⟨h1, h2, h3, h4, h5, h6, h7, h8, h9⟩
    refine ⟨h1, h2, h3, h4, ?_, ?_, ?_, ?_, ?_, ?_⟩ <;> split <;> simp_all
  · rintro ⟨h1, h2, h3, h4, h5, h6, h7, h8, h9, h10⟩
    refine ⟨h1, h2, h3, h4, ?_, ?_, ?_, ?_, ?_⟩
    · intro h; rw [if_neg h] at h5; exact h5
    · intro h; rw [if_neg h] at h10; exact h10
    · intro h; rw [if_neg h] at h7 h9; exact ⟨h9, h7⟩
    · intro h; rw [if_neg h] at h6; exact h6
    · intro h; rw [if_neg h] at h8; exact h8
/-- what a name's number is -/
noncomputable def fnvStep (n : Int) (c : UInt8) : Int := (Go.IntKind.i64.wrap (bits .xor .i64 n (c.toNat : Int) * 16777619)).tmod 4294967296
noncomputable def fnvTo (s : ByteArray) : Nat → Int
  | 0 => 2166136261
  | i + 1 => if h : i < s.size then fnvStep (fnvTo s i) s[i] else fnvTo s i
theorem fnvTo_suc {s : ByteArray} {i : Nat} (h : i < s.size) : fnvTo s (i + 1) = fnvStep (fnvTo s i) s[i] := by rw [fnvTo, dif_pos h]
theorem xor_b {a c : Nat} (ha : a < 2 ^ 32) (hc : c < 256) : bits .xor .i64 (a : Int) (c : Int) = ((a ^^^ c : Nat) : Int) ∧ a ^^^ c < 2 ^ 32 := by
  have hx : a ^^^ c < 2 ^ 32 := Nat.xor_lt_two_pow ha (by omega)
  refine ⟨?_, hx⟩
  show IntKind.i64.wrap ((BitVec.ofInt 64 (a : Int) ^^^ BitVec.ofInt 64 (c : Int)).toNat : Int) = _
  have h1 : (BitVec.ofInt 64 (a : Int)).toNat = a := by rw [BitVec.ofInt_natCast, BitVec.toNat_ofNat]; exact Nat.mod_eq_of_lt (by omega)
  have h2 : (BitVec.ofInt 64 (c : Int)).toNat = c := by rw [BitVec.ofInt_natCast, BitVec.toNat_ofNat]; exact Nat.mod_eq_of_lt (by omega)
  rw [BitVec.toNat_xor, h1, h2]
  exact Go.IntWalk.i64_in _ (by omega)
theorem fnvTo_b (s : ByteArray) : ∀ i, 0 ≤ fnvTo s i ∧ fnvTo s i < 2 ^ 32
  | 0 => by simp [fnvTo]
  | i + 1 => by
    obtain ⟨h1, h2⟩ := fnvTo_b s i
    unfold fnvTo
    split
    · rename_i h
      unfold fnvStep
      generalize fnvTo s i = n at h1 h2
      obtain ⟨a, rfl⟩ : ∃ a : Nat, n = a := ⟨n.toNat, by omega⟩
      obtain ⟨e, hx⟩ := xor_b (a := a) (c := s[i].toNat) (by omega) s[i].toNat_lt
      rw [e]
      generalize a ^^^ s[i].toNat = z at hx
      have ew : Go.IntKind.i64.wrap ((z : Int) * 16777619) = (z : Int) * 16777619 := Go.IntWalk.i64_in _ (by omega)
      rw [ew, show ((z : Int) * 16777619).tmod 4294967296 = ((z : Int) * 16777619) % 4294967296 from Int.tmod_eq_emod_of_nonneg (by omega)]
      omega
    · exact ⟨h1, h2⟩
noncomputable def fnv (s : ByteArray) : Int := fnvTo s s.size
noncomputable def stripe (s : ByteArray) (n : Nat) : Nat := (fnv s).toNat % n
theorem stripe_eq (s : ByteArray) {n : Nat} (h : 1 ≤ n) : (fnv s).tmod n = stripe s n ∧ stripe s n < n := by
  obtain ⟨h1, -⟩ := fnvTo_b s s.size
  unfold stripe fnv
  generalize fnvTo s s.size = m at h1
  obtain ⟨a, rfl⟩ : ∃ a : Nat, m = a := ⟨m.toNat, by omega⟩
  refine ⟨?_, Nat.mod_lt _ (by omega)⟩
  rw [Int.tmod_eq_emod_of_nonneg (by omega)]
  simp
def Answer.zero : Answer := ⟨0, 0, [], []⟩
def busyA (t : Task) : Prop := t.a = ⟨11, 0, [], []⟩ ∧ t.c.kind = 2 ∧ t.lin = -1
def taskOk (t : Task) : Prop := callOk t.c ∧ (0 ≤ t.inv ∧ t.inv ≤ 1000000) ∧ (0 ≤ t.pc ∧ t.pc ≤ 4) ∧ (t.pc = 1 → onDoc t.c.kind) ∧ (t.pc = 2 → t.c.kind = 2) ∧
  (t.pc ≤ 2 → t.lin = -1 ∧ t.rs = -1 ∧ t.a = Answer.zero) ∧ (3 ≤ t.pc → busyA t ∨ (t.inv ≤ t.lin ∧ t.lin ≤ 1000000)) ∧ (t.pc = 3 → t.rs = -1) ∧ (t.pc = 4 → (t.inv ≤ t.rs ∧ t.rs ≤ 1000000) ∧ t.lin ≤ t.rs)
/-- the steps that are told -/
def toldOf (t : Task) : List Int := [t.inv, t.lin, t.rs]
def stepsRun (step : Int) : List Int → List Int → Option (List Int)
  | met, [] => some met
  | met, n :: l => if n = -1 then stepsRun step met l else if n ≥ step ∨ n ∈ met then none else stepsRun step (met ++ [n]) l
def stepsOk (w : Wld) : Prop := (stepsRun w.step [] (w.tasks.flatMap toldOf)).isSome = true
theorem stepsRun_append {step : Int} : ∀ (a b met : List Int), stepsRun step met (a ++ b) = (stepsRun step met a).bind fun m => stepsRun step m b
  | [], b, met => by simp [stepsRun]
  | n :: a, b, met => by
    simp only [List.cons_append, stepsRun]
    split
    · exact stepsRun_append a b met
    · split
      · rfl
      · exact stepsRun_append a b _
theorem stepsRun_len {step : Int} : ∀ (l met m : List Int), stepsRun step met l = some m → m.length ≤ met.length + l.length
  | [], met, m, h => by simp [stepsRun] at h; subst h; simp
  | n :: l, met, m, h => by
    unfold stepsRun at h
    split at h
    · have := stepsRun_len l met m h; simp; omega
    · split at h
      · cases h
      · have := stepsRun_len l _ m h; simp at this ⊢; omega
def lockAt (tasks : List Task) (locks : List Int) (s : Nat) : Prop := ∀ h : s < locks.length, locks[s] = -1 ∨ ∃ k : Nat, ∃ hk : k < tasks.length, locks[s] = k ∧ tasks[k].pc = 1 ∧ stripe tasks[k].c.doc locks.length = s
def lockedAt (tasks : List Task) (locks : List Int) (k : Nat) : Prop := ∀ h : k < tasks.length, tasks[k].pc = 1 → locks[stripe tasks[k].c.doc locks.length]? = some (k : Int)
def locksOk (w : Wld) : Prop := (∀ s, lockAt w.tasks w.locks s) ∧ ∀ k, lockedAt w.tasks w.locks k
/-- what the stripes of the first tasks hold -/
def heldBy (tasks : List Task) (n i : Nat) (held : List Int) : Prop := held.length = n ∧ ∀ s, ∀ h : s < held.length,
  (held[s] = -1 ∧ ∀ k, k < i → ∀ hk : k < tasks.length, tasks[k].pc = 1 → stripe tasks[k].c.doc n ≠ s) ∨
  (∃ k : Nat, k < i ∧ ∃ hk : k < tasks.length, held[s] = k ∧ tasks[k].pc = 1 ∧ stripe tasks[k].c.doc n = s ∧ ∀ j, j < i → ∀ hj : j < tasks.length, tasks[j].pc = 1 → stripe tasks[j].c.doc n = s → j = k)
theorem held_zero (tasks : List Task) (n : Nat) : heldBy tasks n 0 (List.replicate n (-1)) := by
  refine ⟨by simp, fun s h => .inl ⟨by simp, fun k hk => by omega⟩⟩
theorem held_skip {tasks : List Task} {n i : Nat} {held : List Int} (h : heldBy tasks n i held) (hi : i < tasks.length) (hp : ¬ tasks[i].pc = 1) : heldBy tasks n (i + 1) held := by
  obtain ⟨h1, h2⟩ := h
  refine ⟨h1, fun s hs => ?_⟩
  rcases h2 s hs with ⟨ha, hb⟩ | ⟨k, hk, hkl, ha, hb, hc, hd⟩
  · refine .inl ⟨ha, fun k hk hkl hp' => ?_⟩
    rcases Nat.lt_or_ge k i with hlt | hge
    · exact hb k hlt hkl hp'
    · have : k = i := by omega
      subst this; exact absurd hp' hp
  · refine .inr ⟨k, by omega, hkl, ha, hb, hc, fun j hj hjl hp' hs' => ?_⟩
    rcases Nat.lt_or_ge j i with hlt | hge
    · exact hd j hlt hjl hp' hs'
    · have : j = i := by omega
      subst this; exact absurd hp' hp
theorem held_set {tasks : List Task} {n i : Nat} {held : List Int} (h : heldBy tasks n i held) (hi : i < tasks.length) (hp : tasks[i].pc = 1) {s : Nat} (hs : stripe tasks[i].c.doc n = s) (hl : s < held.length) (hm : held[s] = -1) :
    heldBy tasks n (i + 1) (held.set s (i : Int)) := by
  obtain ⟨h1, h2⟩ := h
  refine ⟨by simpa using h1, fun r hr => ?_⟩
  have hr' : r < held.length := by simpa using hr
  by_cases e : s = r
  · subst e
    rcases h2 s hl with ⟨ha, hb⟩ | ⟨k, hk, hkl, ha, -⟩
    · refine .inr ⟨i, by omega, hi, by simp, hp, hs, fun j hj hjl hp' hs' => ?_⟩
      rcases Nat.lt_or_ge j i with hlt | hge
      · exact absurd hs' (hb j hlt hjl hp')
      · omega
    · omega
  · rw [List.getElem_set_ne e]
    rcases h2 r hr' with ⟨ha, hb⟩ | ⟨k, hk, hkl, ha, hb, hc, hd⟩
    · refine .inl ⟨ha, fun k hk hkl hp' hs' => ?_⟩
      rcases Nat.lt_or_ge k i with hlt | hge
      · exact hb k hlt hkl hp' hs'
      · have : k = i := by omega
        subst this; exact e (hs.symm.trans hs')
    · refine .inr ⟨k, by omega, hkl, ha, hb, hc, fun j hj hjl hp' hs' => ?_⟩
      rcases Nat.lt_or_ge j i with hlt | hge
      · exact hd j hlt hjl hp' hs'
      · have : j = i := by omega
        subst this; exact absurd (hs.symm.trans hs') e
theorem held_two {tasks : List Task} {locks : List Int} {i : Nat} {held : List Int} (h : heldBy tasks locks.length i held) (hi : i < tasks.length) (hp : tasks[i].pc = 1) (hl : stripe tasks[i].c.doc locks.length < held.length) (hm : ¬ held[stripe tasks[i].c.doc locks.length] = -1) :
    ¬ ∀ k, lockedAt tasks locks k := by
  intro hk
  rcases h.2 _ hl with ⟨ha, -⟩ | ⟨k, hki, hkl, ha, hb, hc, -⟩
  · exact hm ha
  · have e1 := hk i hi hp
    have e2 := hk k hkl hb
    rw [hc, e1] at e2
    simp at e2
    omega
theorem held_end {tasks : List Task} {locks held : List Int} (hn : 1 ≤ locks.length) (h : heldBy tasks locks.length tasks.length held) : held = locks ↔ ((∀ s, lockAt tasks locks s) ∧ ∀ k, lockedAt tasks locks k) := by
  obtain ⟨h1, h2⟩ := h
  constructor
  · rintro rfl
    refine ⟨fun s hs => ?_, fun k hk hp => ?_⟩
    · rcases h2 s hs with ⟨ha, -⟩ | ⟨k, -, hkl, ha, hb, hc, -⟩
      · exact .inl ha
      · exact .inr ⟨k, hkl, ha, hb, hc⟩
    · by_cases hz : stripe tasks[k].c.doc held.length < held.length
      · rcases h2 _ hz with ⟨-, hb⟩ | ⟨k', -, hkl, ha, hb, hc, hd⟩
        · exact absurd rfl (hb k hk hk hp)
        · have := hd k hk hk hp rfl
          subst this
          rw [List.getElem?_eq_getElem hz, ha]
      · exfalso
        exact hz (Nat.mod_lt _ (by omega))
  · rintro ⟨ha, hb⟩
    refine List.ext_getElem h1 (fun s hs hs' => ?_)
    rcases h2 s hs with ⟨hc, hd⟩ | ⟨k, hk, hkl, hc, hd, he, -⟩
    · rcases ha s hs' with h3 | ⟨k, hkl, h3, h4, h5⟩
      · rw [hc, h3]
      · exact absurd h5 (hd k hkl hkl h4)
    · have h3 := hb k hkl hd
      rw [he, List.getElem?_eq_getElem hs'] at h3
      rw [hc]
      exact (Option.some.inj h3).symm
/-- the tasks that stand in queues, one after the other; none: a queue is not right -/
def mayWait (tasks : List Task) (doc : ByteArray) (k : Int) : Prop := ∃ i : Nat, ∃ h : i < tasks.length, k = i ∧ tasks[i].pc = 2 ∧ tasks[i].c.doc = doc
open Classical in
noncomputable def queueRun (tasks : List Task) (doc : ByteArray) : List Int → List Int → Option (List Int)
  | all, [] => some all
  | all, k :: l => if mayWait tasks doc k ∧ k ∉ all then queueRun tasks doc (all ++ [k]) l else none
theorem queueRun_append {tasks : List Task} {doc : ByteArray} : ∀ (a b all : List Int), queueRun tasks doc all (a ++ b) = (queueRun tasks doc all a).bind fun m => queueRun tasks doc m b
  | [], b, all => by simp [queueRun]
  | k :: a, b, all => by
    simp only [List.cons_append, queueRun]
    split
    · exact queueRun_append a b _
    · rfl
theorem queueRun_len {tasks : List Task} {doc : ByteArray} : ∀ (l all m : List Int), queueRun tasks doc all l = some m → m.length = all.length + l.length
  | [], all, m, h => by simp [queueRun] at h; subst h; simp
  | k :: l, all, m, h => by
    unfold queueRun at h
    split at h
    · have := queueRun_len l _ m h; simp at this ⊢; omega
    · cases h
def queueAt (h : Hub) (l : List Queue) (i : Nat) : Prop := ∀ hi : i < l.length, (∀ _ : 0 < i, sLt l[i - 1].doc l[i].doc) ∧ (1 ≤ l[i].list.length ∧ l[i].list.length ≤ 2) ∧ 0 ≤ docIdx h.docs l[i].doc
open Classical in
noncomputable def queuesRun (w : Wld) : Nat → Option (List Int)
  | 0 => some []
  | i + 1 => (queuesRun w i).bind fun all => if h : i < w.queues.length then (if queueAt w.h w.queues i then queueRun w.tasks w.queues[i].doc all w.queues[i].list else none) else some all
theorem queuesRun_suc {w : Wld} {i : Nat} (h : i < w.queues.length) {all : List Int} (ha : queuesRun w i = some all) (hq : queueAt w.h w.queues i) : queuesRun w (i + 1) = queueRun w.tasks w.queues[i].doc all w.queues[i].list := by
  rw [queuesRun, ha]; simp only [Option.bind_some]; rw [dif_pos h, if_pos hq]
theorem queuesRun_bad {w : Wld} {i : Nat} (h : i < w.queues.length) (hq : ¬ queueAt w.h w.queues i) : queuesRun w (i + 1) = none := by
  rw [queuesRun]
  cases queuesRun w i with
  | none => rfl
  | some all => simp only [Option.bind_some]; rw [dif_pos h, if_neg hq]
theorem queuesRun_none {w : Wld} {i : Nat} (h : queuesRun w i = none) : ∀ j, queuesRun w (i + j) = none
  | 0 => h
  | j + 1 => by rw [← Nat.add_assoc, queuesRun, queuesRun_none h j]; rfl
def queuesOk (w : Wld) : Prop := ∃ all, queuesRun w w.queues.length = some all ∧ ∀ k, ∀ hk : k < w.tasks.length, w.tasks[k].pc = 2 → (k : Int) ∈ all
theorem queuesOk_no {w : Wld} {i : Nat} (hi : i < w.queues.length) (h : queuesRun w (i + 1) = none) : ¬ queuesOk w := by
  rintro ⟨all, h1, -⟩
  have := queuesRun_none h (w.queues.length - (i + 1))
  rw [show i + 1 + (w.queues.length - (i + 1)) = w.queues.length by omega, h1] at this
  cases this
theorem queueRun_one {tasks : List Task} {doc : ByteArray} {all l : List Int} {j : Nat} (hj : j < l.length) {m : List Int} (h : queueRun tasks doc all (l.take j) = some m) : (mayWait tasks doc l[j] ∧ l[j] ∉ m → queueRun tasks doc all (l.take (j + 1)) = some (m ++ [l[j]])) ∧
    (¬ (mayWait tasks doc l[j] ∧ l[j] ∉ m) → queueRun tasks doc all l = none) := by
  constructor
  · intro hc
    rw [← List.take_append_getElem hj, queueRun_append, h]
    simp only [Option.bind_some, queueRun]
    rw [if_pos hc]
  · intro hc
    rw [show l = l.take j ++ (l[j] :: l.drop (j + 1)) by rw [← List.drop_eq_getElem_cons hj, List.take_append_drop], queueRun_append, h]
    simp only [Option.bind_some, queueRun]
    have e : (l.take j ++ (l[j] :: l.drop (j + 1)))[j]'(by simp; omega) = l[j] := by simp
    rw [if_neg hc]
theorem stepsRun_one {step : Int} {met l : List Int} {j : Nat} (hj : j < l.length) {m : List Int} (h : stepsRun step met (l.take j) = some m) : (l[j] = -1 → stepsRun step met (l.take (j + 1)) = some m) ∧
    (¬ l[j] = -1 → ¬ (l[j] ≥ step ∨ l[j] ∈ m) → stepsRun step met (l.take (j + 1)) = some (m ++ [l[j]])) ∧ (¬ l[j] = -1 → (l[j] ≥ step ∨ l[j] ∈ m) → stepsRun step met l = none) := by
  refine ⟨fun hc => ?_, fun hc hd => ?_, fun hc hd => ?_⟩
  · rw [← List.take_append_getElem hj, stepsRun_append, h]
    simp only [Option.bind_some, stepsRun]
    rw [if_pos hc]
  · rw [← List.take_append_getElem hj, stepsRun_append, h]
    simp only [Option.bind_some, stepsRun]
    rw [if_neg hc, if_neg hd]
  · rw [show stepsRun step met l = stepsRun step met (l.take j ++ (l[j] :: l.drop (j + 1))) by rw [← List.drop_eq_getElem_cons hj, List.take_append_drop], stepsRun_append, h]
    simp only [Option.bind_some, stepsRun]
    rw [if_neg hc, if_pos hd]
theorem told_suc {l : List Task} {i : Nat} (h : i < l.length) : (l.take (i + 1)).flatMap toldOf = (l.take i).flatMap toldOf ++ toldOf l[i] := by
  rw [← List.take_append_getElem h, List.flatMap_append]
  simp
theorem told_len : ∀ (l : List Task), (l.flatMap toldOf).length = 3 * l.length
  | [] => rfl
  | t :: l => by
    rw [List.flatMap_cons, List.length_append, told_len l]
    simp [toldOf]; omega
theorem stepsOk_no {w : Wld} {i : Nat} (hi : i < w.tasks.length) {m : List Int} (h : stepsRun w.step [] ((w.tasks.take i).flatMap toldOf) = some m) (hn : stepsRun w.step m (toldOf w.tasks[i]) = none) : ¬ stepsOk w := by
  unfold stepsOk
  rw [show w.tasks.flatMap toldOf = (w.tasks.take i).flatMap toldOf ++ (toldOf w.tasks[i] ++ (w.tasks.drop (i + 1)).flatMap toldOf) by
    rw [← List.append_assoc, ← told_suc hi, ← List.flatMap_append, List.take_append_drop]]
  rw [stepsRun_append, h]
  simp only [Option.bind_some]
  rw [stepsRun_append, hn]
  simp
def worldOk (w : Wld) : Prop := (∀ t ∈ w.tasks, taskOk t) ∧ hubOk w.h ∧ (1 ≤ w.locks.length ∧ w.locks.length ≤ 4) ∧ w.tasks.length ≤ 10 ∧ (0 ≤ w.step ∧ w.step ≤ 1000000) ∧ stepsOk w ∧ locksOk w ∧ queuesOk w
end Go.Proofs.YtdfdabjdfmamgaaGreat

