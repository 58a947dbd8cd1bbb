import Derived.Test.YtdfdabjdfmamgaaGreatPB
import Derived.Test.YtdfdabjdfmamgaaGreatNA
import Derived.Test.YtdfdabjdfmamgaaGreatMF
import Derived.Lib.AppendZerosOnto
import Derived.Lib.Overlaps
import Derived.Laws.IdiomCopy
import Derived.Laws.Externs
import Derived.Test.YtdfdabjdfmamgaaGreatMG
import Derived.Shelf.RegionOpenPlain
import Derived.Test.YtdfdabjdfmamgaaGreatNB
import Derived.Test.YtdfdabjdfmamgaaGreatPA
namespace Go.Proofs.YtdfdabjdfmamgaaGreat
open Go.AM
set_option maxRecDepth 20000
set_option maxHeartbeats 1600000

theorem implNameOk_c (s : ByteArray) (hl : s.size ≤ 2 ^ 40) : PureC Tryz.prog 269 [.c (.v (.string s))] (.one (.c (vb (nameOk s)) 1)) := by
  refine PureC.intro' tt_ok Tryz.func269 (by kernel_rfl) rfl rfl rfl (Nat.le_of_ble_eq_true rfl) (fun w0 base => ?_)
  simp
  refine LoopT.intro eok (fun i : Nat => i ≤ s.size ∧ ∀ j, j < i → nameAt s j) (fun i => ⟨23, 0, [(3, .v (.int .i64 i)), (0, .v (.string s))], []⟩) (fun i => s.size - i) 0 (by simp) (by simp) (fun i hi => ?_)
  by_cases hlt : i < s.size
  · simp [hlt]
    by_cases h1 : (s[i].toNat : Int) < 97
    · have hno : ¬ nameOk s := fun h => by have := (h.2 i hlt).1; omega
      simp [h1, dc_neg hno]
    · by_cases h2 : 122 < (s[i].toNat : Int)
      · have hno : ¬ nameOk s := fun h => by have := (h.2 i hlt).2; omega
        simp [h1, h2, hlt, dc_neg hno]
      · simp [h1, h2, hlt]
        refine ⟨i + 1, ⟨by omega, fun j hj => ?_⟩, by omega, i64_suc (by omega)⟩
        by_cases hji : j = i
        · subst hji; exact fun _ => by omega
        · exact hi.2 j (by omega)
  · simp [hlt]
    refine ACall.pure (within_c s.size 1 8) (by simp) ?_
    have hsz : (1 ≤ (s.size : Int) ∧ (s.size : Int) ≤ 8) ↔ (1 ≤ s.size ∧ s.size ≤ 8) := by omega
    by_cases h3 : 1 ≤ s.size ∧ s.size ≤ 8
    · have hy : nameOk s := ⟨h3, fun j hj => hi.2 j (by omega) hj⟩
      have h4 := hsz.2 h3
      simp [h4, hy]
    · have hno : ¬ nameOk s := fun h => h3 h.1
      have h4 : ¬ (1 ≤ (s.size : Int) ∧ (s.size : Int) ≤ 8) := fun h => h3 (hsz.1 h)
      simp [dc_neg h4, dc_neg hno]
theorem specNameOk_c (s : ByteArray) (hl : s.size ≤ 2 ^ 40) : PureC Tryz.prog 267 [.c (.v (.string s))] (.one (.c (vb (nameOk s)) 1)) := by
  refine PureC.intro' tt_ok Tryz.func267 (by kernel_rfl) rfl rfl rfl (Nat.le_of_ble_eq_true rfl) (fun w0 base => ?_)
  simp
  refine LoopT.intro eok (fun i : Nat => i ≤ s.size ∧ ∀ j, j < i → nameAt s j) (fun i => ⟨23, 0, [(3, .v (.int .i64 i)), (0, .v (.string s))], []⟩) (fun i => s.size - i) 0 (by simp) (by simp) (fun i hi => ?_)
  by_cases hlt : i < s.size
  · simp [hlt]
    by_cases h1 : (s[i].toNat : Int) < 97
    · have hno : ¬ nameOk s := fun h => by have := (h.2 i hlt).1; omega
      simp [h1, dc_neg hno]
    · by_cases h2 : 122 < (s[i].toNat : Int)
      · have hno : ¬ nameOk s := fun h => by have := (h.2 i hlt).2; omega
        simp [h1, h2, hlt, dc_neg hno]
      · simp [h1, h2, hlt]
        refine ⟨i + 1, ⟨by omega, fun j hj => ?_⟩, by omega, i64_suc (by omega)⟩
        by_cases hji : j = i
        · subst hji; exact fun _ => by omega
        · exact hi.2 j (by omega)
  · simp [hlt]
    refine ACall.pure (l01In_c s.size 1 8) (by simp) ?_
    have hsz : (1 ≤ (s.size : Int) ∧ (s.size : Int) ≤ 8) ↔ (1 ≤ s.size ∧ s.size ≤ 8) := by omega
    by_cases h3 : 1 ≤ s.size ∧ s.size ≤ 8
    · have hy : nameOk s := ⟨h3, fun j hj => hi.2 j (by omega) hj⟩
      have h4 := hsz.2 h3
      simp [h4, hy]
    · have hno : ¬ nameOk s := fun h => h3 h.1
      have h4 : ¬ (1 ≤ (s.size : Int) ∧ (s.size : Int) ≤ 8) := fun h => h3 (hsz.1 h)
      simp [dc_neg h4, dc_neg hno]

theorem opsOf_c (l : List Entry) (hl : nL nEntry l ≤ 2 ^ 30) : PureC Tryz.prog 264 [.c (.s (l.map Entry.row))] (.one (.c (.s ((l.map Entry.o).map partsR)) 1)) := by
  refine PureC.intro' tt_ok Tryz.func264 (by kernel_rfl) rfl rfl rfl (Nat.le_of_ble_eq_true rfl) (fun w0 base => ?_)
  have hle := nL_len hl
  simp
  refine LoopT.introG eok (fun x : Nat × Hd => x.1 ≤ l.length) (fun x => ⟨20, 0, [(8, .v (.int .i64 x.1)), (7, .v (.int .i64 l.length)), (6, .ro (l.map Entry.row)), (3, .sl 5000 x.2 1 0 x.1)], [(5000, .rows x.2 1 (((l.take x.1).map Entry.o).map partsR) true)]⟩) (fun x => l.length - x.1) (0, none) (by simp) (by simp) (fun x hx => Ent.refl ?_)
  obtain ⟨i, H⟩ := x
  simp only at hx ⊢
  by_cases hlt : i < l.length
  · have hm := nL_at hl hlt
    unfold nEntry at hm
    simp [hlt, Entry.row]
    intro b5
    refine ACall.pure (copyOp_c l[i].o hm) (by simp) ?_
    simp
    intro H1 b
    have e1 : i = min i l.length := by omega
    refine ⟨e1, by omega, fun H2 => Ent.refl ⟨i + 1, by omega, by omega, H2, ?_⟩⟩
    simp
    exact ⟨i64_suc (by omega), take_snoc (f := fun e : Entry => partsR e.o) hlt⟩
  · have e : l.length = i := by omega
    simp [hlt]
    have e1 : i ≤ min i l.length := by omega
    refine ⟨e1, ?_, ?_⟩
    · intro row hr
      have := List.mem_of_mem_take hr
      simp at this
      obtain ⟨x, -, rfl⟩ := this
      rfl
    · rw [List.take_of_length_le (by simp; omega)]
      simp [cut, e]

theorem implDocOk_c (d : Doc) (hl : nDoc d ≤ 2 ^ 30) : PureC Tryz.prog 188 [.agg d.row] (.one (.c (vb (docOk d)) 1)) := by
  refine PureC.intro' tt_ok Tryz.func188 (by kernel_rfl) rfl rfl rfl (Nat.le_of_ble_eq_true rfl) (fun w0 base => ?_)
  obtain ⟨n1, n2, n3, n4⟩ := nDoc_list hl
  have hle := nL_len n1
  simp [Doc.row]
  intro b1
  refine ACall.pure (implNameOk_c d.name (by omega)) (by simp) ?_
  by_cases c1 : nameOk d.name
  rotate_left
  · have h : ¬ docOk d := fun h => c1 h.1
    simp [dc_neg c1, dc_neg h]
  simp [c1]
  refine ACall.pure (within_c d.fr 0 999999000) (by simp) ?_
  by_cases c2 : 0 ≤ d.fr ∧ d.fr ≤ 999999000
  rotate_left
  · have h : ¬ docOk d := fun h => c2 h.2.1
    simp [dc_neg c2, dc_neg h]
  simp [c2]
  refine ACall.pure (implTextOk_c d.text (by omega)) (by simp) ?_
  by_cases c3 : textOk d.text
  rotate_left
  · have h : ¬ docOk d := fun h => c3 h.2.2.1
    simp [dc_neg c3, dc_neg h]
  simp [c3]
  by_cases c4 : d.list.length ≤ 8
  rotate_left
  · have h : ¬ docOk d := fun h => c4 h.2.2.2.1
    have c4' : 8 < (d.list.length : Int) := by omega
    simp [c4', dc_neg h]
  have c4' : ¬ 8 < (d.list.length : Int) := by omega
  simp [c4']
  refine LoopT.intro eok (fun i : Nat => i ≤ d.list.length ∧ ∀ e ∈ d.list.take i, entryOk e) (fun i => ⟨96, 0, [(34, .v (.int .i64 i)), (33, .v (.int .i64 d.list.length)), (32, .ro (d.list.map Entry.row)), (1, .p 16 b1 0)],
    [(16, .vars b1 35 [.v (.string d.name), .v (.int .i64 d.fr), .ro (d.text.map intR), .ro (d.list.map Entry.row), .ro (d.seen.map Seen.row)])]⟩) (fun i => d.list.length - i) 0 (by simp) (by simp) (fun i hi => ?_)
  by_cases hlt : i < d.list.length
  · have hm := nL_at n1 hlt
    simp [hlt, Entry.row]
    intro b4
    refine ACall.pure (implEntryOk_c d.list[i] (by omega)) (by simp [Entry.row]) ?_
    by_cases c5 : entryOk d.list[i]
    · simp [c5]
      exact ⟨i + 1, ⟨by omega, all_suc hlt hi.2 c5⟩, by omega, i64_suc (by omega)⟩
    · have h : ¬ docOk d := fun h => c5 (h.2.2.2.2.1 _ (List.getElem_mem hlt))
      simp [dc_neg c5, dc_neg h]
  have c5 : ∀ e ∈ d.list, entryOk e := all_end (by omega) hi.2
  simp [hlt]
  refine DrawT.quiet eok mix (by kernel_rfl) ?_
  simp
  refine ⟨_, _, opsOf_c d.list n1, by simp, ?_⟩
  simp
  have hops : ∀ o ∈ d.list.map Entry.o, nL nPart o ≤ 2 ^ 40 := by
    intro o ho
    rw [List.mem_map] at ho
    obtain ⟨e, he, rfl⟩ := ho
    have := nL_mem n1 he
    unfold nEntry at this
    omega
  refine ⟨_, _, implApplyAll_c (d.list.map Entry.o) d.text (by simp; omega) hops (by omega), by simp, ?_⟩
  have hsome := applyAll_some (l := d.list.map Entry.o) c3
  generalize applyAll (d.list.map Entry.o) d.text = A at hsome ⊢
  obtain ⟨u, ok⟩ := A
  simp only at hsome ⊢
  cases ok with
  | false =>
    have h : ¬ docOk d := fun h => by have := hsome.2 h.2.2.2.2.2.1; simp at this
    simp [dc_neg h]
  | true =>
    have c6 := hsome.1 rfl
    simp
    have hno : ∀ i, ¬ seenAt d i → ¬ docOk d := fun i h hd => h (fun hh => hd.2.2.2.2.2.2 i hh)
    refine LoopT.intro eok (fun i : Nat => i ≤ d.seen.length ∧ ∀ j, j < i → seenAt d j) (fun i => ⟨96, 0, [(56, .v (.int .i64 i)), (55, .v (.int .i64 d.seen.length)), (54, .ro (d.seen.map Seen.row)), (1, .p 16 b1 0)],
      [(16, .vars b1 35 [.v (.string d.name), .v (.int .i64 d.fr), .ro (d.text.map intR), .ro (d.list.map Entry.row), .ro (d.seen.map Seen.row)])]⟩) (fun i => d.seen.length - i) 0 (by simp) (by simp) (fun i hi => ?_)
    by_cases hlt : i < d.seen.length
    rotate_left
    · have h : docOk d := ⟨c1, c2, c3, c4, c5, c6, fun j hj => hi.2 j (by omega) hj⟩
      simp [hlt, h]
    obtain ⟨x, hx⟩ : ∃ x, d.seen[i] = x := ⟨_, rfl⟩
    simp [hlt, hx, Seen.row]
    intro b8
    refine DrawT.quiet eok mix (by kernel_rfl) ?_
    simp
    refine ⟨_, _, within_c x.client 1 8, by simp, ?_⟩
    by_cases s1 : 1 ≤ x.client ∧ x.client ≤ 8
    rotate_left
    · have h := hno i (fun h => s1 (by have := (h hlt).1; rwa [hx] at this))
      simp [dc_neg s1, dc_neg h]
    simp [s1]
    have fin : (∀ h0 : 0 < i, d.seen[i - 1].client < x.client) → (1 ≤ x.seq ∧ x.seq ≤ 1000000000) → (1 ≤ x.rev ∧ x.rev ≤ headRev d) → ∀ j, j < i + 1 → seenAt d j := by
      intro h1 h2 h3 j hj
      by_cases hji : j = i
      · subst hji; intro hh; rw [hx]; exact ⟨s1, h2, h3, h1⟩
      · exact hi.2 j (by omega)
    have noq : ¬ (1 ≤ x.seq ∧ x.seq ≤ 1000000000) → ¬ docOk d := fun s2 => hno i (fun h => s2 (by have := (h hlt).2.1; rwa [hx] at this))
    have nor : ¬ (1 ≤ x.rev ∧ x.rev ≤ headRev d) → ¬ docOk d := fun s2 => hno i (fun h => s2 (by have := (h hlt).2.2.1; rwa [hx] at this))
    cases i with
    | zero =>
      simp
      refine ⟨_, _, within_c x.seq 1 1000000000, by simp, ?_⟩
      by_cases s2 : 1 ≤ x.seq ∧ x.seq ≤ 1000000000
      rotate_left
      · simp [dc_neg s2, dc_neg (noq s2)]
      simp [s2]
      refine ⟨_, _, implHeadRev_c d, by simp [Doc.row], ?_⟩
      simp
      refine ⟨_, _, within_c x.rev 1 (headRev d), by simp, ?_⟩
      by_cases s3 : 1 ≤ x.rev ∧ x.rev ≤ headRev d
      rotate_left
      · simp [dc_neg s3, dc_neg (nor s3)]
      simp [s3]
      exact ⟨1, ⟨by omega, fin (by simp) s2 s3⟩, by omega, i64_suc (n := 0) (by omega)⟩
    | succ k =>
      have ek : Go.IntKind.i64.wrap (k : Int) = k := i64_nat (by omega)
      have hk1 : k < d.seen.length := by omega
      have hk0 : (0 : Int) < (k : Int) + 1 := by omega
      obtain ⟨y, hy⟩ : ∃ y, d.seen[k] = y := ⟨_, rfl⟩
      simp [ek, hk0, hk1, hy, Seen.row]
      by_cases s4 : y.client < x.client
      rotate_left
      · have h := hno (k + 1) (fun h => s4 (by have := (h hlt).2.2.2 (by omega); rw [hx] at this; simp only [Nat.add_sub_cancel] at this; rwa [hy] at this))
        have s4' : x.client ≤ y.client := by omega
        simp [s4', dc_neg h]
      have s4' : ¬ x.client ≤ y.client := by omega
      simp [s4']
      refine ⟨_, _, within_c x.seq 1 1000000000, by simp, ?_⟩
      by_cases s2 : 1 ≤ x.seq ∧ x.seq ≤ 1000000000
      rotate_left
      · simp [dc_neg s2, dc_neg (noq s2)]
      simp [s2]
      refine ⟨_, _, implHeadRev_c d, by simp [Doc.row], ?_⟩
      simp
      refine ⟨_, _, within_c x.rev 1 (headRev d), by simp, ?_⟩
      by_cases s3 : 1 ≤ x.rev ∧ x.rev ≤ headRev d
      rotate_left
      · simp [dc_neg s3, dc_neg (nor s3)]
      simp [s3]
      exact ⟨k + 2, ⟨by omega, fin (fun _ => by simp only [Nat.add_sub_cancel]; rw [hy]; exact s4) s2 s3⟩, by omega, by rw [Go.IntWalk.i64_in _ (by omega)]; omega⟩
theorem specDocOk_c (d : Doc) (hl : nDoc d ≤ 2 ^ 30) : PureC Tryz.prog 185 [.agg d.row] (.one (.c (vb (docOk d)) 1)) := by
  refine PureC.intro' tt_ok Tryz.func185 (by kernel_rfl) rfl rfl rfl (Nat.le_of_ble_eq_true rfl) (fun w0 base => ?_)
  obtain ⟨n1, n2, n3, n4⟩ := nDoc_list hl
  have hle := nL_len n1
  simp [Doc.row]
  intro b1
  refine ACall.pure (specNameOk_c d.name (by omega)) (by simp) ?_
  by_cases c1 : nameOk d.name
  rotate_left
  · have h : ¬ docOk d := fun h => c1 h.1
    simp [dc_neg c1, dc_neg h]
  simp [c1]
  refine ACall.pure (l01In_c d.fr 0 999999000) (by simp) ?_
  by_cases c2 : 0 ≤ d.fr ∧ d.fr ≤ 999999000
  rotate_left
  · have h : ¬ docOk d := fun h => c2 h.2.1
    simp [dc_neg c2, dc_neg h]
  simp [c2]
  refine ACall.pure (specTextOk_c d.text (by omega)) (by simp) ?_
  by_cases c3 : textOk d.text
  rotate_left
  · have h : ¬ docOk d := fun h => c3 h.2.2.1
    simp [dc_neg c3, dc_neg h]
  simp [c3]
  by_cases c4 : d.list.length ≤ 8
  rotate_left
  · have h : ¬ docOk d := fun h => c4 h.2.2.2.1
    have c4' : 8 < (d.list.length : Int) := by omega
    simp [c4', dc_neg h]
  have c4' : ¬ 8 < (d.list.length : Int) := by omega
  simp [c4']
  refine LoopT.introG eok (fun x : Nat × List Int => x.1 ≤ d.list.length ∧ (∀ e ∈ d.list.take x.1, entryOk e) ∧ textOk x.2 ∧ applyFrom ((d.list.map Entry.o).drop x.1) x.2 = applyFrom (d.list.map Entry.o) d.text) (fun x => ⟨105, 0, [(37, .v (.int .i64 x.1)), (36, .v (.int .i64 d.list.length)), (35, .ro (d.list.map Entry.row)), (3, .ro (x.2.map intR)), (1, .p 16 b1 0)],
    [(16, .vars b1 35 [.v (.string d.name), .v (.int .i64 d.fr), .ro (d.text.map intR), .ro (d.list.map Entry.row), .ro (d.seen.map Seen.row)])]⟩) (fun x => d.list.length - x.1) (0, d.text) ⟨by simp, by simp, c3, by simp⟩ (by simp) (fun x hi => Ent.refl ?_)
  obtain ⟨i, t⟩ := x
  obtain ⟨hi1, hi2, hi3, hi4⟩ := hi
  simp only at hi1 hi2 hi3 hi4 ⊢
  by_cases hlt : i < d.list.length
  · have hm := nL_at n1 hlt
    have hmo := entryOk_n (e := d.list[i]) (by omega)
    rw [applyFrom_drop (show i < (d.list.map Entry.o).length by simpa using hlt)] at hi4
    simp only [List.getElem_map] at hi4
    have hyes := @apply_yes d.list[i].o t
    have htok := @apply_textOk d.list[i].o t
    obtain ⟨e, he⟩ : ∃ e, d.list[i] = e := ⟨_, rfl⟩
    have hmem : e ∈ d.list := he ▸ List.getElem_mem hlt
    have c5' : entryOk e → ∀ e ∈ d.list.take (i + 1), entryOk e := fun h => all_suc hlt hi2 (he ▸ h)
    rw [he] at hi4 hyes htok hm hmo
    simp [hlt, he, Entry.row]
    intro b5
    refine ACall.pure (specApply_c e.o t hmo (by have := hi3.1; omega)) (by simp) ?_
    generalize apply e.o t = A at hi4 hyes htok ⊢
    obtain ⟨u, ok⟩ := A
    simp only at hi4 hyes htok ⊢
    simp
    intro H1
    cases ok with
    | false =>
      have h : ¬ docOk d := fun h => by have := h.2.2.2.2.2.1; rw [← hi4] at this; simp at this
      simp [dc_neg h]
    | true =>
      simp only [if_true] at hi4
      have hu := (htok (hyes.1 rfl)).1
      simp
      refine ACall.pure (specEntryOk_c e (by omega)) (by simp [Entry.row]) ?_
      by_cases c5 : entryOk e
      rotate_left
      · have h : ¬ docOk d := fun h => c5 (h.2.2.2.2.1 _ hmem)
        simp [dc_neg c5, dc_neg h]
      simp [c5]
      refine ACall.pure (specTextOk_c u (by have := hu.1; omega)) (by simp) ?_
      simp [hu]
      refine Ent.frzT 3 720 (sz := 1) (off := 0) (len := u.length) (H := H1) (rows := u.map intR) (own := true) (by simp) (by simp) (by simp) (Ent.refl ⟨i + 1, u, ⟨by omega, c5' c5, hu, hi4⟩, by omega, ?_⟩)
      simp
      exact i64_suc (by omega)
  · have c5 : ∀ e ∈ d.list, entryOk e := all_end (by omega) hi2
    have c6 : (applyFrom (d.list.map Entry.o) d.text).isSome = true := by
      rw [← hi4, List.drop_eq_nil_of_le (by simp; omega)]
      simp [applyFrom]
    simp [hlt]
    have hno : ∀ i, ¬ seenAt d i → ¬ docOk d := fun i h hd => h (fun hh => hd.2.2.2.2.2.2 i hh)
    refine LoopT.intro eok (fun i : Nat => i ≤ d.seen.length ∧ ∀ j, j < i → seenAt d j) (fun i => ⟨105, 0, [(65, .v (.int .i64 i)), (64, .v (.int .i64 d.seen.length)), (63, .ro (d.seen.map Seen.row)), (1, .p 16 b1 0)],
      [(16, .vars b1 35 [.v (.string d.name), .v (.int .i64 d.fr), .ro (d.text.map intR), .ro (d.list.map Entry.row), .ro (d.seen.map Seen.row)])]⟩) (fun i => d.seen.length - i) 0 (by simp) (by simp) (fun i hi => ?_)
    by_cases hlt : i < d.seen.length
    rotate_left
    · have h : docOk d := ⟨c1, c2, c3, c4, c5, c6, fun j hj => hi.2 j (by omega) hj⟩
      simp [hlt, h]
    obtain ⟨x, hx⟩ : ∃ x, d.seen[i] = x := ⟨_, rfl⟩
    simp [hlt, hx, Seen.row]
    intro b8
    refine DrawT.quiet eok mix (by kernel_rfl) ?_
    simp
    refine ⟨_, _, l01In_c x.client 1 8, by simp, ?_⟩
    by_cases s1 : 1 ≤ x.client ∧ x.client ≤ 8
    rotate_left
    · have h := hno i (fun h => s1 (by have := (h hlt).1; rwa [hx] at this))
      simp [dc_neg s1, dc_neg h]
    simp [s1]
    have fin : (∀ h0 : 0 < i, d.seen[i - 1].client < x.client) → (1 ≤ x.seq ∧ x.seq ≤ 1000000000) → (1 ≤ x.rev ∧ x.rev ≤ headRev d) → ∀ j, j < i + 1 → seenAt d j := by
      intro h1 h2 h3 j hj
      by_cases hji : j = i
      · subst hji; intro hh; rw [hx]; exact ⟨s1, h2, h3, h1⟩
      · exact hi.2 j (by omega)
    have noq : ¬ (1 ≤ x.seq ∧ x.seq ≤ 1000000000) → ¬ docOk d := fun s2 => hno i (fun h => s2 (by have := (h hlt).2.1; rwa [hx] at this))
    have nor : ¬ (1 ≤ x.rev ∧ x.rev ≤ headRev d) → ¬ docOk d := fun s2 => hno i (fun h => s2 (by have := (h hlt).2.2.1; rwa [hx] at this))
    refine ⟨_, _, l01In_c x.seq 1 1000000000, by simp, ?_⟩
    by_cases s2 : 1 ≤ x.seq ∧ x.seq ≤ 1000000000
    rotate_left
    · simp [dc_neg s2, dc_neg (noq s2)]
    simp [s2]
    refine ⟨_, _, specHeadRev_c d, by simp [Doc.row], ?_⟩
    simp
    refine ⟨_, _, l01In_c x.rev 1 (headRev d), by simp, ?_⟩
    by_cases s3 : 1 ≤ x.rev ∧ x.rev ≤ headRev d
    rotate_left
    · simp [dc_neg s3, dc_neg (nor s3)]
    simp [s3]
    cases i with
    | zero =>
      simp
      exact ⟨1, ⟨by omega, fin (by simp) s2 s3⟩, by omega, i64_suc (n := 0) (by omega)⟩
    | succ k =>
      have ek : Go.IntKind.i64.wrap (k : Int) = k := i64_nat (by omega)
      have hk1 : k < d.seen.length := by omega
      have hk0 : (0 : Int) < (k : Int) + 1 := by omega
      obtain ⟨y, hy⟩ : ∃ y, d.seen[k] = y := ⟨_, rfl⟩
      simp [ek, hk0, hk1, hy, Seen.row]
      by_cases s4 : y.client < x.client
      rotate_left
      · have h := hno (k + 1) (fun h => s4 (by have := (h hlt).2.2.2 (by omega); rw [hx] at this; simp only [Nat.add_sub_cancel] at this; rwa [hy] at this))
        have s4' : x.client ≤ y.client := by omega
        simp [s4', dc_neg h]
      have s4' : ¬ x.client ≤ y.client := by omega
      simp [s4']
      exact ⟨k + 2, ⟨by omega, fin (fun _ => by simp only [Nat.add_sub_cancel]; rw [hy]; exact s4) s2 s3⟩, by omega, by rw [Go.IntWalk.i64_in _ (by omega)]; omega⟩
end Go.Proofs.YtdfdabjdfmamgaaGreat

namespace Go.Proofs.YtdfdabjdfmamgaaGreat
open Go.AM
set_option maxRecDepth 20000
set_option maxHeartbeats 1600000
end Go.Proofs.YtdfdabjdfmamgaaGreat

namespace Go.Proofs.YtdfdabjdfmamgaaGreat
open Go.AM
set_option maxRecDepth 20000
set_option maxHeartbeats 1600000
end Go.Proofs.YtdfdabjdfmamgaaGreat

namespace Go.Proofs.YtdfdabjdfmamgaaGreat
set_option maxRecDepth 20000
end Go.Proofs.YtdfdabjdfmamgaaGreat

namespace Go.Proofs.YtdfdabjdfmamgaaGreat
open Go.AM
set_option maxRecDepth 20000
end Go.Proofs.YtdfdabjdfmamgaaGreat

namespace Go.Proofs.YtdfdabjdfmamgaaGreat
open Go.AM
set_option maxRecDepth 20000
set_option maxHeartbeats 1600000

theorem seen_v (l : List Seen) : ∀ a ∈ l, ∀ d ∈ a.row, isV d = true := by
  intro a _ d hd
  simp [Seen.row] at hd
  rcases hd with rfl | rfl | rfl <;> rfl
theorem copyEntries_c (l : List Entry) (hl : nL nEntry l ≤ 2 ^ 30) : PureC Tryz.prog 285 [.c (.s (l.map Entry.row))] (.one (.c (.s (l.map Entry.row)) 3)) := by
  refine PureC.intro' tt_ok Tryz.func285 (by kernel_rfl) rfl rfl rfl (Nat.le_of_ble_eq_true rfl) (fun w0 base => ?_)
  have hle := nL_len hl
  simp
  refine LoopT.introG eok (fun x : Nat × Hd => x.1 ≤ l.length) (fun x => ⟨22, 0, [(8, .v (.int .i64 x.1)), (7, .v (.int .i64 l.length)), (6, .ro (l.map Entry.row)), (3, .sl 5000 x.2 3 0 x.1)], [(5000, .rows x.2 3 ((l.take x.1).map Entry.row) true)]⟩) (fun x => l.length - x.1) (0, none) (by simp) (by simp) (fun x hx => Ent.refl ?_)
  obtain ⟨i, H⟩ := x
  simp only at hx ⊢
  by_cases hlt : i < l.length
  · have hm := nL_at hl hlt
    unfold nEntry at hm
    simp [hlt, Entry.row]
    intro b5
    refine ACall.pure (copyOp_c l[i].o hm) (by simp) ?_
    simp
    intro H1
    have e1 : min i l.length = i := by omega
    simp [e1]
    intro b6
    refine ⟨by omega, fun H2 => Ent.refl ⟨i + 1, by omega, by omega, H2, ?_⟩⟩
    simp
    exact ⟨i64_suc (by omega), take_snoc (f := Entry.row) hlt⟩
  · have e : l.length = i := by omega
    simp [hlt]
    rw [List.take_of_length_le (by simp; omega)]
    simp [cut, e]
theorem l08Entry_c (e : Entry) (hl : nEntry e ≤ 2 ^ 30) : PureC Tryz.prog 328 [.agg e.row] (.one (.agg e.res)) := by
  refine PureC.intro' tt_ok Tryz.func328 (by kernel_rfl) rfl rfl rfl (Nat.le_of_ble_eq_true rfl) (fun w0 base => ?_)
  unfold nEntry at hl
  simp [Entry.row]
  intro b1 b2
  refine DrawT.introS eok mix [0, 1, 2, 3, 4, 5] [6, 7, 8] (.child 6 [true, false, false, false, false, false] [false, true, true, true, true, true] (.child 7 [false, false, true, false, true, false] [false, true, false, true, false, true] (.child 8 [false, true, false, true, false, true] [false, false, false, false, false, false] (.leaf [false, false, false, false, false, false]) .stop) .stop) .stop) (by kernel_rfl) ?_
  simp
  try intros
  refine ACall.pure (l02Copy_c e.o (by omega)) (by simp) ?_
  simp
  try intros
  simp [Entry.res]
theorem l08Entries_c (l : List Entry) (hl : nL nEntry l ≤ 2 ^ 30) : PureC Tryz.prog 282 [.c (.s (l.map Entry.row))] (.one (.c (.s (l.map Entry.row)) 3)) := by
  refine PureC.intro' tt_ok Tryz.func282 (by kernel_rfl) rfl rfl rfl (Nat.le_of_ble_eq_true rfl) (fun w0 base => ?_)
  have hle := nL_len hl
  simp
  intro b6
  refine LoopT.introG eok (fun x : Nat × Hd => x.1 ≤ l.length) (fun x => ⟨20, 0, [(9, .v (.int .i64 x.1)), (8, .v (.int .i64 l.length)), (7, .ro (l.map Entry.row)), (3, .sl 96 x.2 3 0 x.1)], [(96, .rows x.2 3 ((l.take x.1).map Entry.row) true)]⟩) (fun x => l.length - x.1) (0, some (b6, 0, 0)) (by simp) (by simp) (fun x hx => Ent.refl ?_)
  obtain ⟨i, H⟩ := x
  simp only at hx ⊢
  by_cases hlt : i < l.length
  · have hm := nL_at hl hlt
    simp [hlt, Entry.row]
    intro b5
    refine ACall.pure (l08Entry_c l[i] hm) (by simp [Entry.row]) ?_
    simp [Entry.res]
    intro H1
    have e1 : min i l.length = i := by omega
    simp [e1]
    intro b7
    refine ⟨by omega, fun H2 => Ent.refl ⟨i + 1, by omega, by omega, H2, ?_⟩⟩
    simp
    exact ⟨i64_suc (by omega), take_snoc (f := Entry.row) hlt⟩
  · have e : l.length = i := by omega
    simp [hlt]
    rw [List.take_of_length_le (by simp; omega)]
    simp [cut, e]
theorem copyDoc_c (d : Doc) (hl : nDoc d ≤ 2 ^ 30) : PureC Tryz.prog 208 [.agg d.row] (.one (.agg d.res)) := by
  refine PureC.intro' tt_ok Tryz.func208 (by kernel_rfl) rfl rfl rfl (Nat.le_of_ble_eq_true rfl) (fun w0 base => ?_)
  obtain ⟨n1, n2, n3, n4⟩ := nDoc_list hl
  simp [Doc.row]
  intro b1 b2
  refine DrawT.introS eok mix [0, 1, 2, 3, 4, 5, 7, 8, 10, 11] [6, 9, 12, 13, 14] (.child 6 [false, false, false, false, true, false, false, false, false, false] [true, true, true, true, false, true, true, true, true, true] (.child 9 [false, false, true, false, false, false, false, false, false, false] [true, true, false, true, false, true, true, true, true, true] (.child 12 [true, false, false, false, false, false, false, false, false, false] [false, true, false, true, false, true, true, true, true, true] (.child 13 [false, false, false, false, false, false, true, false, true, false] [false, true, false, true, false, true, false, true, false, true] (.child 14 [false, true, false, true, false, true, false, true, false, true] [false, false, false, false, false, false, false, false, false, false] (.leaf [false, false, false, false, false, false, false, false, false, false]) .stop) .stop) .stop) .stop) .stop) (by kernel_rfl) ?_
  simp
  try intros
  refine ACall.pure (copyInts_c d.text (by omega)) (by simp) ?_
  simp
  try intros
  refine ACall.pure (copyEntries_c d.list n1) (by simp) ?_
  simp
  try intros
  refine ⟨seen_v d.seen, by omega, fun H => ?_⟩
  simp [Doc.res]
theorem l08Copy_c (d : Doc) (hl : nDoc d ≤ 2 ^ 30) : PureC Tryz.prog 205 [.agg d.row] (.one (.agg d.res)) := by
  refine PureC.intro' tt_ok Tryz.func205 (by kernel_rfl) rfl rfl rfl (Nat.le_of_ble_eq_true rfl) (fun w0 base => ?_)
  obtain ⟨n1, n2, n3, n4⟩ := nDoc_list hl
  simp [Doc.row]
  intro b1 b2
  have h8 : d.text.length * 8 ≤ 140737488355328 := by omega
  have h24 : d.seen.length * 24 ≤ 140737488355328 := by omega
  refine DrawT.introS eok mix [0, 1, 2, 3, 5, 6, 8, 9, 12, 13] [4, 7, 10, 11, 14, 15, 16] (.child 4 [false, false, false, false, false, false, false, false, false, false] [true, true, true, true, true, true, true, true, true, true] (.child 7 [false, false, false, false, true, false, false, false, false, false] [true, true, true, true, false, true, true, true, true, true] (.child 10 [false, false, true, false, false, false, false, false, false, false] [true, true, false, true, false, true, true, true, true, true] (.child 11 [false, false, false, false, false, false, false, false, false, false] [true, true, false, true, false, true, true, true, true, true] (.child 14 [true, false, false, false, false, false, false, false, false, false] [false, true, false, true, false, true, true, true, true, true] (.child 15 [false, false, false, false, false, false, true, false, true, false] [false, true, false, true, false, true, false, true, false, true] (.child 16 [false, true, false, true, false, true, false, true, false, true] [false, false, false, false, false, false, false, false, false, false] (.leaf [false, false, false, false, false, false, false, false, false, false]) .stop) .stop) .stop) .stop) (.child 11 [false, false, false, false, false, false, false, false, false, false] [true, true, true, true, false, true, true, true, true, true] (.child 10 [false, false, true, false, false, false, false, false, false, false] [true, true, false, true, false, true, true, true, true, true] (.child 14 [true, false, false, false, false, false, false, false, false, false] [false, true, false, true, false, true, true, true, true, true] (.child 15 [false, false, false, false, false, false, true, false, true, false] [false, true, false, true, false, true, false, true, false, true] (.child 16 [false, true, false, true, false, true, false, true, false, true] [false, false, false, false, false, false, false, false, false, false] (.leaf [false, false, false, false, false, false, false, false, false, false]) .stop) .stop) .stop) .stop) .stop)) (.child 11 [false, false, false, false, false, false, false, false, false, false] [true, true, true, true, true, true, true, true, true, true] (.child 7 [false, false, false, false, true, false, false, false, false, false] [true, true, true, true, false, true, true, true, true, true] (.child 10 [false, false, true, false, false, false, false, false, false, false] [true, true, false, true, false, true, true, true, true, true] (.child 14 [true, false, false, false, false, false, false, false, false, false] [false, true, false, true, false, true, true, true, true, true] (.child 15 [false, false, false, false, false, false, true, false, true, false] [false, true, false, true, false, true, false, true, false, true] (.child 16 [false, true, false, true, false, true, false, true, false, true] [false, false, false, false, false, false, false, false, false, false] (.leaf [false, false, false, false, false, false, false, false, false, false]) .stop) .stop) .stop) .stop) .stop) .stop)) (.child 11 [false, false, false, false, false, false, false, false, false, false] [true, true, true, true, true, true, true, true, true, true] (.child 4 [false, false, false, false, false, false, false, false, false, false] [true, true, true, true, true, true, true, true, true, true] (.child 7 [false, false, false, false, true, false, false, false, false, false] [true, true, true, true, false, true, true, true, true, true] (.child 10 [false, false, true, false, false, false, false, false, false, false] [true, true, false, true, false, true, true, true, true, true] (.child 14 [true, false, false, false, false, false, false, false, false, false] [false, true, false, true, false, true, true, true, true, true] (.child 15 [false, false, false, false, false, false, true, false, true, false] [false, true, false, true, false, true, false, true, false, true] (.child 16 [false, true, false, true, false, true, false, true, false, true] [false, false, false, false, false, false, false, false, false, false] (.leaf [false, false, false, false, false, false, false, false, false, false]) .stop) .stop) .stop) .stop) .stop) .stop) .stop)) (by kernel_rfl) ?_
  simp
  try intros
  rw [Tr_child]
  refine ⟨?_, ?_⟩
  · skip
    simp
    try intros
    rw [Tr_child]
    refine ⟨?_, ?_⟩
    · skip
      simp [h8]
      try intros
      rw [Tr_child]
      refine ⟨?_, ?_⟩
      · skip
        simp [h24]
        try intros
        refine ACall.pure (l08Entries_c d.list n1) (by simp) ?_
        simp
        try intros
        simp [Doc.res]
        exact seen_v d.seen
      · skip
        simp
        try intros
        refine ACall.pure (l08Entries_c d.list n1) (by simp) ?_
        simp [h24]
        try intros
        simp [Doc.res]
        exact seen_v d.seen
    · skip
      simp [h8]
      try intros
      refine ACall.pure (l08Entries_c d.list n1) (by simp) ?_
      simp [h24]
      try intros
      simp [Doc.res]
      exact seen_v d.seen
  · skip
    simp [h8]
    try intros
    refine ACall.pure (l08Entries_c d.list n1) (by simp) ?_
    simp [h24]
    try intros
    simp [Doc.res]
    exact seen_v d.seen
end Go.Proofs.YtdfdabjdfmamgaaGreat

namespace Go.Proofs.YtdfdabjdfmamgaaGreat
open Go.AM
set_option maxRecDepth 20000
set_option maxHeartbeats 1600000
end Go.Proofs.YtdfdabjdfmamgaaGreat

namespace Go.Proofs.YtdfdabjdfmamgaaGreat
open Go.AM
set_option maxRecDepth 20000
set_option maxHeartbeats 1600000
end Go.Proofs.YtdfdabjdfmamgaaGreat

/-
  slices.Insert of one element: what its cells are, and what that is to the machine.
-/
namespace Go.AM
open Go.RowKit
/-- behind the call: the rows' block is new, or the old one; all others are as they were -/
structure Placed (w w' : World) (ob : Option Nat) (nb no nC n sz : Nat) (us : List Value) : Prop where
  at_ : ∃ cs T, w'.heap[nb]? = some (.cells cs T (0, 0)) ∧ no + nC * sz ≤ cs.size ∧ ∀ j, j < n * sz → cs.getD (no + j) undef = us.getD j undef
  le : n ≤ nC
  cap : nC ≤ maxLen
  size : w.heap.size ≤ w'.heap.size
  same : Same w w'
  blk : w.heap.size ≤ nb ∨ ob = some nb
  frame : ∀ c, c < w.heap.size → c ≠ nb → w'.heap[c]? = w.heap[c]?
/-- rows are put down in a block: a new one, or the one that they had -/
theorem Rep.place {w0 : World} {base : Bs} {st : ASt} {a : Act} {w w' : World} (hR : Rep w0 base st a w) {h' : AH} {E' : Nat → Nat → Prop} (H' : HRel base h' w E') (tr : Tr st.h.M w h'.M w) {k : Nat} {ob : Option Nat} (hob : (h'.get k).blk = ob)
    {nb no nC sz : Nat} {us : List Value} {rows : List (List CD)} (own : Bool) (hp : Placed w w' ob nb no nC rows.length sz us) (hsz : 0 < sz) (hrl : ∀ row ∈ rows, row.length = sz) (F : Nat → Nat → Nat → Prop)
    (hr : ∀ i j row d, rows[i]? = some row → row[j]? = some d → Rd w own (F i j) (us.getD (i * sz + j) undef) d) (hF : ∀ i j c, F i j c → ¬ h'.M c)
    (hown : own = true → ∀ i j c, F i j c → ¬ base.G c ∧ ∀ q, q ≠ k → ¬ E' q c) (hinj : own = true → ∀ i j i' j' c, F i j c → F i' j' c → i = i' ∧ j = j') :
    Moved w0 base st a w ((k, .rows (some (nb, no, nC)) sz rows own) :: h') w' := by
  obtain ⟨cs, T, hb, hfit, hcs⟩ := hp.at_
  have hnb : ∀ c, c < w.heap.size → c = nb → (h'.get k).blk = some c := by
    intro c hc e
    subst e
    rcases hp.blk with h | h
    · omega
    · rw [hob]; exact h
  have hfr : ∀ c, c < w.heap.size → (¬ h'.M c ∨ ∃ j, j ≠ k ∧ (h'.get j).blk = some c) → w'.heap[c]? = w.heap[c]? := by
    intro c hc h
    refine hp.frame c hc (fun e => ?_)
    have hk := hnb c hc e
    rcases h with h | ⟨j, hne, hj⟩
    · exact h ⟨k, hk⟩
    · exact hne (H'.inj _ _ _ hj hk)
  have t : Tr h'.M w (AH.M ((k, .rows (some (nb, no, nC)) sz rows own) :: h')) w' := Tr.upd H' hp.size (fun c hc hM => hfr c hc (.inl hM)) (fun c hc => by
    simp [AObj.blk] at hc
    subst hc
    rcases hp.blk with h | h
    · exact .inl h
    · exact .inr (by rw [hob]; exact h))
  have lt : ∀ i j, i < rows.length → j < sz → i * sz + j < rows.length * sz := by
    intro i j hi hj
    have := Nat.mul_le_mul_right sz (show i + 1 ≤ rows.length by omega)
    have e : (i + 1) * sz = i * sz + sz := Nat.succ_mul i sz
    omega
  refine (hR.move H' tr ⟨rfl, rfl, rfl⟩).move (H'.upd (Ek := fun c => own = true ∧ c < w.heap.size ∧ ∃ i j, F i j c) hp.size hfr (fun c hc => ?_)
    ⟨cs, T, fun i j c => c < w.heap.size ∧ F i j c, hb, hp.le, hp.cap, hsz, hfit, hrl, ?_, ?_, ?_⟩ ?_) t hp.same
  · simp [AObj.blk] at hc
    subst hc
    rcases hp.blk with h | h
    · exact ⟨hR.newer h, .inl h⟩
    · have hk : (h'.get k).blk = some nb := by rw [hob]; exact h
      exact ⟨H'.low k _ hk, .inr hk⟩
  · rintro i j c ⟨hlt, hc⟩
    exact ⟨fun ho => ⟨ho, hlt, i, j, hc⟩, fun hM => hF i j c hc (t.mono c hlt hM)⟩
  · rintro ho i j i' j' c ⟨-, hc⟩ ⟨-, hc'⟩
    exact hinj ho i j i' j' c hc hc'
  · intro i j row d hi hj
    have h1 : i < rows.length := (List.getElem?_eq_some_iff.1 hi).1
    have h2 : j < sz := by rw [← hrl _ (List.mem_of_getElem? hi)]; exact (List.getElem?_eq_some_iff.1 hj).1
    rw [hcs _ (lt i j h1 h2)]
    exact (hr i j row d hi hj).map (fun c hc hl => hfr c hl (.inl (hF i j c hc))) (fun c hc hl => ⟨hl, hc⟩)
  · rintro c ⟨ho, hlt, i, j, hc⟩
    obtain ⟨h1, h2⟩ := hown ho i j c hc
    exact ⟨h1, Nat.lt_of_lt_of_le hlt hp.size, h2, fun hM => hF i j c hc (t.mono c hlt hM)⟩
end Go.AM

namespace Go.Proofs.YtdfdabjdfmamgaaGreat
open Go.AM Go.RowKit
set_option maxRecDepth 100000
set_option maxHeartbeats 4000000
set_option linter.unusedVariables false
set_option linter.unusedSimpArgs false
end Go.Proofs.YtdfdabjdfmamgaaGreat

namespace Go.Proofs.YtdfdabjdfmamgaaGreat
open Go.AM
set_option maxRecDepth 20000
set_option maxHeartbeats 3200000
end Go.Proofs.YtdfdabjdfmamgaaGreat

namespace Go.Proofs.YtdfdabjdfmamgaaGreat
open Go.AM
set_option maxRecDepth 20000
end Go.Proofs.YtdfdabjdfmamgaaGreat

/-
  The abstract machine: the order of strings.
-/
namespace Go.AM
open Go.RowKit
def sLt (s u : ByteArray) : Prop := Op.bytesLess s.toList u.toList = true
theorem b_dc (b : Bool) : b = dc (b = true) := by cases b <;> simp [dc]
section
variable {tb : Prop} {F : AV → Prop} {s u : ByteArray}
theorem B_slss : aBin tb .lss (.string s) (.string u) F = F (.v (.bool (dc (sLt s u)))) := by
  simp only [aBin]; rw [b_dc (Op.bytesLess s.toList u.toList)]; rfl
theorem B_sgeq : aBin tb .geq (.string s) (.string u) F = F (.v (.bool (!dc (sLt s u)))) := by
  simp only [aBin]; rw [b_dc (Op.bytesLess s.toList u.toList)]; rfl
end
attribute [simp ↓] B_slss B_sgeq
end Go.AM

namespace Go.Proofs.YtdfdabjdfmamgaaGreat
open Go.AM
set_option maxRecDepth 20000
/-- the first place of a list where something holds; -1: none -/
noncomputable def fIdx {α : Type} (p : α → Prop) (l : List α) : Int :=
  open Classical in match l.findIdx? (fun a => decide (p a)) with
  | some k => k
  | none => -1
theorem fIdx_at {α : Type} {p : α → Prop} {l : List α} {i : Nat} (h : i < l.length) (hp : p l[i]) (hb : ∀ j, j < i → ∀ hj : j < l.length, ¬ p l[j]) : fIdx p l = i := by
  classical
  unfold fIdx
  have : l.findIdx? (fun a => decide (p a)) = some i := by
    rw [List.findIdx?_eq_some_iff_getElem]
    exact ⟨h, by simpa using hp, fun j hj => by simpa using hb j hj (by omega)⟩
  rw [this]
theorem fIdx_none {α : Type} {p : α → Prop} {l : List α} (hb : ∀ j, ∀ hj : j < l.length, ¬ p l[j]) : fIdx p l = -1 := by
  classical
  unfold fIdx
  have : l.findIdx? (fun a => decide (p a)) = none := by
    rw [List.findIdx?_eq_none_iff]
    intro x hx
    obtain ⟨j, hj, rfl⟩ := List.getElem_of_mem hx
    simpa using hb j hj
  rw [this]
theorem fIdx_cases {α : Type} (p : α → Prop) (l : List α) : (∃ k : Nat, ∃ h : k < l.length, fIdx p l = k ∧ p l[k] ∧ ∀ j, j < k → ∀ hj : j < l.length, ¬ p l[j]) ∨ (fIdx p l = -1 ∧ ∀ j, ∀ hj : j < l.length, ¬ p l[j]) := by
  classical
  cases e : l.findIdx? (fun a => decide (p a)) with
  | some k =>
    rw [List.findIdx?_eq_some_iff_getElem] at e
    obtain ⟨h, hp, hb⟩ := e
    have hp : p l[k] := by simpa using hp
    have hb : ∀ j, j < k → ∀ hj : j < l.length, ¬ p l[j] := fun j hj hl => by simpa using hb j hj
    exact .inl ⟨k, h, fIdx_at h hp hb, hp, hb⟩
  | none =>
    rw [List.findIdx?_eq_none_iff] at e
    have hb : ∀ j, ∀ hj : j < l.length, ¬ p l[j] := fun j hj => by simpa using e _ (List.getElem_mem hj)
    exact .inr ⟨fIdx_none hb, hb⟩
noncomputable def docIdx (l : List Doc) (name : ByteArray) : Int := fIdx (fun d => d.name = name) l
def ringOk (r : Ring) : Prop := (∀ e ∈ r.list, entryOk e) ∧ (1 ≤ r.cap ∧ r.cap ≤ 6) ∧ (1 ≤ r.next ∧ r.next ≤ 1000000000) ∧ (r.list.length : Int) ≤ r.cap ∧ ¬ (r.out = true ∧ 0 < r.list.length)
def docAt (l : List Doc) (i : Nat) : Prop := ∀ h : i < l.length, docOk l[i] ∧ ∀ _ : 0 < i, sLt l[i - 1].name l[i].name
def subAt (docs : List Doc) (last : Int) (l : List Sub) (i : Nat) : Prop := ∀ h : i < l.length, (1 ≤ l[i].id ∧ l[i].id ≤ last) ∧ ringOk l[i].r ∧ (∀ _ : 0 < i, l[i - 1].id < l[i].id) ∧
  ∃ k : Nat, ∃ hk : k < docs.length, docIdx docs l[i].doc = k ∧ (l[i].r.out = false → l[i].r.next + l[i].r.list.length = headRev docs[k] + 1)
def hubOk (h : Hub) : Prop := h.docs.length ≤ 5 ∧ h.subs.length ≤ 6 ∧ (0 ≤ h.last ∧ h.last ≤ 1000000000) ∧ (∀ i, docAt h.docs i) ∧ ∀ i, subAt h.docs h.last h.subs i
def Answer.zero : Answer := ⟨0, 0, [], []⟩
end Go.Proofs.YtdfdabjdfmamgaaGreat

namespace Go.Proofs.YtdfdabjdfmamgaaGreat
open Go.AM
set_option maxRecDepth 20000
def Ring.zero : Ring := ⟨0, 0, false, []⟩
def Hub.zero : Hub := ⟨false, [], [], 0⟩
def Wld.zero : Wld := ⟨Hub.zero, [], [], [], 0⟩
open Classical in
noncomputable def fWorldNew (h : Hub) (n : Int) : Wld × Bool := if hubOk h ∧ (1 ≤ n ∧ n ≤ 4) then (⟨h, List.replicate n.toNat (-1), [], [], 0⟩, true) else (Wld.zero, false)
theorem fWorldNew_b (h : Hub) (_ : h.fits) (hn : nHub h ≤ 2 ^ 20) (n : Int) (_ : i64r n) : nWorld (fWorldNew h n).1 ≤ 2 ^ 36 := by
  unfold fWorldNew
  split
  · rename_i c
    simp [nWorld, nL, sumN]; omega
  · simp [Wld.zero, Hub.zero, nWorld, nHub, nL, sumN]
end Go.Proofs.YtdfdabjdfmamgaaGreat

namespace Go.Proofs.YtdfdabjdfmamgaaGreat
open Go.AM
set_option maxRecDepth 20000
set_option maxHeartbeats 3200000

theorem implHubDoc_c (h : Hub) (hl : nHub h ≤ 2 ^ 40) (name : ByteArray) : PureC Tryz.prog 189 [.agg h.row, .c (.v (.string name))] (.one (.c (vi (docIdx h.docs name)) 1)) := by
  refine PureC.intro' tt_ok Tryz.func189 (by kernel_rfl) rfl rfl rfl (Nat.le_of_ble_eq_true rfl) (fun w0 base => ?_)
  obtain ⟨sh, l, subs, last⟩ := h
  unfold nHub at hl
  simp only at hl
  have hle := nL_len (f := nDoc) (B := 2 ^ 40) (l := l) (by omega)
  simp [Hub.row]
  intro b2 b3
  refine ACall.inline tt_ok Tryz.func271 (by kernel_rfl) rfl rfl rfl (Nat.le_of_ble_eq_true rfl) 20000 (fun w1 F => ?_)
  simp
  refine LoopT.intro eok (fun i : Nat => i ≤ l.length ∧ ∀ j, j < i → ∀ hj : j < l.length, ¬ l[j].name = name) (fun i => ⟨19, 20000, [(8, .v (.int .i64 i)), (7, .v (.int .i64 l.length)), (0, .ro (l.map Doc.row)), (1, .clo 272 [.p 48 b3 0])],
    [(48, .vars b3 9 [.v (.string name)])]⟩) (fun i => l.length - i) 0 (by simp) (by simp) (fun i hi => ?_)
  by_cases hlt : i < l.length
  · simp [hlt]
    refine ACall.inline tt_ok Tryz.func272 (by kernel_rfl) rfl rfl rfl (Nat.le_of_ble_eq_true rfl) 40000 (fun w2 F2 => ?_)
    simp [Doc.row]
    intro b
    by_cases c : l[i].name = name
    · have e : docIdx l name = i := fIdx_at hlt c hi.2
      simp [c, e]
    · simp [c]
      exact ⟨i + 1, ⟨by omega, fun j hj hjl => by
        by_cases hji : j = i
        · subst hji; exact c
        · exact hi.2 j (by omega) hjl⟩, by omega, i64_suc (by omega)⟩
  · have e : docIdx l name = -1 := fIdx_none (fun j hj => hi.2 j (by omega) hj)
    simp [hlt, e]
theorem specHubDoc_c (h : Hub) (hl : nHub h ≤ 2 ^ 40) (name : ByteArray) : PureC Tryz.prog 186 [.agg h.row, .c (.v (.string name))] (.one (.c (vi (docIdx h.docs name)) 1)) := by
  refine PureC.intro' tt_ok Tryz.func186 (by kernel_rfl) rfl rfl rfl (Nat.le_of_ble_eq_true rfl) (fun w0 base => ?_)
  obtain ⟨sh, l, subs, last⟩ := h
  unfold nHub at hl
  simp only at hl
  have hle := nL_len (f := nDoc) (B := 2 ^ 40) (l := l) (by omega)
  simp [Hub.row]
  intro b2
  refine LoopT.intro eok (fun i : Nat => i ≤ l.length ∧ ∀ j, j < i → ∀ hj : j < l.length, ¬ l[j].name = name) (fun i => ⟨21, 0, [(10, .v (.int .i64 i)), (9, .v (.int .i64 l.length)), (8, .ro (l.map Doc.row)), (1, .v (.string name))], []⟩) (fun i => l.length - i) 0 (by simp) (by simp) (fun i hi => ?_)
  by_cases hlt : i < l.length
  · simp [hlt, Doc.row]
    intro b
    by_cases c : l[i].name = name
    · have e : docIdx l name = i := fIdx_at hlt c hi.2
      simp [c, e]
    · simp [c]
      exact ⟨i + 1, ⟨by omega, fun j hj hjl => by
        by_cases hji : j = i
        · subst hji; exact c
        · exact hi.2 j (by omega) hjl⟩, by omega, i64_suc (by omega)⟩
  · have e : docIdx l name = -1 := fIdx_none (fun j hj => hi.2 j (by omega) hj)
    simp [hlt, e]
theorem implRingOk_c (r : Ring) (hl : nRing r ≤ 2 ^ 40) : PureC Tryz.prog 190 [.agg r.row] (.one (.c (vb (ringOk r)) 1)) := by
  refine PureC.intro' tt_ok Tryz.func190 (by kernel_rfl) rfl rfl rfl (Nat.le_of_ble_eq_true rfl) (fun w0 base => ?_)
  obtain ⟨cp, nx, out, l⟩ := r
  unfold nRing at hl
  simp only at hl
  have hle := nL_len hl
  simp [Ring.row]
  intro b1
  refine ACall.pure (within_c cp 1 6) (by simp) ?_
  by_cases c1 : 1 ≤ cp ∧ cp ≤ 6
  rotate_left
  · have h : ¬ ringOk ⟨cp, nx, out, l⟩ := fun h => c1 h.2.1
    simp [dc_neg c1, dc_neg h]
  simp [c1]
  refine ACall.pure (within_c nx 1 1000000000) (by simp) ?_
  by_cases c2 : 1 ≤ nx ∧ nx ≤ 1000000000
  rotate_left
  · have h : ¬ ringOk ⟨cp, nx, out, l⟩ := fun h => c2 h.2.2.1
    simp [dc_neg c2, dc_neg h]
  simp [c2]
  by_cases c3 : (l.length : Int) ≤ cp
  rotate_left
  · have h : ¬ ringOk ⟨cp, nx, out, l⟩ := fun h => c3 h.2.2.2.1
    have c3' : cp < (l.length : Int) := by omega
    simp [c3', dc_neg h]
  have c3' : ¬ cp < (l.length : Int) := by omega
  simp [c3']
  have hcase : out = false ∨ (out = true ∧ l = []) ∨ (out = true ∧ 0 < l.length) := by
    cases out with
    | false => exact .inl rfl
    | true =>
      cases l with
      | nil => exact .inr (.inl ⟨rfl, rfl⟩)
      | cons a l => exact .inr (.inr ⟨rfl, by simp⟩)
  rcases hcase with rfl | ⟨rfl, rfl⟩ | ⟨rfl, c4⟩
  · simp
    refine LoopT.intro eok (fun i : Nat => i ≤ l.length ∧ ∀ e ∈ l.take i, entryOk e) (fun i => ⟨44, 0, [(36, .v (.int .i64 i)), (35, .v (.int .i64 l.length)), (34, .ro (l.map Entry.row))], []⟩) (fun i => l.length - i) 0 (by simp) (by simp) (fun i hi => ?_)
    by_cases hlt : i < l.length
    · have hm := nL_at hl hlt
      simp [hlt, Entry.row]
      intro b4
      refine ACall.pure (implEntryOk_c l[i] (by omega)) (by simp [Entry.row]) ?_
      by_cases c5 : entryOk l[i]
      · simp [c5]
        exact ⟨i + 1, ⟨by omega, all_suc hlt hi.2 c5⟩, by omega, i64_suc (by omega)⟩
      · have h : ¬ ringOk ⟨cp, nx, false, l⟩ := fun h => c5 (h.1 _ (List.getElem_mem hlt))
        simp [dc_neg c5, dc_neg h]
    · have h : ringOk ⟨cp, nx, false, l⟩ := ⟨all_end (l := l) (by omega) hi.2, c1, c2, c3, by simp⟩
      simp [hlt, h]
  · have h : ringOk ⟨cp, nx, true, []⟩ := ⟨by simp, c1, c2, c3, by simp⟩
    simp
    refine LoopT.intro eok (fun i : Nat => i = 0) (fun i => ⟨44, 0, [(36, .v (.int .i64 0)), (35, .v (.int .i64 0)), (34, .ro ([] : List (List CD)))], []⟩) (fun i => 0) 0 (by simp) (by simp) (fun i hi => ?_)
    simp [h]
  · have h : ¬ ringOk ⟨cp, nx, true, l⟩ := fun h => h.2.2.2.2 ⟨rfl, c4⟩
    have c4' : 0 < (l.length : Int) := by omega
    simp [c4, dc_neg h]
theorem specRingOk_c (r : Ring) (hl : nRing r ≤ 2 ^ 40) : PureC Tryz.prog 187 [.agg r.row] (.one (.c (vb (ringOk r)) 1)) := by
  refine PureC.intro' tt_ok Tryz.func187 (by kernel_rfl) rfl rfl rfl (Nat.le_of_ble_eq_true rfl) (fun w0 base => ?_)
  obtain ⟨cp, nx, out, l⟩ := r
  unfold nRing at hl
  simp only at hl
  have hle := nL_len hl
  simp [Ring.row]
  intro b1
  refine LoopT.intro eok (fun i : Nat => i ≤ l.length ∧ ∀ e ∈ l.take i, entryOk e) (fun i => ⟨43, 0, [(8, .v (.int .i64 i)), (7, .v (.int .i64 l.length)), (6, .ro (l.map Entry.row)), (1, .p 16 b1 0)],
    [(16, .vars b1 220 [.v (.int .i64 cp), .v (.int .i64 nx), .v (.bool out), .ro (l.map Entry.row)])]⟩) (fun i => l.length - i) 0 (by simp) (by simp) (fun i hi => ?_)
  by_cases hlt : i < l.length
  · have hm := nL_at hl hlt
    simp [hlt, Entry.row]
    intro b4
    refine ACall.pure (specEntryOk_c l[i] (by omega)) (by simp [Entry.row]) ?_
    by_cases c5 : entryOk l[i]
    · simp [c5]
      exact ⟨i + 1, ⟨by omega, all_suc hlt hi.2 c5⟩, by omega, i64_suc (by omega)⟩
    · have h : ¬ ringOk ⟨cp, nx, out, l⟩ := fun h => c5 (h.1 _ (List.getElem_mem hlt))
      simp [dc_neg c5, dc_neg h]
  have c0 : ∀ e ∈ l, entryOk e := all_end (by omega) hi.2
  simp [hlt]
  refine ACall.pure (l01In_c cp 1 6) (by simp) ?_
  by_cases c1 : 1 ≤ cp ∧ cp ≤ 6
  rotate_left
  · have h : ¬ ringOk ⟨cp, nx, out, l⟩ := fun h => c1 h.2.1
    simp [dc_neg c1, dc_neg h]
  simp [c1]
  refine ACall.pure (l01In_c nx 1 1000000000) (by simp) ?_
  by_cases c2 : 1 ≤ nx ∧ nx ≤ 1000000000
  rotate_left
  · have h : ¬ ringOk ⟨cp, nx, out, l⟩ := fun h => c2 h.2.2.1
    simp [dc_neg c2, dc_neg h]
  simp [c2]
  by_cases c3 : (l.length : Int) ≤ cp
  rotate_left
  · have h : ¬ ringOk ⟨cp, nx, out, l⟩ := fun h => c3 h.2.2.2.1
    simp [c3, dc_neg h]
  simp [c3]
  cases out with
  | false =>
    have h : ringOk ⟨cp, nx, false, l⟩ := ⟨c0, c1, c2, c3, by simp⟩
    simp [h]
  | true =>
    by_cases c4 : (l.length : Int) = 0
    · have h : ringOk ⟨cp, nx, true, l⟩ := ⟨c0, c1, c2, c3, fun h => by have := h.2; simp only at this; omega⟩
      simp [c4, h]
    · have h : ¬ ringOk ⟨cp, nx, true, l⟩ := fun h => h.2.2.2.2 ⟨rfl, by simp only; omega⟩
      have c4' : ¬ l = [] := fun h => c4 (by rw [h]; rfl)
      simp [c4', dc_neg h]
end Go.Proofs.YtdfdabjdfmamgaaGreat

