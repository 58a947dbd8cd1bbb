import Derived.Test.YtdfdabjdfmamgaaGreatPC
import Derived.Test.YtdfdabjdfmamgaaGreatNA
import Derived.Test.YtdfdabjdfmamgaaGreatPB
import Derived.Test.YtdfdabjdfmamgaaGreatMF
import Derived.Lib.AppendZerosOnto
import Derived.Lib.Overlaps
import Derived.Laws.IdiomCopy
import Derived.Laws.Externs
import Derived.Test.YtdfdabjdfmamgaaGreatMG
import Derived.Shelf.RegionOpenPlain
import Derived.Test.YtdfdabjdfmamgaaGreatPA
namespace Go.Proofs.YtdfdabjdfmamgaaGreat
open Go.AM
set_option maxRecDepth 20000
set_option maxHeartbeats 1600000
theorem implNetOk_i (n : Net) (hl : nNet n ≤ 2 ^ 30) : PureC Tryz.prog 94 [.agg n.row] (.one (.c (vb (netOk n)) 1)) := by
  refine PureC.intro' tt_ok Tryz.func94 (by kernel_rfl) rfl rfl rfl (Nat.le_of_ble_eq_true rfl) (fun w0 base => ?_)
  obtain ⟨d, l⟩ := n
  unfold nNet at hl
  simp only at hl
  have hle := nL_len (f := nRep) (B := 2 ^ 40) (l := l) (by omega)
  simp [Net.row]
  intro b1
  refine ACall.pure (implDocOk_c d (by omega)) (by simp [Doc.row]) ?_
  by_cases c1 : docOk d
  rotate_left
  · have h : ¬ netOk ⟨d, l⟩ := fun h => c1 h.1
    simp [dc_neg c1, dc_neg h]
  simp [c1]
  refine ACall.pure (within_c l.length 1 4) (by simp) ?_
  by_cases c2 : 1 ≤ l.length ∧ l.length ≤ 4
  rotate_left
  · have h : ¬ netOk ⟨d, l⟩ := fun h => c2 h.2.1
    have c2' : ¬ (1 ≤ (l.length : Int) ∧ (l.length : Int) ≤ 4) := by omega
    simp [dc_neg c2', dc_neg h]
  have c2' : 1 ≤ (l.length : Int) ∧ (l.length : Int) ≤ 4 := by omega
  have hh := docOk_head c1
  simp [c2']
  refine LoopT.introG eok (fun i : Nat => i ≤ l.length ∧ ∀ j, j < i → ∀ h : j < l.length, repAt d j l[j]) (fun i => ⟨98, 0, [(23, .v (.int .i64 i)), (22, .v (.int .i64 l.length)), (21, .ro (l.map Rep.row)), (1, .p 16 b1 0)],
    [(16, .vars b1 38 [.v (.string d.name), .v (.int .i64 d.fr), .ro (d.text.map intR), .ro (d.list.map Entry.row), .ro (d.seen.map Seen.row), .ro (l.map Rep.row)])]⟩) (fun i => l.length - i) 0 (by simp) (by simp) (fun i hi => Ent.refl ?_)
  by_cases hlt : i < l.length
  rotate_left
  · have h : netOk ⟨d, l⟩ := ⟨c1, c2, fun j hj => hi.2 j (by simp only at hj; omega) hj⟩
    simp [hlt, h]
  have hm := nL_mem (f := nRep) (B := 2 ^ 30) (l := l) (by omega) (List.getElem_mem hlt)
  obtain ⟨r, hr⟩ : ∃ r, l[i] = r := ⟨_, rfl⟩
  have hno : ¬ repAt d i r → ¬ netOk ⟨d, l⟩ := fun h hn => h (hr ▸ hn.2.2 i hlt)
  rw [hr] at hm
  have ew : Go.IntKind.i64.wrap ((i : Int) + 1) = (i : Int) + 1 := Go.IntWalk.i64_in _ (by omega)
  have hdn : nDoc d ≤ 2 ^ 30 := by omega
  have htext : r.text.length ≤ 2 ^ 30 := by unfold nRep at hm; omega
  simp [hlt, hr, Rep.row]
  intro b4
  refine DrawT.quiet eok mix (by kernel_rfl) ?_
  simp
  refine ⟨_, _, implRepOk_i r (by omega), by simp [Rep.row], ?_⟩
  by_cases s1 : repOk r
  rotate_left
  · simp [dc_neg s1, dc_neg (hno (fun h => s1 h.1))]
  simp [s1, ew]
  by_cases s2 : r.client = i + 1
  rotate_left
  · simp [s2, ew, dc_neg (hno (fun h => s2 h.2.1))]
  simp [s2, ew]
  refine ⟨_, _, implHeadRev_c d, by simp [Doc.row], ?_⟩
  by_cases s3 : r.rev ≤ headRev d
  rotate_left
  · have s3' : headRev d < r.rev := by omega
    simp [s3', dc_neg (hno (fun h => s3 h.2.2.1))]
  have s3' : ¬ headRev d < r.rev := by omega
  simp [s3']
  refine ACall.pure (implTextAt_c d hdn r.rev) (by simp [Doc.row]) ?_
  have htl := textAt_len d r.rev
  have hra : repAt d i r ↔ ((textAt d r.rev).2 = true → (textAt d r.rev).1 = r.text) ∧ seqOk r (seenOf d ((i : Int) + 1)).1 := by
    rw [← s2]
    exact ⟨fun h => h.2.2.2, fun h => ⟨s1, s2, s3, h⟩⟩
  have hsb := seenOf_b c1 ((i : Int) + 1)
  have fin : repAt d i r → ∀ j, j < i + 1 → ∀ h : j < l.length, repAt d j l[j] := by
    intro h j hj hjl
    by_cases hji : j = i
    · subst hji; rw [hr]; exact h
    · exact hi.2 j (by omega) hjl
  have hseq := s1.2.1
  generalize textAt d r.rev = T at htl hra ⊢
  obtain ⟨t, ok⟩ := T
  simp only at htl hra ⊢
  simp
  intro H1
  have hsn : ∀ S : Seen, 0 ≤ S.seq → S.seq ≤ 1000000000 → Go.IntKind.i64.wrap (S.seq + 1) = S.seq + 1 := fun S h1 h2 => Go.IntWalk.i64_in _ (by omega)
  have hcase : ok = false ∨ (ok = true ∧ t ≠ r.text) ∨ (ok = true ∧ t = r.text) := by
    cases ok with
    | false => exact .inl rfl
    | true => by_cases h : t = r.text
              · exact .inr (.inr ⟨rfl, h⟩)
              · exact .inr (.inl ⟨rfl, h⟩)
  rcases hcase with rfl | ⟨rfl, ht⟩ | ⟨rfl, ht⟩
  · simp
    refine ACall.pure (implSeenOf_c d (by omega) ((i : Int) + 1)) (by simp [Doc.row, s2]) ?_
    generalize seenOf d ((i : Int) + 1) = Q at hra hsb ⊢
    obtain ⟨sn, so⟩ := Q
    simp only at hra hsb ⊢
    have e1 := hsn sn hsb.1 hsb.2.1
    simp [Seen.res]
    intro b7
    by_cases q1 : r.seq = sn.seq
    · by_cases q2 : r.has = true
      · by_cases q3 : sn.rev ≤ r.rev
        · have h := hno (fun h => by have := (hra.1 h).2; unfold seqOk at this; rw [if_pos q1] at this; exact this ⟨q2, q3⟩)
          simp [q1, q2, q3, dc_neg h]
        · have h : repAt d i r := hra.2 ⟨fun h => by simp at h, by unfold seqOk; rw [if_pos q1]; exact fun h => q3 h.2⟩
          simp [q1, q2, q3]
          refine Ent.refl ⟨i + 1, ⟨by omega, fin h⟩, by omega, ?_⟩
          simp
          exact ew
      · have q2' : r.has = false := by simpa using q2
        have h : repAt d i r := hra.2 ⟨fun h => by simp at h, by unfold seqOk; rw [if_pos q1]; exact fun h => q2 h.1⟩
        simp [q1, q2']
        refine Ent.refl ⟨i + 1, ⟨by omega, fin h⟩, by omega, ?_⟩
        simp
        exact ew
    · by_cases q2 : r.has = true
      · by_cases q3 : r.seq = sn.seq + 1
        · have h : repAt d i r := hra.2 ⟨fun h => by simp at h, by unfold seqOk; rw [if_neg q1]; exact ⟨q2, q3⟩⟩
          have q4 : ¬ sn.seq + 1 = sn.seq := by omega
          simp [q2, q3, e1, q4]
          refine Ent.refl ⟨i + 1, ⟨by omega, fin h⟩, by omega, ?_⟩
          simp
          exact ew
        · have h := hno (fun h => by have := (hra.1 h).2; unfold seqOk at this; rw [if_neg q1] at this; exact q3 this.2)
          simp [q1, q2, q3, e1, dc_neg h]
      · have q2' : r.has = false := by simpa using q2
        have h := hno (fun h => by have := (hra.1 h).2; unfold seqOk at this; rw [if_neg q1] at this; exact q2 this.1)
        simp [q1, q2', dc_neg h]
  · simp
    refine ACall.pure (slEqInt_c t r.text (by omega)) (by simp) ?_
    have h := hno (fun h => ht ((hra.1 h).1 rfl))
    simp [ht, dc_neg h]
  · simp
    refine ACall.pure (slEqInt_c t r.text (by omega)) (by simp) ?_
    simp [ht]
    refine ACall.pure (implSeenOf_c d (by omega) ((i : Int) + 1)) (by simp [Doc.row, s2]) ?_
    generalize seenOf d ((i : Int) + 1) = Q at hra hsb ⊢
    obtain ⟨sn, so⟩ := Q
    simp only at hra hsb ⊢
    have e1 := hsn sn hsb.1 hsb.2.1
    simp [Seen.res]
    intro b7
    by_cases q1 : r.seq = sn.seq
    · by_cases q2 : r.has = true
      · by_cases q3 : sn.rev ≤ r.rev
        · have h := hno (fun h => by have := (hra.1 h).2; unfold seqOk at this; rw [if_pos q1] at this; exact this ⟨q2, q3⟩)
          simp [q1, q2, q3, dc_neg h]
        · have h : repAt d i r := hra.2 ⟨fun _ => ht, by unfold seqOk; rw [if_pos q1]; exact fun h => q3 h.2⟩
          simp [q1, q2, q3]
          refine Ent.refl ⟨i + 1, ⟨by omega, fin h⟩, by omega, ?_⟩
          simp
          exact ew
      · have q2' : r.has = false := by simpa using q2
        have h : repAt d i r := hra.2 ⟨fun _ => ht, by unfold seqOk; rw [if_pos q1]; exact fun h => q2 h.1⟩
        simp [q1, q2']
        refine Ent.refl ⟨i + 1, ⟨by omega, fin h⟩, by omega, ?_⟩
        simp
        exact ew
    · by_cases q2 : r.has = true
      · by_cases q3 : r.seq = sn.seq + 1
        · have h : repAt d i r := hra.2 ⟨fun _ => ht, by unfold seqOk; rw [if_neg q1]; exact ⟨q2, q3⟩⟩
          have q4 : ¬ sn.seq + 1 = sn.seq := by omega
          simp [q2, q3, e1, q4]
          refine Ent.refl ⟨i + 1, ⟨by omega, fin h⟩, by omega, ?_⟩
          simp
          exact ew
        · have h := hno (fun h => by have := (hra.1 h).2; unfold seqOk at this; rw [if_neg q1] at this; exact q3 this.2)
          simp [q1, q2, q3, e1, dc_neg h]
      · have q2' : r.has = false := by simpa using q2
        have h := hno (fun h => by have := (hra.1 h).2; unfold seqOk at this; rw [if_neg q1] at this; exact q2 this.1)
        simp [q1, q2', dc_neg h]
theorem specNetOk_i (n : Net) (hl : nNet n ≤ 2 ^ 30) : PureC Tryz.prog 92 [.agg n.row] (.one (.c (vb (netOk n)) 1)) := by
  refine PureC.intro' tt_ok Tryz.func92 (by kernel_rfl) rfl rfl rfl (Nat.le_of_ble_eq_true rfl) (fun w0 base => ?_)
  obtain ⟨d, l⟩ := n
  unfold nNet at hl
  simp only at hl
  have hle := nL_len (f := nRep) (B := 2 ^ 40) (l := l) (by omega)
  simp [Net.row]
  intro b1
  refine ACall.pure (specDocOk_c d (by omega)) (by simp [Doc.row]) ?_
  by_cases c1 : docOk d
  rotate_left
  · have h : ¬ netOk ⟨d, l⟩ := fun h => c1 h.1
    simp [dc_neg c1, dc_neg h]
  simp [c1]
  refine ACall.pure (l01In_c l.length 1 4) (by simp) ?_
  by_cases c2 : 1 ≤ l.length ∧ l.length ≤ 4
  rotate_left
  · have h : ¬ netOk ⟨d, l⟩ := fun h => c2 h.2.1
    have c2' : ¬ (1 ≤ (l.length : Int) ∧ (l.length : Int) ≤ 4) := by omega
    simp [dc_neg c2', dc_neg h]
  have c2' : 1 ≤ (l.length : Int) ∧ (l.length : Int) ≤ 4 := by omega
  have hh := docOk_head c1
  simp [c2']
  refine LoopT.introG eok (fun i : Nat => i ≤ l.length ∧ ∀ j, j < i → ∀ h : j < l.length, repAt d j l[j]) (fun i => ⟨107, 0, [(23, .v (.int .i64 i)), (22, .v (.int .i64 l.length)), (21, .ro (l.map Rep.row)), (1, .p 16 b1 0)],
    [(16, .vars b1 38 [.v (.string d.name), .v (.int .i64 d.fr), .ro (d.text.map intR), .ro (d.list.map Entry.row), .ro (d.seen.map Seen.row), .ro (l.map Rep.row)])]⟩) (fun i => l.length - i) 0 (by simp) (by simp) (fun i hi => Ent.refl ?_)
  by_cases hlt : i < l.length
  rotate_left
  · have h : netOk ⟨d, l⟩ := ⟨c1, c2, fun j hj => hi.2 j (by simp only at hj; omega) hj⟩
    simp [hlt, h]
  have hm := nL_mem (f := nRep) (B := 2 ^ 30) (l := l) (by omega) (List.getElem_mem hlt)
  obtain ⟨r, hr⟩ : ∃ r, l[i] = r := ⟨_, rfl⟩
  have hno : ¬ repAt d i r → ¬ netOk ⟨d, l⟩ := fun h hn => h (hr ▸ hn.2.2 i hlt)
  rw [hr] at hm
  have ew : Go.IntKind.i64.wrap ((i : Int) + 1) = (i : Int) + 1 := Go.IntWalk.i64_in _ (by omega)
  have hdn : nDoc d ≤ 2 ^ 30 := by omega
  have htext : r.text.length ≤ 2 ^ 30 := by unfold nRep at hm; omega
  simp [hlt, hr, Rep.row]
  intro b4
  refine DrawT.quiet eok mix (by kernel_rfl) ?_
  simp
  refine ⟨_, _, specRepOk_i r (by omega), by simp [Rep.row], ?_⟩
  by_cases s1 : repOk r
  rotate_left
  · simp [dc_neg s1, dc_neg (hno (fun h => s1 h.1))]
  simp [s1, ew]
  by_cases s2 : r.client = i + 1
  rotate_left
  · simp [s2, ew, dc_neg (hno (fun h => s2 h.2.1))]
  simp [s2, ew]
  refine ⟨_, _, specHeadRev_c d, by simp [Doc.row], ?_⟩
  by_cases s3 : r.rev ≤ headRev d
  rotate_left
  · have s3' : headRev d < r.rev := by omega
    simp [s3', dc_neg (hno (fun h => s3 h.2.2.1))]
  have s3' : ¬ headRev d < r.rev := by omega
  simp [s3']
  refine ACall.pure (specTextAt_c d hdn r.rev) (by simp [Doc.row]) ?_
  have htl := textAt_len d r.rev
  have hra : repAt d i r ↔ ((textAt d r.rev).2 = true → (textAt d r.rev).1 = r.text) ∧ seqOk r (seenOf d ((i : Int) + 1)).1 := by
    rw [← s2]
    exact ⟨fun h => h.2.2.2, fun h => ⟨s1, s2, s3, h⟩⟩
  have hsb := seenOf_b c1 ((i : Int) + 1)
  have fin : repAt d i r → ∀ j, j < i + 1 → ∀ h : j < l.length, repAt d j l[j] := by
    intro h j hj hjl
    by_cases hji : j = i
    · subst hji; rw [hr]; exact h
    · exact hi.2 j (by omega) hjl
  have hseq := s1.2.1
  generalize textAt d r.rev = T at htl hra ⊢
  obtain ⟨t, ok⟩ := T
  simp only at htl hra ⊢
  simp
  intro H1
  have hsn : ∀ S : Seen, 0 ≤ S.seq → S.seq ≤ 1000000000 → Go.IntKind.i64.wrap (S.seq + 1) = S.seq + 1 := fun S h1 h2 => Go.IntWalk.i64_in _ (by omega)
  have hcase : ok = false ∨ (ok = true ∧ t ≠ r.text) ∨ (ok = true ∧ t = r.text) := by
    cases ok with
    | false => exact .inl rfl
    | true => by_cases h : t = r.text
              · exact .inr (.inr ⟨rfl, h⟩)
              · exact .inr (.inl ⟨rfl, h⟩)
  rcases hcase with rfl | ⟨rfl, ht⟩ | ⟨rfl, ht⟩
  · simp
    refine ACall.pure (specSeenOf_c d (by omega) ((i : Int) + 1)) (by simp [Doc.row, s2]) ?_
    generalize seenOf d ((i : Int) + 1) = Q at hra hsb ⊢
    obtain ⟨sn, so⟩ := Q
    simp only at hra hsb ⊢
    have e1 := hsn sn hsb.1 hsb.2.1
    simp [Seen.res]
    intro b7
    by_cases q1 : r.seq = sn.seq
    · by_cases q2 : r.has = true
      · by_cases q3 : sn.rev ≤ r.rev
        · have h := hno (fun h => by have := (hra.1 h).2; unfold seqOk at this; rw [if_pos q1] at this; exact this ⟨q2, q3⟩)
          simp [q1, q2, q3, dc_neg h]
        · have h : repAt d i r := hra.2 ⟨fun h => by simp at h, by unfold seqOk; rw [if_pos q1]; exact fun h => q3 h.2⟩
          simp [q1, q2, q3]
          refine Ent.refl ⟨i + 1, ⟨by omega, fin h⟩, by omega, ?_⟩
          simp
          exact ew
      · have q2' : r.has = false := by simpa using q2
        have h : repAt d i r := hra.2 ⟨fun h => by simp at h, by unfold seqOk; rw [if_pos q1]; exact fun h => q2 h.1⟩
        simp [q1, q2']
        refine Ent.refl ⟨i + 1, ⟨by omega, fin h⟩, by omega, ?_⟩
        simp
        exact ew
    · by_cases q2 : r.has = true
      · by_cases q3 : r.seq = sn.seq + 1
        · have h : repAt d i r := hra.2 ⟨fun h => by simp at h, by unfold seqOk; rw [if_neg q1]; exact ⟨q2, q3⟩⟩
          have q4 : ¬ sn.seq + 1 = sn.seq := by omega
          simp [q2, q3, e1, q4]
          refine Ent.refl ⟨i + 1, ⟨by omega, fin h⟩, by omega, ?_⟩
          simp
          exact ew
        · have h := hno (fun h => by have := (hra.1 h).2; unfold seqOk at this; rw [if_neg q1] at this; exact q3 this.2)
          simp [q1, q2, q3, e1, dc_neg h]
      · have q2' : r.has = false := by simpa using q2
        have h := hno (fun h => by have := (hra.1 h).2; unfold seqOk at this; rw [if_neg q1] at this; exact q2 this.1)
        simp [q1, q2', dc_neg h]
  · simp
    refine ACall.pure (signsSame_c t r.text (by omega)) (by simp) ?_
    have h := hno (fun h => ht ((hra.1 h).1 rfl))
    simp [ht, dc_neg h]
  · simp
    refine ACall.pure (signsSame_c t r.text (by omega)) (by simp) ?_
    simp [ht]
    refine ACall.pure (specSeenOf_c d (by omega) ((i : Int) + 1)) (by simp [Doc.row, s2]) ?_
    generalize seenOf d ((i : Int) + 1) = Q at hra hsb ⊢
    obtain ⟨sn, so⟩ := Q
    simp only at hra hsb ⊢
    have e1 := hsn sn hsb.1 hsb.2.1
    simp [Seen.res]
    intro b7
    by_cases q1 : r.seq = sn.seq
    · by_cases q2 : r.has = true
      · by_cases q3 : sn.rev ≤ r.rev
        · have h := hno (fun h => by have := (hra.1 h).2; unfold seqOk at this; rw [if_pos q1] at this; exact this ⟨q2, q3⟩)
          simp [q1, q2, q3, dc_neg h]
        · have h : repAt d i r := hra.2 ⟨fun _ => ht, by unfold seqOk; rw [if_pos q1]; exact fun h => q3 h.2⟩
          simp [q1, q2, q3]
          refine Ent.refl ⟨i + 1, ⟨by omega, fin h⟩, by omega, ?_⟩
          simp
          exact ew
      · have q2' : r.has = false := by simpa using q2
        have h : repAt d i r := hra.2 ⟨fun _ => ht, by unfold seqOk; rw [if_pos q1]; exact fun h => q2 h.1⟩
        simp [q1, q2']
        refine Ent.refl ⟨i + 1, ⟨by omega, fin h⟩, by omega, ?_⟩
        simp
        exact ew
    · by_cases q2 : r.has = true
      · by_cases q3 : r.seq = sn.seq + 1
        · have h : repAt d i r := hra.2 ⟨fun _ => ht, by unfold seqOk; rw [if_neg q1]; exact ⟨q2, q3⟩⟩
          have q4 : ¬ sn.seq + 1 = sn.seq := by omega
          simp [q2, q3, e1, q4]
          refine Ent.refl ⟨i + 1, ⟨by omega, fin h⟩, by omega, ?_⟩
          simp
          exact ew
        · have h := hno (fun h => by have := (hra.1 h).2; unfold seqOk at this; rw [if_neg q1] at this; exact q3 this.2)
          simp [q1, q2, q3, e1, dc_neg h]
      · have q2' : r.has = false := by simpa using q2
        have h := hno (fun h => by have := (hra.1 h).2; unfold seqOk at this; rw [if_neg q1] at this; exact q2 this.1)
        simp [q1, q2', dc_neg h]
end Go.Proofs.YtdfdabjdfmamgaaGreat

namespace Go.Proofs.YtdfdabjdfmamgaaGreat
set_option maxRecDepth 20000
end Go.Proofs.YtdfdabjdfmamgaaGreat

namespace Go.Proofs.YtdfdabjdfmamgaaGreat
open Go.AM
set_option maxRecDepth 20000
end Go.Proofs.YtdfdabjdfmamgaaGreat

namespace Go.Proofs.YtdfdabjdfmamgaaGreat
open Go.AM
set_option maxRecDepth 20000
set_option maxHeartbeats 1600000
end Go.Proofs.YtdfdabjdfmamgaaGreat

namespace Go.Proofs.YtdfdabjdfmamgaaGreat
open Go.AM
set_option maxRecDepth 20000
set_option maxHeartbeats 1600000
end Go.Proofs.YtdfdabjdfmamgaaGreat

namespace Go.Proofs.YtdfdabjdfmamgaaGreat
open Go.AM
set_option maxRecDepth 20000
set_option maxHeartbeats 1600000
end Go.Proofs.YtdfdabjdfmamgaaGreat

/-
  slices.Insert of one element: what its cells are, and what that is to the machine.
-/
namespace Go.AM
open Go.RowKit
/-- behind the call: the rows' block is new, or the old one; all others are as they were -/
structure Placed (w w' : World) (ob : Option Nat) (nb no nC n sz : Nat) (us : List Value) : Prop where
  at_ : ∃ cs T, w'.heap[nb]? = some (.cells cs T (0, 0)) ∧ no + nC * sz ≤ cs.size ∧ ∀ j, j < n * sz → cs.getD (no + j) undef = us.getD j undef
  le : n ≤ nC
  cap : nC ≤ maxLen
  size : w.heap.size ≤ w'.heap.size
  same : Same w w'
  blk : w.heap.size ≤ nb ∨ ob = some nb
  frame : ∀ c, c < w.heap.size → c ≠ nb → w'.heap[c]? = w.heap[c]?
/-- rows are put down in a block: a new one, or the one that they had -/
theorem Rep.place {w0 : World} {base : Bs} {st : ASt} {a : Act} {w w' : World} (hR : Rep w0 base st a w) {h' : AH} {E' : Nat → Nat → Prop} (H' : HRel base h' w E') (tr : Tr st.h.M w h'.M w) {k : Nat} {ob : Option Nat} (hob : (h'.get k).blk = ob)
    {nb no nC sz : Nat} {us : List Value} {rows : List (List CD)} (own : Bool) (hp : Placed w w' ob nb no nC rows.length sz us) (hsz : 0 < sz) (hrl : ∀ row ∈ rows, row.length = sz) (F : Nat → Nat → Nat → Prop)
    (hr : ∀ i j row d, rows[i]? = some row → row[j]? = some d → Rd w own (F i j) (us.getD (i * sz + j) undef) d) (hF : ∀ i j c, F i j c → ¬ h'.M c)
    (hown : own = true → ∀ i j c, F i j c → ¬ base.G c ∧ ∀ q, q ≠ k → ¬ E' q c) (hinj : own = true → ∀ i j i' j' c, F i j c → F i' j' c → i = i' ∧ j = j') :
    Moved w0 base st a w ((k, .rows (some (nb, no, nC)) sz rows own) :: h') w' := by
  obtain ⟨cs, T, hb, hfit, hcs⟩ := hp.at_
  have hnb : ∀ c, c < w.heap.size → c = nb → (h'.get k).blk = some c := by
    intro c hc e
    subst e
    rcases hp.blk with h | h
    · omega
    · rw [hob]; exact h
  have hfr : ∀ c, c < w.heap.size → (¬ h'.M c ∨ ∃ j, j ≠ k ∧ (h'.get j).blk = some c) → w'.heap[c]? = w.heap[c]? := by
    intro c hc h
    refine hp.frame c hc (fun e => ?_)
    have hk := hnb c hc e
    rcases h with h | ⟨j, hne, hj⟩
    · exact h ⟨k, hk⟩
    · exact hne (H'.inj _ _ _ hj hk)
  have t : Tr h'.M w (AH.M ((k, .rows (some (nb, no, nC)) sz rows own) :: h')) w' := Tr.upd H' hp.size (fun c hc hM => hfr c hc (.inl hM)) (fun c hc => by
    simp [AObj.blk] at hc
    subst hc
    rcases hp.blk with h | h
    · exact .inl h
    · exact .inr (by rw [hob]; exact h))
  have lt : ∀ i j, i < rows.length → j < sz → i * sz + j < rows.length * sz := by
    intro i j hi hj
    have := Nat.mul_le_mul_right sz (show i + 1 ≤ rows.length by omega)
    have e : (i + 1) * sz = i * sz + sz := Nat.succ_mul i sz
    omega
  refine (hR.move H' tr ⟨rfl, rfl, rfl⟩).move (H'.upd (Ek := fun c => own = true ∧ c < w.heap.size ∧ ∃ i j, F i j c) hp.size hfr (fun c hc => ?_)
    ⟨cs, T, fun i j c => c < w.heap.size ∧ F i j c, hb, hp.le, hp.cap, hsz, hfit, hrl, ?_, ?_, ?_⟩ ?_) t hp.same
  · simp [AObj.blk] at hc
    subst hc
    rcases hp.blk with h | h
    · exact ⟨hR.newer h, .inl h⟩
    · have hk : (h'.get k).blk = some nb := by rw [hob]; exact h
      exact ⟨H'.low k _ hk, .inr hk⟩
  · rintro i j c ⟨hlt, hc⟩
    exact ⟨fun ho => ⟨ho, hlt, i, j, hc⟩, fun hM => hF i j c hc (t.mono c hlt hM)⟩
  · rintro ho i j i' j' c ⟨-, hc⟩ ⟨-, hc'⟩
    exact hinj ho i j i' j' c hc hc'
  · intro i j row d hi hj
    have h1 : i < rows.length := (List.getElem?_eq_some_iff.1 hi).1
    have h2 : j < sz := by rw [← hrl _ (List.mem_of_getElem? hi)]; exact (List.getElem?_eq_some_iff.1 hj).1
    rw [hcs _ (lt i j h1 h2)]
    exact (hr i j row d hi hj).map (fun c hc hl => hfr c hl (.inl (hF i j c hc))) (fun c hc hl => ⟨hl, hc⟩)
  · rintro c ⟨ho, hlt, i, j, hc⟩
    obtain ⟨h1, h2⟩ := hown ho i j c hc
    exact ⟨h1, Nat.lt_of_lt_of_le hlt hp.size, h2, fun hM => hF i j c hc (t.mono c hlt hM)⟩
end Go.AM

namespace Go.Proofs.YtdfdabjdfmamgaaGreat
open Go.AM Go.RowKit
set_option maxRecDepth 100000
set_option maxHeartbeats 4000000
set_option linter.unusedVariables false
set_option linter.unusedSimpArgs false
end Go.Proofs.YtdfdabjdfmamgaaGreat

namespace Go.Proofs.YtdfdabjdfmamgaaGreat
open Go.AM
set_option maxRecDepth 20000
set_option maxHeartbeats 3200000
end Go.Proofs.YtdfdabjdfmamgaaGreat

namespace Go.Proofs.YtdfdabjdfmamgaaGreat
open Go.AM
set_option maxRecDepth 20000
end Go.Proofs.YtdfdabjdfmamgaaGreat

/-
  The abstract machine: the order of strings.
-/
namespace Go.AM
open Go.RowKit
def sLt (s u : ByteArray) : Prop := Op.bytesLess s.toList u.toList = true
theorem b_dc (b : Bool) : b = dc (b = true) := by cases b <;> simp [dc]
section
variable {tb : Prop} {F : AV → Prop} {s u : ByteArray}
theorem B_slss : aBin tb .lss (.string s) (.string u) F = F (.v (.bool (dc (sLt s u)))) := by
  simp only [aBin]; rw [b_dc (Op.bytesLess s.toList u.toList)]; rfl
theorem B_sgeq : aBin tb .geq (.string s) (.string u) F = F (.v (.bool (!dc (sLt s u)))) := by
  simp only [aBin]; rw [b_dc (Op.bytesLess s.toList u.toList)]; rfl
end
attribute [simp ↓] B_slss B_sgeq
end Go.AM

namespace Go.Proofs.YtdfdabjdfmamgaaGreat
open Go.AM
set_option maxRecDepth 20000
/-- the first place of a list where something holds; -1: none -/
noncomputable def fIdx {α : Type} (p : α → Prop) (l : List α) : Int :=
  open Classical in match l.findIdx? (fun a => decide (p a)) with
  | some k => k
  | none => -1
theorem fIdx_at {α : Type} {p : α → Prop} {l : List α} {i : Nat} (h : i < l.length) (hp : p l[i]) (hb : ∀ j, j < i → ∀ hj : j < l.length, ¬ p l[j]) : fIdx p l = i := by
  classical
  unfold fIdx
  have : l.findIdx? (fun a => decide (p a)) = some i := by
    rw [List.findIdx?_eq_some_iff_getElem]
    exact ⟨h, by simpa using hp, fun j hj => by simpa using hb j hj (by omega)⟩
  rw [this]
theorem fIdx_none {α : Type} {p : α → Prop} {l : List α} (hb : ∀ j, ∀ hj : j < l.length, ¬ p l[j]) : fIdx p l = -1 := by
  classical
  unfold fIdx
  have : l.findIdx? (fun a => decide (p a)) = none := by
    rw [List.findIdx?_eq_none_iff]
    intro x hx
    obtain ⟨j, hj, rfl⟩ := List.getElem_of_mem hx
    simpa using hb j hj
  rw [this]
theorem fIdx_cases {α : Type} (p : α → Prop) (l : List α) : (∃ k : Nat, ∃ h : k < l.length, fIdx p l = k ∧ p l[k] ∧ ∀ j, j < k → ∀ hj : j < l.length, ¬ p l[j]) ∨ (fIdx p l = -1 ∧ ∀ j, ∀ hj : j < l.length, ¬ p l[j]) := by
  classical
  cases e : l.findIdx? (fun a => decide (p a)) with
  | some k =>
    rw [List.findIdx?_eq_some_iff_getElem] at e
    obtain ⟨h, hp, hb⟩ := e
    have hp : p l[k] := by simpa using hp
    have hb : ∀ j, j < k → ∀ hj : j < l.length, ¬ p l[j] := fun j hj hl => by simpa using hb j hj
    exact .inl ⟨k, h, fIdx_at h hp hb, hp, hb⟩
  | none =>
    rw [List.findIdx?_eq_none_iff] at e
    have hb : ∀ j, ∀ hj : j < l.length, ¬ p l[j] := fun j hj => by simpa using e _ (List.getElem_mem hj)
    exact .inr ⟨fIdx_none hb, hb⟩
noncomputable def docIdx (l : List Doc) (name : ByteArray) : Int := fIdx (fun d => d.name = name) l
def ringOk (r : Ring) : Prop := (∀ e ∈ r.list, entryOk e) ∧ (1 ≤ r.cap ∧ r.cap ≤ 6) ∧ (1 ≤ r.next ∧ r.next ≤ 1000000000) ∧ (r.list.length : Int) ≤ r.cap ∧ ¬ (r.out = true ∧ 0 < r.list.length)
def docAt (l : List Doc) (i : Nat) : Prop := ∀ h : i < l.length, docOk l[i] ∧ ∀ _ : 0 < i, sLt l[i - 1].name l[i].name
def subAt (docs : List Doc) (last : Int) (l : List Sub) (i : Nat) : Prop := ∀ h : i < l.length, (1 ≤ l[i].id ∧ l[i].id ≤ last) ∧ ringOk l[i].r ∧ (∀ _ : 0 < i, l[i - 1].id < l[i].id) ∧
  ∃ k : Nat, ∃ hk : k < docs.length, docIdx docs l[i].doc = k ∧ (l[i].r.out = false → l[i].r.next + l[i].r.list.length = headRev docs[k] + 1)
def hubOk (h : Hub) : Prop := h.docs.length ≤ 5 ∧ h.subs.length ≤ 6 ∧ (0 ≤ h.last ∧ h.last ≤ 1000000000) ∧ (∀ i, docAt h.docs i) ∧ ∀ i, subAt h.docs h.last h.subs i
def Answer.zero : Answer := ⟨0, 0, [], []⟩
noncomputable def fDeskOk (d : Desk) : Bool := dc (hubOk d.h ∧ netOk d.n)
theorem fDeskOk_b (d : Desk) (_ : d.fits) (_ : nDesk d ≤ 2 ^ 20) : True := trivial
end Go.Proofs.YtdfdabjdfmamgaaGreat

namespace Go.Proofs.YtdfdabjdfmamgaaGreat
open Go.AM
set_option maxRecDepth 20000
def Ring.zero : Ring := ⟨0, 0, false, []⟩
def Hub.zero : Hub := ⟨false, [], [], 0⟩
def Wld.zero : Wld := ⟨Hub.zero, [], [], [], 0⟩
end Go.Proofs.YtdfdabjdfmamgaaGreat

namespace Go.Proofs.YtdfdabjdfmamgaaGreat
open Go.AM
set_option maxRecDepth 20000
set_option maxHeartbeats 1600000
end Go.Proofs.YtdfdabjdfmamgaaGreat

namespace Go.Proofs.YtdfdabjdfmamgaaGreat
open Go.AM
set_option maxRecDepth 20000
set_option maxHeartbeats 3200000

theorem implHubDoc_c (h : Hub) (hl : nHub h ≤ 2 ^ 40) (name : ByteArray) : PureC Tryz.prog 189 [.agg h.row, .c (.v (.string name))] (.one (.c (vi (docIdx h.docs name)) 1)) := by
  refine PureC.intro' tt_ok Tryz.func189 (by kernel_rfl) rfl rfl rfl (Nat.le_of_ble_eq_true rfl) (fun w0 base => ?_)
  obtain ⟨sh, l, subs, last⟩ := h
  unfold nHub at hl
  simp only at hl
  have hle := nL_len (f := nDoc) (B := 2 ^ 40) (l := l) (by omega)
  simp [Hub.row]
  intro b2 b3
  refine ACall.inline tt_ok Tryz.func271 (by kernel_rfl) rfl rfl rfl (Nat.le_of_ble_eq_true rfl) 20000 (fun w1 F => ?_)
  simp
  refine LoopT.intro eok (fun i : Nat => i ≤ l.length ∧ ∀ j, j < i → ∀ hj : j < l.length, ¬ l[j].name = name) (fun i => ⟨19, 20000, [(8, .v (.int .i64 i)), (7, .v (.int .i64 l.length)), (0, .ro (l.map Doc.row)), (1, .clo 272 [.p 48 b3 0])],
    [(48, .vars b3 9 [.v (.string name)])]⟩) (fun i => l.length - i) 0 (by simp) (by simp) (fun i hi => ?_)
  by_cases hlt : i < l.length
  · simp [hlt]
    refine ACall.inline tt_ok Tryz.func272 (by kernel_rfl) rfl rfl rfl (Nat.le_of_ble_eq_true rfl) 40000 (fun w2 F2 => ?_)
    simp [Doc.row]
    intro b
    by_cases c : l[i].name = name
    · have e : docIdx l name = i := fIdx_at hlt c hi.2
      simp [c, e]
    · simp [c]
      exact ⟨i + 1, ⟨by omega, fun j hj hjl => by
        by_cases hji : j = i
        · subst hji; exact c
        · exact hi.2 j (by omega) hjl⟩, by omega, i64_suc (by omega)⟩
  · have e : docIdx l name = -1 := fIdx_none (fun j hj => hi.2 j (by omega) hj)
    simp [hlt, e]
theorem specHubDoc_c (h : Hub) (hl : nHub h ≤ 2 ^ 40) (name : ByteArray) : PureC Tryz.prog 186 [.agg h.row, .c (.v (.string name))] (.one (.c (vi (docIdx h.docs name)) 1)) := by
  refine PureC.intro' tt_ok Tryz.func186 (by kernel_rfl) rfl rfl rfl (Nat.le_of_ble_eq_true rfl) (fun w0 base => ?_)
  obtain ⟨sh, l, subs, last⟩ := h
  unfold nHub at hl
  simp only at hl
  have hle := nL_len (f := nDoc) (B := 2 ^ 40) (l := l) (by omega)
  simp [Hub.row]
  intro b2
  refine LoopT.intro eok (fun i : Nat => i ≤ l.length ∧ ∀ j, j < i → ∀ hj : j < l.length, ¬ l[j].name = name) (fun i => ⟨21, 0, [(10, .v (.int .i64 i)), (9, .v (.int .i64 l.length)), (8, .ro (l.map Doc.row)), (1, .v (.string name))], []⟩) (fun i => l.length - i) 0 (by simp) (by simp) (fun i hi => ?_)
  by_cases hlt : i < l.length
  · simp [hlt, Doc.row]
    intro b
    by_cases c : l[i].name = name
    · have e : docIdx l name = i := fIdx_at hlt c hi.2
      simp [c, e]
    · simp [c]
      exact ⟨i + 1, ⟨by omega, fun j hj hjl => by
        by_cases hji : j = i
        · subst hji; exact c
        · exact hi.2 j (by omega) hjl⟩, by omega, i64_suc (by omega)⟩
  · have e : docIdx l name = -1 := fIdx_none (fun j hj => hi.2 j (by omega) hj)
    simp [hlt, e]
theorem implRingOk_c (r : Ring) (hl : nRing r ≤ 2 ^ 40) : PureC Tryz.prog 190 [.agg r.row] (.one (.c (vb (ringOk r)) 1)) := by
  refine PureC.intro' tt_ok Tryz.func190 (by kernel_rfl) rfl rfl rfl (Nat.le_of_ble_eq_true rfl) (fun w0 base => ?_)
  obtain ⟨cp, nx, out, l⟩ := r
  unfold nRing at hl
  simp only at hl
  have hle := nL_len hl
  simp [Ring.row]
  intro b1
  refine ACall.pure (within_c cp 1 6) (by simp) ?_
  by_cases c1 : 1 ≤ cp ∧ cp ≤ 6
  rotate_left
  · have h : ¬ ringOk ⟨cp, nx, out, l⟩ := fun h => c1 h.2.1
    simp [dc_neg c1, dc_neg h]
  simp [c1]
  refine ACall.pure (within_c nx 1 1000000000) (by simp) ?_
  by_cases c2 : 1 ≤ nx ∧ nx ≤ 1000000000
  rotate_left
  · have h : ¬ ringOk ⟨cp, nx, out, l⟩ := fun h => c2 h.2.2.1
    simp [dc_neg c2, dc_neg h]
  simp [c2]
  by_cases c3 : (l.length : Int) ≤ cp
  rotate_left
  · have h : ¬ ringOk ⟨cp, nx, out, l⟩ := fun h => c3 h.2.2.2.1
    have c3' : cp < (l.length : Int) := by omega
    simp [c3', dc_neg h]
  have c3' : ¬ cp < (l.length : Int) := by omega
  simp [c3']
  have hcase : out = false ∨ (out = true ∧ l = []) ∨ (out = true ∧ 0 < l.length) := by
    cases out with
    | false => exact .inl rfl
    | true =>
      cases l with
      | nil => exact .inr (.inl ⟨rfl, rfl⟩)
      | cons a l => exact .inr (.inr ⟨rfl, by simp⟩)
  rcases hcase with rfl | ⟨rfl, rfl⟩ | ⟨rfl, c4⟩
  · simp
    refine LoopT.intro eok (fun i : Nat => i ≤ l.length ∧ ∀ e ∈ l.take i, entryOk e) (fun i => ⟨44, 0, [(36, .v (.int .i64 i)), (35, .v (.int .i64 l.length)), (34, .ro (l.map Entry.row))], []⟩) (fun i => l.length - i) 0 (by simp) (by simp) (fun i hi => ?_)
    by_cases hlt : i < l.length
    · have hm := nL_at hl hlt
      simp [hlt, Entry.row]
      intro b4
      refine ACall.pure (implEntryOk_c l[i] (by omega)) (by simp [Entry.row]) ?_
      by_cases c5 : entryOk l[i]
      · simp [c5]
        exact ⟨i + 1, ⟨by omega, all_suc hlt hi.2 c5⟩, by omega, i64_suc (by omega)⟩
      · have h : ¬ ringOk ⟨cp, nx, false, l⟩ := fun h => c5 (h.1 _ (List.getElem_mem hlt))
        simp [dc_neg c5, dc_neg h]
    · have h : ringOk ⟨cp, nx, false, l⟩ := ⟨all_end (l := l) (by omega) hi.2, c1, c2, c3, by simp⟩
      simp [hlt, h]
  · have h : ringOk ⟨cp, nx, true, []⟩ := ⟨by simp, c1, c2, c3, by simp⟩
    simp
    refine LoopT.intro eok (fun i : Nat => i = 0) (fun i => ⟨44, 0, [(36, .v (.int .i64 0)), (35, .v (.int .i64 0)), (34, .ro ([] : List (List CD)))], []⟩) (fun i => 0) 0 (by simp) (by simp) (fun i hi => ?_)
    simp [h]
  · have h : ¬ ringOk ⟨cp, nx, true, l⟩ := fun h => h.2.2.2.2 ⟨rfl, c4⟩
    have c4' : 0 < (l.length : Int) := by omega
    simp [c4, dc_neg h]
theorem specRingOk_c (r : Ring) (hl : nRing r ≤ 2 ^ 40) : PureC Tryz.prog 187 [.agg r.row] (.one (.c (vb (ringOk r)) 1)) := by
  refine PureC.intro' tt_ok Tryz.func187 (by kernel_rfl) rfl rfl rfl (Nat.le_of_ble_eq_true rfl) (fun w0 base => ?_)
  obtain ⟨cp, nx, out, l⟩ := r
  unfold nRing at hl
  simp only at hl
  have hle := nL_len hl
  simp [Ring.row]
  intro b1
  refine LoopT.intro eok (fun i : Nat => i ≤ l.length ∧ ∀ e ∈ l.take i, entryOk e) (fun i => ⟨43, 0, [(8, .v (.int .i64 i)), (7, .v (.int .i64 l.length)), (6, .ro (l.map Entry.row)), (1, .p 16 b1 0)],
    [(16, .vars b1 220 [.v (.int .i64 cp), .v (.int .i64 nx), .v (.bool out), .ro (l.map Entry.row)])]⟩) (fun i => l.length - i) 0 (by simp) (by simp) (fun i hi => ?_)
  by_cases hlt : i < l.length
  · have hm := nL_at hl hlt
    simp [hlt, Entry.row]
    intro b4
    refine ACall.pure (specEntryOk_c l[i] (by omega)) (by simp [Entry.row]) ?_
    by_cases c5 : entryOk l[i]
    · simp [c5]
      exact ⟨i + 1, ⟨by omega, all_suc hlt hi.2 c5⟩, by omega, i64_suc (by omega)⟩
    · have h : ¬ ringOk ⟨cp, nx, out, l⟩ := fun h => c5 (h.1 _ (List.getElem_mem hlt))
      simp [dc_neg c5, dc_neg h]
  have c0 : ∀ e ∈ l, entryOk e := all_end (by omega) hi.2
  simp [hlt]
  refine ACall.pure (l01In_c cp 1 6) (by simp) ?_
  by_cases c1 : 1 ≤ cp ∧ cp ≤ 6
  rotate_left
  · have h : ¬ ringOk ⟨cp, nx, out, l⟩ := fun h => c1 h.2.1
    simp [dc_neg c1, dc_neg h]
  simp [c1]
  refine ACall.pure (l01In_c nx 1 1000000000) (by simp) ?_
  by_cases c2 : 1 ≤ nx ∧ nx ≤ 1000000000
  rotate_left
  · have h : ¬ ringOk ⟨cp, nx, out, l⟩ := fun h => c2 h.2.2.1
    simp [dc_neg c2, dc_neg h]
  simp [c2]
  by_cases c3 : (l.length : Int) ≤ cp
  rotate_left
  · have h : ¬ ringOk ⟨cp, nx, out, l⟩ := fun h => c3 h.2.2.2.1
    simp [c3, dc_neg h]
  simp [c3]
  cases out with
  | false =>
    have h : ringOk ⟨cp, nx, false, l⟩ := ⟨c0, c1, c2, c3, by simp⟩
    simp [h]
  | true =>
    by_cases c4 : (l.length : Int) = 0
    · have h : ringOk ⟨cp, nx, true, l⟩ := ⟨c0, c1, c2, c3, fun h => by have := h.2; simp only at this; omega⟩
      simp [c4, h]
    · have h : ¬ ringOk ⟨cp, nx, true, l⟩ := fun h => h.2.2.2.2 ⟨rfl, by simp only; omega⟩
      have c4' : ¬ l = [] := fun h => c4 (by rw [h]; rfl)
      simp [c4', dc_neg h]
end Go.Proofs.YtdfdabjdfmamgaaGreat

namespace Go.Proofs.YtdfdabjdfmamgaaGreat
open Go.AM
set_option maxRecDepth 20000
set_option maxHeartbeats 6400000

theorem hubOk_doc {h : Hub} (h0 : ∀ i, docAt h.docs i) {k : Nat} (hk : k < h.docs.length) : 0 ≤ headRev h.docs[k] ∧ headRev h.docs[k] ≤ 1000000000 := by
  have := docOk_head (h0 k hk).1
  omega
theorem docAt_zero {l : List Doc} {d : Doc} (h : 0 < l.length) (e : l[0] = d) (hd : docOk d) : docAt l 0 := fun _ => ⟨by rw [e]; exact hd, fun h => absurd h (by omega)⟩
theorem docAt_suc {l : List Doc} {d y : Doc} {k : Nat} (h : k + 1 < l.length) (e : l[k + 1] = d) (ey : l[k] = y) (hd : docOk d) (hs : sLt y.name d.name) : docAt l (k + 1) := fun _ => ⟨by rw [e]; exact hd, fun _ => by
  simp only [Nat.add_sub_cancel]; rw [e, ey]; exact hs⟩
theorem upto_suc {P : Nat → Prop} {i : Nat} (h : ∀ j, j < i → P j) (hi : P i) : ∀ j, j < i + 1 → P j := fun j hj => by
  by_cases e : j = i
  · subst e; exact hi
  · exact h j (by omega)
theorem implHubOk_c (h : Hub) (hl : nHub h ≤ 2 ^ 30) : PureC Tryz.prog 93 [.agg h.row] (.one (.c (vb (hubOk h)) 1)) := by
  refine PureC.intro' tt_ok Tryz.func93 (by kernel_rfl) rfl rfl rfl (Nat.le_of_ble_eq_true rfl) (fun w0 base => ?_)
  obtain ⟨sh, docs, subs, last⟩ := h
  have hl0 := hl
  unfold nHub at hl
  simp only at hl
  have hle := nL_len (f := nDoc) (B := 2 ^ 30) (l := docs) (by omega)
  have hls := nL_len (f := nSub) (B := 2 ^ 30) (l := subs) (by omega)
  simp [Hub.row]
  intro b1
  by_cases c1 : docs.length ≤ 5
  rotate_left
  · have c1' : 5 < (docs.length : Int) := by omega
    have h : ¬ hubOk ⟨sh, docs, subs, last⟩ := fun h => c1 h.1
    simp [c1', dc_neg h]
  have c1' : ¬ 5 < (docs.length : Int) := by omega
  by_cases c2 : subs.length ≤ 6
  rotate_left
  · have c2' : 6 < (subs.length : Int) := by omega
    have h : ¬ hubOk ⟨sh, docs, subs, last⟩ := fun h => c2 h.2.1
    simp [c1', c2', dc_neg h]
  have c2' : ¬ 6 < (subs.length : Int) := by omega
  simp [c1', c2']
  refine ACall.pure (within_c last 0 1000000000) (by simp) ?_
  by_cases c3 : 0 ≤ last ∧ last ≤ 1000000000
  rotate_left
  · have h : ¬ hubOk ⟨sh, docs, subs, last⟩ := fun h => c3 h.2.2.1
    simp [dc_neg c3, dc_neg h]
  simp [c3]
  refine LoopT.intro eok (fun i : Nat => i ≤ docs.length ∧ ∀ j, j < i → docAt docs j) (fun i => ⟨119, 0, [(27, .v (.int .i64 i)), (26, .v (.int .i64 docs.length)), (25, .ro (docs.map Doc.row)), (1, .p 16 b1 0)],
    [(16, .vars b1 45 [.v (.bool sh), .ro (docs.map Doc.row), .ro (subs.map Sub.row), .v (.int .i64 last)])]⟩) (fun i => docs.length - i) 0 (by simp) (by simp) (fun i hi => ?_)
  by_cases hlt : i < docs.length
  · have hm := nL_mem (f := nDoc) (B := 2 ^ 30) (l := docs) (by omega) (List.getElem_mem hlt)
    have hno : ¬ docAt docs i → ¬ hubOk ⟨sh, docs, subs, last⟩ := fun h h' => h (h'.2.2.2.1 i)
    obtain ⟨x, hx⟩ : ∃ x, docs[i] = x := ⟨_, rfl⟩
    rw [hx] at hm
    simp [hlt, hx, Doc.row]
    intro b4
    refine DrawT.quiet eok mix (by kernel_rfl) ?_
    simp
    refine ⟨_, _, implDocOk_c x (by omega), by simp [Doc.row], ?_⟩
    by_cases s1 : docOk x
    rotate_left
    · have h := hno (fun h => s1 (by have := (h hlt).1; rwa [hx] at this))
      simp [dc_neg s1, dc_neg h]
    simp [s1]
    cases i with
    | zero =>
      simp
      exact ⟨1, ⟨by omega, upto_suc hi.2 (docAt_zero hlt hx s1)⟩, by omega, i64_suc (n := 0) (by omega)⟩
    | succ k =>
      have ek : Go.IntKind.i64.wrap (k : Int) = k := i64_nat (by omega)
      have hk1 : k < docs.length := by omega
      have hk0 : (0 : Int) < (k : Int) + 1 := by omega
      obtain ⟨y, hy⟩ : ∃ y, docs[k] = y := ⟨_, rfl⟩
      simp [ek, hk0, hk1, hy, Doc.row]
      by_cases s4 : sLt y.name x.name
      rotate_left
      · have h := hno (fun h => s4 (by have := (h hlt).2 (by omega); rw [hx] at this; simp only [Nat.add_sub_cancel] at this; rwa [hy] at this))
        simp [dc_neg s4, dc_neg h]
      simp [s4]
      exact ⟨k + 2, ⟨by omega, upto_suc hi.2 (docAt_suc hlt hx hy s1 s4)⟩, by omega, by rw [Go.IntWalk.i64_in _ (by omega)]; omega⟩
  have c4 : ∀ i, docAt docs i := fun i => by
    by_cases h : i < docs.length
    · exact hi.2 i (by omega)
    · exact fun h' => absurd h' h
  simp [hlt]
  refine LoopT.intro eok (fun i : Nat => i ≤ subs.length ∧ ∀ j, j < i → subAt docs last subs j) (fun i => ⟨119, 0, [(55, .v (.int .i64 i)), (54, .v (.int .i64 subs.length)), (53, .ro (subs.map Sub.row)), (1, .p 16 b1 0)],
    [(16, .vars b1 45 [.v (.bool sh), .ro (docs.map Doc.row), .ro (subs.map Sub.row), .v (.int .i64 last)])]⟩) (fun i => subs.length - i) 0 (by simp) (by simp) (fun i hi => ?_)
  by_cases hlt : i < subs.length
  rotate_left
  · have h : hubOk ⟨sh, docs, subs, last⟩ := ⟨c1, c2, c3, c4, fun i => by
      by_cases h : i < subs.length
      · exact hi.2 i (by omega)
      · exact fun h' => absurd h' h⟩
    simp [hlt, h]
  have hm := nL_mem (f := nSub) (B := 2 ^ 30) (l := subs) (by omega) (List.getElem_mem hlt)
  have hno : ¬ subAt docs last subs i → ¬ hubOk ⟨sh, docs, subs, last⟩ := fun h h' => h (h'.2.2.2.2 i)
  obtain ⟨x, hx⟩ : ∃ x, subs[i] = x := ⟨_, rfl⟩
  rw [hx] at hm
  unfold nSub at hm
  have ew : Go.IntKind.i64.wrap ((i : Int) + 1) = ((i + 1 : Nat) : Int) := i64_suc (by omega)
  simp [hlt, hx, Sub.row]
  intro b6
  refine ACall.pure (implHubDoc_c ⟨sh, docs, subs, last⟩ (by omega) x.doc) (by simp [Hub.row]) ?_
  simp
  have noid : ¬ (1 ≤ x.id ∧ x.id ≤ last) → ¬ hubOk ⟨sh, docs, subs, last⟩ := fun s2 => hno (fun h => s2 (by have := (h hlt).1; rwa [hx] at this))
  have noring : ¬ ringOk x.r → ¬ hubOk ⟨sh, docs, subs, last⟩ := fun s2 => hno (fun h => s2 (by have := (h hlt).2.1; rwa [hx] at this))
  have nodoc : docIdx docs x.doc = -1 → ¬ hubOk ⟨sh, docs, subs, last⟩ := fun s2 => hno (fun h => by
    obtain ⟨k, hk, e, -⟩ := (h hlt).2.2.2
    rw [hx, s2] at e; omega)
  have noprev : ∀ _ : 0 < i, ¬ subs[i - 1].id < x.id → ¬ hubOk ⟨sh, docs, subs, last⟩ := fun h0 s2 => hno (fun h => s2 (by have := (h hlt).2.2.1 h0; rwa [hx] at this))
  have hix := fIdx_cases (fun d : Doc => d.name = x.doc) docs
  change (∃ k : Nat, ∃ h : k < docs.length, docIdx docs x.doc = k ∧ _) ∨ (docIdx docs x.doc = -1 ∧ _) at hix
  have norev : ∀ k : Nat, ∀ hk : k < docs.length, docIdx docs x.doc = k → x.r.out = false → ¬ x.r.next + x.r.list.length = headRev docs[k] + 1 → ¬ hubOk ⟨sh, docs, subs, last⟩ := fun k hk e ho s2 => hno (fun h => by
    obtain ⟨k', hk', e', h'⟩ := (h hlt).2.2.2
    simp only [hx] at e' h'
    have : k = k' := by omega
    subst this
    exact s2 (h' ho))
  have fin : ∀ (s1 : 1 ≤ x.id ∧ x.id ≤ last) (s2 : ringOk x.r) (s3 : ∀ _ : 0 < i, subs[i - 1].id < x.id) (k : Nat) (hk : k < docs.length) (e : docIdx docs x.doc = k) (s4 : x.r.out = false → x.r.next + x.r.list.length = headRev docs[k] + 1), ∀ j, j < i + 1 → subAt docs last subs j :=
    fun s1 s2 s3 k hk e s4 => upto_suc hi.2 (fun _ => by simp only [hx]; exact ⟨s1, s2, s3, k, hk, e, s4⟩)
  generalize docIdx docs x.doc = K at hix nodoc norev fin ⊢
  refine DrawT.quiet eok mix (by kernel_rfl) ?_
  simp
  refine ⟨_, _, within_c x.id 1 last, by simp, ?_⟩
  by_cases s1 : 1 ≤ x.id ∧ x.id ≤ last
  rotate_left
  · simp [dc_neg s1, dc_neg (noid s1)]
  simp [s1]
  cases i with
  | zero =>
    simp
    refine ⟨_, _, implRingOk_c x.r (by omega), by simp [Ring.row], ?_⟩
    by_cases s2 : ringOk x.r
    rotate_left
    · simp [dc_neg s2, dc_neg (noring s2)]
    simp [s2]
    rcases hix with ⟨k, hk, rfl, -⟩ | ⟨rfl, -⟩
    rotate_left
    · simp [dc_neg (nodoc rfl)]
    have hk0' : ¬ (k : Int) < 0 := by omega
    simp [hk0']
    have sn := s2.2.2.1
    have sl := s2.2.2.2.1
    have sc := s2.2.1
    have hr := hubOk_doc (h := ⟨sh, docs, subs, last⟩) c4 hk
    simp only at hr
    have e1 : Go.IntKind.i64.wrap (x.r.next + x.r.list.length) = x.r.next + x.r.list.length := Go.IntWalk.i64_in _ (by omega)
    have e2 : Go.IntKind.i64.wrap (headRev docs[k] + 1) = headRev docs[k] + 1 := Go.IntWalk.i64_in _ (by omega)
    refine DrawT.quiet eok mix (by kernel_rfl) ?_
    simp
    cases ho : x.r.out with
    | true =>
      have hf := fin s1 s2 (fun h => absurd h (by omega)) k hk rfl (fun h => absurd (ho.symm.trans h) (by simp))
      simp
      exact ⟨1, ⟨by omega, hf⟩, by omega, i64_suc (n := 0) (by omega)⟩
    | false =>
      simp [hk]
      refine ⟨_, _, implHeadRev_c docs[k], by simp [Doc.row], ?_⟩
      by_cases s4 : x.r.next + x.r.list.length = headRev docs[k] + 1
      · have hf := fin s1 s2 (fun h => absurd h (by omega)) k hk rfl (fun _ => s4)
        simp [e2, s4]
        exact ⟨1, ⟨by omega, hf⟩, by omega, i64_suc (n := 0) (by omega)⟩
      · simp [e1, e2, s4, dc_neg (norev k hk rfl ho s4)]
  | succ m =>
    have hk1 : m < subs.length := by omega
    have ek : Go.IntKind.i64.wrap (m : Int) = m := i64_nat (by omega)
    have hm0 : (0 : Int) < (m : Int) + 1 := by omega
    obtain ⟨y, hy⟩ : ∃ y, subs[m] = y := ⟨_, rfl⟩
    simp [ek, hm0, hk1, hy, Sub.row]
    by_cases s3 : y.id < x.id
    rotate_left
    · have s3' : x.id ≤ y.id := by omega
      simp [s3', dc_neg (noprev (by omega) (by simp only [Nat.add_sub_cancel]; rwa [hy]))]
    have s3' : ¬ x.id ≤ y.id := by omega
    have hp : ∀ _ : 0 < m + 1, subs[m + 1 - 1].id < x.id := fun _ => by simp only [Nat.add_sub_cancel]; rwa [hy]
    simp [s3']
    refine ⟨_, _, implRingOk_c x.r (by omega), by simp [Ring.row], ?_⟩
    by_cases s2 : ringOk x.r
    rotate_left
    · simp [dc_neg s2, dc_neg (noring s2)]
    simp [s2]
    rcases hix with ⟨k, hk, rfl, -⟩ | ⟨rfl, -⟩
    rotate_left
    · simp [dc_neg (nodoc rfl)]
    have hk0' : ¬ (k : Int) < 0 := by omega
    simp [hk0']
    have sn := s2.2.2.1
    have sl := s2.2.2.2.1
    have sc := s2.2.1
    have hr := hubOk_doc (h := ⟨sh, docs, subs, last⟩) c4 hk
    simp only at hr
    have e1 : Go.IntKind.i64.wrap (x.r.next + x.r.list.length) = x.r.next + x.r.list.length := Go.IntWalk.i64_in _ (by omega)
    have e2 : Go.IntKind.i64.wrap (headRev docs[k] + 1) = headRev docs[k] + 1 := Go.IntWalk.i64_in _ (by omega)
    refine DrawT.quiet eok mix (by kernel_rfl) ?_
    simp
    cases ho : x.r.out with
    | true =>
      have hf := fin s1 s2 hp k hk rfl (fun h => absurd (ho.symm.trans h) (by simp))
      simp
      exact ⟨m + 2, ⟨by omega, hf⟩, by omega, by rw [Go.IntWalk.i64_in _ (by omega)]; omega⟩
    | false =>
      simp [hk]
      refine ⟨_, _, implHeadRev_c docs[k], by simp [Doc.row], ?_⟩
      by_cases s4 : x.r.next + x.r.list.length = headRev docs[k] + 1
      · have hf := fin s1 s2 hp k hk rfl (fun _ => s4)
        simp [e2, s4]
        exact ⟨m + 2, ⟨by omega, hf⟩, by omega, by rw [Go.IntWalk.i64_in _ (by omega)]; omega⟩
      · simp [e1, e2, s4, dc_neg (norev k hk rfl ho s4)]
theorem specHubOk_c (h : Hub) (hl : nHub h ≤ 2 ^ 30) : PureC Tryz.prog 91 [.agg h.row] (.one (.c (vb (hubOk h)) 1)) := by
  refine PureC.intro' tt_ok Tryz.func91 (by kernel_rfl) rfl rfl rfl (Nat.le_of_ble_eq_true rfl) (fun w0 base => ?_)
  obtain ⟨sh, docs, subs, last⟩ := h
  have hl0 := hl
  unfold nHub at hl
  simp only at hl
  have hle := nL_len (f := nDoc) (B := 2 ^ 30) (l := docs) (by omega)
  have hls := nL_len (f := nSub) (B := 2 ^ 30) (l := subs) (by omega)
  simp [Hub.row]
  intro b1
  by_cases c1 : docs.length ≤ 5
  rotate_left
  · have c1' : 5 < (docs.length : Int) := by omega
    have h : ¬ hubOk ⟨sh, docs, subs, last⟩ := fun h => c1 h.1
    simp [c1', dc_neg h]
  have c1' : ¬ 5 < (docs.length : Int) := by omega
  by_cases c2 : subs.length ≤ 6
  rotate_left
  · have c2' : 6 < (subs.length : Int) := by omega
    have h : ¬ hubOk ⟨sh, docs, subs, last⟩ := fun h => c2 h.2.1
    simp [c1', c2', dc_neg h]
  have c2' : ¬ 6 < (subs.length : Int) := by omega
  simp [c1', c2']
  refine ACall.pure (l01In_c last 0 1000000000) (by simp) ?_
  by_cases c3 : 0 ≤ last ∧ last ≤ 1000000000
  rotate_left
  · have h : ¬ hubOk ⟨sh, docs, subs, last⟩ := fun h => c3 h.2.2.1
    simp [dc_neg c3, dc_neg h]
  simp [c3]
  refine LoopT.intro eok (fun i : Nat => i ≤ docs.length ∧ ∀ j, j < i → docAt docs j) (fun i => ⟨119, 0, [(27, .v (.int .i64 i)), (26, .v (.int .i64 docs.length)), (25, .ro (docs.map Doc.row)), (1, .p 16 b1 0)],
    [(16, .vars b1 45 [.v (.bool sh), .ro (docs.map Doc.row), .ro (subs.map Sub.row), .v (.int .i64 last)])]⟩) (fun i => docs.length - i) 0 (by simp) (by simp) (fun i hi => ?_)
  by_cases hlt : i < docs.length
  · have hm := nL_mem (f := nDoc) (B := 2 ^ 30) (l := docs) (by omega) (List.getElem_mem hlt)
    have hno : ¬ docAt docs i → ¬ hubOk ⟨sh, docs, subs, last⟩ := fun h h' => h (h'.2.2.2.1 i)
    obtain ⟨x, hx⟩ : ∃ x, docs[i] = x := ⟨_, rfl⟩
    rw [hx] at hm
    simp [hlt, hx, Doc.row]
    intro b4
    refine DrawT.quiet eok mix (by kernel_rfl) ?_
    simp
    refine ⟨_, _, specDocOk_c x (by omega), by simp [Doc.row], ?_⟩
    by_cases s1 : docOk x
    rotate_left
    · have h := hno (fun h => s1 (by have := (h hlt).1; rwa [hx] at this))
      simp [dc_neg s1, dc_neg h]
    simp [s1]
    cases i with
    | zero =>
      simp
      exact ⟨1, ⟨by omega, upto_suc hi.2 (docAt_zero hlt hx s1)⟩, by omega, i64_suc (n := 0) (by omega)⟩
    | succ k =>
      have ek : Go.IntKind.i64.wrap (k : Int) = k := i64_nat (by omega)
      have hk1 : k < docs.length := by omega
      have hk0 : (0 : Int) < (k : Int) + 1 := by omega
      obtain ⟨y, hy⟩ : ∃ y, docs[k] = y := ⟨_, rfl⟩
      simp [ek, hk0, hk1, hy, Doc.row]
      by_cases s4 : sLt y.name x.name
      rotate_left
      · have h := hno (fun h => s4 (by have := (h hlt).2 (by omega); rw [hx] at this; simp only [Nat.add_sub_cancel] at this; rwa [hy] at this))
        simp [dc_neg s4, dc_neg h]
      simp [s4]
      exact ⟨k + 2, ⟨by omega, upto_suc hi.2 (docAt_suc hlt hx hy s1 s4)⟩, by omega, by rw [Go.IntWalk.i64_in _ (by omega)]; omega⟩
  have c4 : ∀ i, docAt docs i := fun i => by
    by_cases h : i < docs.length
    · exact hi.2 i (by omega)
    · exact fun h' => absurd h' h
  simp [hlt]
  refine LoopT.intro eok (fun i : Nat => i ≤ subs.length ∧ ∀ j, j < i → subAt docs last subs j) (fun i => ⟨119, 0, [(55, .v (.int .i64 i)), (54, .v (.int .i64 subs.length)), (53, .ro (subs.map Sub.row)), (1, .p 16 b1 0)],
    [(16, .vars b1 45 [.v (.bool sh), .ro (docs.map Doc.row), .ro (subs.map Sub.row), .v (.int .i64 last)])]⟩) (fun i => subs.length - i) 0 (by simp) (by simp) (fun i hi => ?_)
  by_cases hlt : i < subs.length
  rotate_left
  · have h : hubOk ⟨sh, docs, subs, last⟩ := ⟨c1, c2, c3, c4, fun i => by
      by_cases h : i < subs.length
      · exact hi.2 i (by omega)
      · exact fun h' => absurd h' h⟩
    simp [hlt, h]
  have hm := nL_mem (f := nSub) (B := 2 ^ 30) (l := subs) (by omega) (List.getElem_mem hlt)
  have hno : ¬ subAt docs last subs i → ¬ hubOk ⟨sh, docs, subs, last⟩ := fun h h' => h (h'.2.2.2.2 i)
  obtain ⟨x, hx⟩ : ∃ x, subs[i] = x := ⟨_, rfl⟩
  rw [hx] at hm
  unfold nSub at hm
  have ew : Go.IntKind.i64.wrap ((i : Int) + 1) = ((i + 1 : Nat) : Int) := i64_suc (by omega)
  simp [hlt, hx, Sub.row]
  intro b6
  refine ACall.pure (specHubDoc_c ⟨sh, docs, subs, last⟩ (by omega) x.doc) (by simp [Hub.row]) ?_
  simp
  have noid : ¬ (1 ≤ x.id ∧ x.id ≤ last) → ¬ hubOk ⟨sh, docs, subs, last⟩ := fun s2 => hno (fun h => s2 (by have := (h hlt).1; rwa [hx] at this))
  have noring : ¬ ringOk x.r → ¬ hubOk ⟨sh, docs, subs, last⟩ := fun s2 => hno (fun h => s2 (by have := (h hlt).2.1; rwa [hx] at this))
  have nodoc : docIdx docs x.doc = -1 → ¬ hubOk ⟨sh, docs, subs, last⟩ := fun s2 => hno (fun h => by
    obtain ⟨k, hk, e, -⟩ := (h hlt).2.2.2
    rw [hx, s2] at e; omega)
  have noprev : ∀ _ : 0 < i, ¬ subs[i - 1].id < x.id → ¬ hubOk ⟨sh, docs, subs, last⟩ := fun h0 s2 => hno (fun h => s2 (by have := (h hlt).2.2.1 h0; rwa [hx] at this))
  have hix := fIdx_cases (fun d : Doc => d.name = x.doc) docs
  change (∃ k : Nat, ∃ h : k < docs.length, docIdx docs x.doc = k ∧ _) ∨ (docIdx docs x.doc = -1 ∧ _) at hix
  have norev : ∀ k : Nat, ∀ hk : k < docs.length, docIdx docs x.doc = k → x.r.out = false → ¬ x.r.next + x.r.list.length = headRev docs[k] + 1 → ¬ hubOk ⟨sh, docs, subs, last⟩ := fun k hk e ho s2 => hno (fun h => by
    obtain ⟨k', hk', e', h'⟩ := (h hlt).2.2.2
    simp only [hx] at e' h'
    have : k = k' := by omega
    subst this
    exact s2 (h' ho))
  have fin : ∀ (s1 : 1 ≤ x.id ∧ x.id ≤ last) (s2 : ringOk x.r) (s3 : ∀ _ : 0 < i, subs[i - 1].id < x.id) (k : Nat) (hk : k < docs.length) (e : docIdx docs x.doc = k) (s4 : x.r.out = false → x.r.next + x.r.list.length = headRev docs[k] + 1), ∀ j, j < i + 1 → subAt docs last subs j :=
    fun s1 s2 s3 k hk e s4 => upto_suc hi.2 (fun _ => by simp only [hx]; exact ⟨s1, s2, s3, k, hk, e, s4⟩)
  generalize docIdx docs x.doc = K at hix nodoc norev fin ⊢
  refine DrawT.quiet eok mix (by kernel_rfl) ?_
  simp
  refine ⟨_, _, l01In_c x.id 1 last, by simp, ?_⟩
  by_cases s1 : 1 ≤ x.id ∧ x.id ≤ last
  rotate_left
  · simp [dc_neg s1, dc_neg (noid s1)]
  simp [s1]
  refine ⟨_, _, specRingOk_c x.r (by omega), by simp [Ring.row], ?_⟩
  by_cases s2 : ringOk x.r
  rotate_left
  · simp [dc_neg s2, dc_neg (noring s2)]
  simp [s2]
  rcases hix with ⟨k, hk, rfl, -⟩ | ⟨rfl, -⟩
  rotate_left
  · simp [dc_neg (nodoc rfl)]
  have hk0' : ¬ (k : Int) < 0 := by omega
  simp [hk0']
  cases i with
  | zero =>
    simp
    have sn := s2.2.2.1
    have sl := s2.2.2.2.1
    have sc := s2.2.1
    have hr := hubOk_doc (h := ⟨sh, docs, subs, last⟩) c4 hk
    simp only at hr
    have e1 : Go.IntKind.i64.wrap (x.r.next + x.r.list.length) = x.r.next + x.r.list.length := Go.IntWalk.i64_in _ (by omega)
    have e2 : Go.IntKind.i64.wrap (headRev docs[k] + 1) = headRev docs[k] + 1 := Go.IntWalk.i64_in _ (by omega)
    refine DrawT.quiet eok mix (by kernel_rfl) ?_
    simp
    cases ho : x.r.out with
    | true =>
      have hf := fin s1 s2 (fun h => absurd h (by omega)) k hk rfl (fun h => absurd (ho.symm.trans h) (by simp))
      simp
      exact ⟨1, ⟨by omega, hf⟩, by omega, i64_suc (n := 0) (by omega)⟩
    | false =>
      simp [hk]
      refine ⟨_, _, specHeadRev_c docs[k], by simp [Doc.row], ?_⟩
      by_cases s4 : x.r.next + x.r.list.length = headRev docs[k] + 1
      · have hf := fin s1 s2 (fun h => absurd h (by omega)) k hk rfl (fun _ => s4)
        simp [e2, s4]
        exact ⟨1, ⟨by omega, hf⟩, by omega, i64_suc (n := 0) (by omega)⟩
      · simp [e1, e2, s4, dc_neg (norev k hk rfl ho s4)]
  | succ m =>
    have hk1 : m < subs.length := by omega
    have ek : Go.IntKind.i64.wrap (m : Int) = m := i64_nat (by omega)
    have hm0 : (0 : Int) < (m : Int) + 1 := by omega
    obtain ⟨y, hy⟩ : ∃ y, subs[m] = y := ⟨_, rfl⟩
    simp [ek, hm0, hk1, hy, Sub.row]
    by_cases s3 : y.id < x.id
    rotate_left
    · have s3' : x.id ≤ y.id := by omega
      simp [s3', dc_neg (noprev (by omega) (by simp only [Nat.add_sub_cancel]; rwa [hy]))]
    have s3' : ¬ x.id ≤ y.id := by omega
    have hp : ∀ _ : 0 < m + 1, subs[m + 1 - 1].id < x.id := fun _ => by simp only [Nat.add_sub_cancel]; rwa [hy]
    simp [s3']
    have sn := s2.2.2.1
    have sl := s2.2.2.2.1
    have sc := s2.2.1
    have hr := hubOk_doc (h := ⟨sh, docs, subs, last⟩) c4 hk
    simp only at hr
    have e1 : Go.IntKind.i64.wrap (x.r.next + x.r.list.length) = x.r.next + x.r.list.length := Go.IntWalk.i64_in _ (by omega)
    have e2 : Go.IntKind.i64.wrap (headRev docs[k] + 1) = headRev docs[k] + 1 := Go.IntWalk.i64_in _ (by omega)
    refine DrawT.quiet eok mix (by kernel_rfl) ?_
    simp
    cases ho : x.r.out with
    | true =>
      have hf := fin s1 s2 hp k hk rfl (fun h => absurd (ho.symm.trans h) (by simp))
      simp
      exact ⟨m + 2, ⟨by omega, hf⟩, by omega, by rw [Go.IntWalk.i64_in _ (by omega)]; omega⟩
    | false =>
      simp [hk]
      refine ⟨_, _, specHeadRev_c docs[k], by simp [Doc.row], ?_⟩
      by_cases s4 : x.r.next + x.r.list.length = headRev docs[k] + 1
      · have hf := fin s1 s2 hp k hk rfl (fun _ => s4)
        simp [e2, s4]
        exact ⟨m + 2, ⟨by omega, hf⟩, by omega, by rw [Go.IntWalk.i64_in _ (by omega)]; omega⟩
      · simp [e1, e2, s4, dc_neg (norev k hk rfl ho s4)]
end Go.Proofs.YtdfdabjdfmamgaaGreat

namespace Go.Proofs.YtdfdabjdfmamgaaGreat
open Go.AM
set_option maxRecDepth 20000
set_option maxHeartbeats 3200000
theorem implDeskOk_i (d : Desk) (hl : nDesk d ≤ 2 ^ 30) : PureC Tryz.prog 28 [.agg d.row] (.one (.c (vb (hubOk d.h ∧ netOk d.n)) 1)) := by
  refine PureC.intro' tt_ok Tryz.func28 (by kernel_rfl) rfl rfl rfl (Nat.le_of_ble_eq_true rfl) (fun w0 base => ?_)
  unfold nDesk at hl
  simp [Desk.row]
  intro b1
  refine ACall.pure (implHubOk_c d.h (by omega)) (by simp [Hub.row]) ?_
  by_cases c1 : hubOk d.h
  rotate_left
  · have h : ¬ (hubOk d.h ∧ netOk d.n) := fun h => c1 h.1
    simp [dc_neg c1, dc_neg h]
  simp [c1]
  refine ACall.pure (implNetOk_i d.n (by omega)) (by simp [Net.row]) ?_
  simp
theorem specDeskOk_i (d : Desk) (hl : nDesk d ≤ 2 ^ 30) : PureC Tryz.prog 26 [.agg d.row] (.one (.c (vb (hubOk d.h ∧ netOk d.n)) 1)) := by
  refine PureC.intro' tt_ok Tryz.func26 (by kernel_rfl) rfl rfl rfl (Nat.le_of_ble_eq_true rfl) (fun w0 base => ?_)
  unfold nDesk at hl
  simp [Desk.row]
  intro b1
  refine ACall.pure (specHubOk_c d.h (by omega)) (by simp [Hub.row]) ?_
  by_cases c1 : hubOk d.h
  rotate_left
  · have h : ¬ (hubOk d.h ∧ netOk d.n) := fun h => c1 h.1
    simp [dc_neg c1, dc_neg h]
  simp [c1]
  refine ACall.pure (specNetOk_i d.n (by omega)) (by simp [Net.row]) ?_
  simp
theorem implDeskOk_c (d : Desk) (_ : d.fits) (h : nDesk d ≤ 2 ^ 20) : PureC Tryz.prog 28 [.agg d.row] (.one (.c (.v (.bool (fDeskOk d))) 1)) := implDeskOk_i d (by omega)
theorem specDeskOk_c (d : Desk) (_ : d.fits) (h : nDesk d ≤ 2 ^ 20) : PureC Tryz.prog 26 [.agg d.row] (.one (.c (.v (.bool (fDeskOk d))) 1)) := specDeskOk_i d (by omega)
end Go.Proofs.YtdfdabjdfmamgaaGreat

