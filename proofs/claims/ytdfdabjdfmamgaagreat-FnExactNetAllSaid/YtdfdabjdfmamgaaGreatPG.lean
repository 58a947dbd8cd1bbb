import Derived.Test.YtdfdabjdfmamgaaGreatPF
import Derived.Test.YtdfdabjdfmamgaaGreatNA
import Derived.Test.YtdfdabjdfmamgaaGreatPB
import Derived.Test.YtdfdabjdfmamgaaGreatPD
namespace Go.Proofs.YtdfdabjdfmamgaaGreat
open Go.AM
set_option maxRecDepth 20000
set_option maxHeartbeats 1600000
theorem implNetOk_i (n : Net) (hl : nNet n ≤ 2 ^ 30) : PureC Tryz.prog 94 [.agg n.row] (.one (.c (vb (netOk n)) 1)) := by
  refine PureC.intro' tt_ok Tryz.func94 (by kernel_rfl) rfl rfl rfl (Nat.le_of_ble_eq_true rfl) (fun w0 base => ?_)
  obtain ⟨d, l⟩ := n
  unfold nNet at hl
  simp only at hl
  have hle := nL_len (f := nRep) (B := 2 ^ 40) (l := l) (by omega)
  simp [Net.row]
  intro b1
  refine ACall.pure (implDocOk_c d (by omega)) (by simp [Doc.row]) ?_
  by_cases c1 : docOk d
  rotate_left
  · have h : ¬ netOk ⟨d, l⟩ := fun h => c1 h.1
    simp [dc_neg c1, dc_neg h]
  simp [c1]
  refine ACall.pure (within_c l.length 1 4) (by simp) ?_
  by_cases c2 : 1 ≤ l.length ∧ l.length ≤ 4
  rotate_left
  · have h : ¬ netOk ⟨d, l⟩ := fun h => c2 h.2.1
    have c2' : ¬ (1 ≤ (l.length : Int) ∧ (l.length : Int) ≤ 4) := by omega
    simp [dc_neg c2', dc_neg h]
  have c2' : 1 ≤ (l.length : Int) ∧ (l.length : Int) ≤ 4 := by omega
  have hh := docOk_head c1
  simp [c2']
  refine LoopT.introG eok (fun i : Nat => i ≤ l.length ∧ ∀ j, j < i → ∀ h : j < l.length, repAt d j l[j]) (fun i => ⟨98, 0, [(23, .v (.int .i64 i)), (22, .v (.int .i64 l.length)), (21, .ro (l.map Rep.row)), (1, .p 16 b1 0)],
    [(16, .vars b1 38 [.v (.string d.name), .v (.int .i64 d.fr), .ro (d.text.map intR), .ro (d.list.map Entry.row), .ro (d.seen.map Seen.row), .ro (l.map Rep.row)])]⟩) (fun i => l.length - i) 0 (by simp) (by simp) (fun i hi => Ent.refl ?_)
  by_cases hlt : i < l.length
  rotate_left
  · have h : netOk ⟨d, l⟩ := ⟨c1, c2, fun j hj => hi.2 j (by simp only at hj; omega) hj⟩
    simp [hlt, h]
  have hm := nL_mem (f := nRep) (B := 2 ^ 30) (l := l) (by omega) (List.getElem_mem hlt)
  obtain ⟨r, hr⟩ : ∃ r, l[i] = r := ⟨_, rfl⟩
  have hno : ¬ repAt d i r → ¬ netOk ⟨d, l⟩ := fun h hn => h (hr ▸ hn.2.2 i hlt)
  rw [hr] at hm
  have ew : Go.IntKind.i64.wrap ((i : Int) + 1) = (i : Int) + 1 := Go.IntWalk.i64_in _ (by omega)
  have hdn : nDoc d ≤ 2 ^ 30 := by omega
  have htext : r.text.length ≤ 2 ^ 30 := by unfold nRep at hm; omega
  simp [hlt, hr, Rep.row]
  intro b4
  refine DrawT.quiet eok mix (by kernel_rfl) ?_
  simp
  refine ⟨_, _, implRepOk_i r (by omega), by simp [Rep.row], ?_⟩
  by_cases s1 : repOk r
  rotate_left
  · simp [dc_neg s1, dc_neg (hno (fun h => s1 h.1))]
  simp [s1, ew]
  by_cases s2 : r.client = i + 1
  rotate_left
  · simp [s2, ew, dc_neg (hno (fun h => s2 h.2.1))]
  simp [s2, ew]
  refine ⟨_, _, implHeadRev_c d, by simp [Doc.row], ?_⟩
  by_cases s3 : r.rev ≤ headRev d
  rotate_left
  · have s3' : headRev d < r.rev := by omega
    simp [s3', dc_neg (hno (fun h => s3 h.2.2.1))]
  have s3' : ¬ headRev d < r.rev := by omega
  simp [s3']
  refine ACall.pure (implTextAt_c d hdn r.rev) (by simp [Doc.row]) ?_
  have htl := textAt_len d r.rev
  have hra : repAt d i r ↔ ((textAt d r.rev).2 = true → (textAt d r.rev).1 = r.text) ∧ seqOk r (seenOf d ((i : Int) + 1)).1 := by
    rw [← s2]
    exact ⟨fun h => h.2.2.2, fun h => ⟨s1, s2, s3, h⟩⟩
  have hsb := seenOf_b c1 ((i : Int) + 1)
  have fin : repAt d i r → ∀ j, j < i + 1 → ∀ h : j < l.length, repAt d j l[j] := by
    intro h j hj hjl
    by_cases hji : j = i
    · subst hji; rw [hr]; exact h
    · exact hi.2 j (by omega) hjl
  have hseq := s1.2.1
  generalize textAt d r.rev = T at htl hra ⊢
  obtain ⟨t, ok⟩ := T
  simp only at htl hra ⊢
  simp
  intro H1
  have hsn : ∀ S : Seen, 0 ≤ S.seq → S.seq ≤ 1000000000 → Go.IntKind.i64.wrap (S.seq + 1) = S.seq + 1 := fun S h1 h2 => Go.IntWalk.i64_in _ (by omega)
  have hcase : ok = false ∨ (ok = true ∧ t ≠ r.text) ∨ (ok = true ∧ t = r.text) := by
    cases ok with
    | false => exact .inl rfl
    | true => by_cases h : t = r.text
              · exact .inr (.inr ⟨rfl, h⟩)
              · exact .inr (.inl ⟨rfl, h⟩)
  rcases hcase with rfl | ⟨rfl, ht⟩ | ⟨rfl, ht⟩
  · simp
    refine ACall.pure (implSeenOf_c d (by omega) ((i : Int) + 1)) (by simp [Doc.row, s2]) ?_
    generalize seenOf d ((i : Int) + 1) = Q at hra hsb ⊢
    obtain ⟨sn, so⟩ := Q
    simp only at hra hsb ⊢
    have e1 := hsn sn hsb.1 hsb.2.1
    simp [Seen.res]
    intro b7
    by_cases q1 : r.seq = sn.seq
    · by_cases q2 : r.has = true
      · by_cases q3 : sn.rev ≤ r.rev
        · have h := hno (fun h => by have := (hra.1 h).2; unfold seqOk at this; rw [if_pos q1] at this; exact this ⟨q2, q3⟩)
          simp [q1, q2, q3, dc_neg h]
        · have h : repAt d i r := hra.2 ⟨fun h => by simp at h, by unfold seqOk; rw [if_pos q1]; exact fun h => q3 h.2⟩
          simp [q1, q2, q3]
          refine Ent.refl ⟨i + 1, ⟨by omega, fin h⟩, by omega, ?_⟩
          simp
          exact ew
      · have q2' : r.has = false := by simpa using q2
        have h : repAt d i r := hra.2 ⟨fun h => by simp at h, by unfold seqOk; rw [if_pos q1]; exact fun h => q2 h.1⟩
        simp [q1, q2']
        refine Ent.refl ⟨i + 1, ⟨by omega, fin h⟩, by omega, ?_⟩
        simp
        exact ew
    · by_cases q2 : r.has = true
      · by_cases q3 : r.seq = sn.seq + 1
        · have h : repAt d i r := hra.2 ⟨fun h => by simp at h, by unfold seqOk; rw [if_neg q1]; exact ⟨q2, q3⟩⟩
          have q4 : ¬ sn.seq + 1 = sn.seq := by omega
          simp [q2, q3, e1, q4]
          refine Ent.refl ⟨i + 1, ⟨by omega, fin h⟩, by omega, ?_⟩
          simp
          exact ew
        · have h := hno (fun h => by have := (hra.1 h).2; unfold seqOk at this; rw [if_neg q1] at this; exact q3 this.2)
          simp [q1, q2, q3, e1, dc_neg h]
      · have q2' : r.has = false := by simpa using q2
        have h := hno (fun h => by have := (hra.1 h).2; unfold seqOk at this; rw [if_neg q1] at this; exact q2 this.1)
        simp [q1, q2', dc_neg h]
  · simp
    refine ACall.pure (slEqInt_c t r.text (by omega)) (by simp) ?_
    have h := hno (fun h => ht ((hra.1 h).1 rfl))
    simp [ht, dc_neg h]
  · simp
    refine ACall.pure (slEqInt_c t r.text (by omega)) (by simp) ?_
    simp [ht]
    refine ACall.pure (implSeenOf_c d (by omega) ((i : Int) + 1)) (by simp [Doc.row, s2]) ?_
    generalize seenOf d ((i : Int) + 1) = Q at hra hsb ⊢
    obtain ⟨sn, so⟩ := Q
    simp only at hra hsb ⊢
    have e1 := hsn sn hsb.1 hsb.2.1
    simp [Seen.res]
    intro b7
    by_cases q1 : r.seq = sn.seq
    · by_cases q2 : r.has = true
      · by_cases q3 : sn.rev ≤ r.rev
        · have h := hno (fun h => by have := (hra.1 h).2; unfold seqOk at this; rw [if_pos q1] at this; exact this ⟨q2, q3⟩)
          simp [q1, q2, q3, dc_neg h]
        · have h : repAt d i r := hra.2 ⟨fun _ => ht, by unfold seqOk; rw [if_pos q1]; exact fun h => q3 h.2⟩
          simp [q1, q2, q3]
          refine Ent.refl ⟨i + 1, ⟨by omega, fin h⟩, by omega, ?_⟩
          simp
          exact ew
      · have q2' : r.has = false := by simpa using q2
        have h : repAt d i r := hra.2 ⟨fun _ => ht, by unfold seqOk; rw [if_pos q1]; exact fun h => q2 h.1⟩
        simp [q1, q2']
        refine Ent.refl ⟨i + 1, ⟨by omega, fin h⟩, by omega, ?_⟩
        simp
        exact ew
    · by_cases q2 : r.has = true
      · by_cases q3 : r.seq = sn.seq + 1
        · have h : repAt d i r := hra.2 ⟨fun _ => ht, by unfold seqOk; rw [if_neg q1]; exact ⟨q2, q3⟩⟩
          have q4 : ¬ sn.seq + 1 = sn.seq := by omega
          simp [q2, q3, e1, q4]
          refine Ent.refl ⟨i + 1, ⟨by omega, fin h⟩, by omega, ?_⟩
          simp
          exact ew
        · have h := hno (fun h => by have := (hra.1 h).2; unfold seqOk at this; rw [if_neg q1] at this; exact q3 this.2)
          simp [q1, q2, q3, e1, dc_neg h]
      · have q2' : r.has = false := by simpa using q2
        have h := hno (fun h => by have := (hra.1 h).2; unfold seqOk at this; rw [if_neg q1] at this; exact q2 this.1)
        simp [q1, q2', dc_neg h]
theorem specNetOk_i (n : Net) (hl : nNet n ≤ 2 ^ 30) : PureC Tryz.prog 92 [.agg n.row] (.one (.c (vb (netOk n)) 1)) := by
  refine PureC.intro' tt_ok Tryz.func92 (by kernel_rfl) rfl rfl rfl (Nat.le_of_ble_eq_true rfl) (fun w0 base => ?_)
  obtain ⟨d, l⟩ := n
  unfold nNet at hl
  simp only at hl
  have hle := nL_len (f := nRep) (B := 2 ^ 40) (l := l) (by omega)
  simp [Net.row]
  intro b1
  refine ACall.pure (specDocOk_c d (by omega)) (by simp [Doc.row]) ?_
  by_cases c1 : docOk d
  rotate_left
  · have h : ¬ netOk ⟨d, l⟩ := fun h => c1 h.1
    simp [dc_neg c1, dc_neg h]
  simp [c1]
  refine ACall.pure (l01In_c l.length 1 4) (by simp) ?_
  by_cases c2 : 1 ≤ l.length ∧ l.length ≤ 4
  rotate_left
  · have h : ¬ netOk ⟨d, l⟩ := fun h => c2 h.2.1
    have c2' : ¬ (1 ≤ (l.length : Int) ∧ (l.length : Int) ≤ 4) := by omega
    simp [dc_neg c2', dc_neg h]
  have c2' : 1 ≤ (l.length : Int) ∧ (l.length : Int) ≤ 4 := by omega
  have hh := docOk_head c1
  simp [c2']
  refine LoopT.introG eok (fun i : Nat => i ≤ l.length ∧ ∀ j, j < i → ∀ h : j < l.length, repAt d j l[j]) (fun i => ⟨107, 0, [(23, .v (.int .i64 i)), (22, .v (.int .i64 l.length)), (21, .ro (l.map Rep.row)), (1, .p 16 b1 0)],
    [(16, .vars b1 38 [.v (.string d.name), .v (.int .i64 d.fr), .ro (d.text.map intR), .ro (d.list.map Entry.row), .ro (d.seen.map Seen.row), .ro (l.map Rep.row)])]⟩) (fun i => l.length - i) 0 (by simp) (by simp) (fun i hi => Ent.refl ?_)
  by_cases hlt : i < l.length
  rotate_left
  · have h : netOk ⟨d, l⟩ := ⟨c1, c2, fun j hj => hi.2 j (by simp only at hj; omega) hj⟩
    simp [hlt, h]
  have hm := nL_mem (f := nRep) (B := 2 ^ 30) (l := l) (by omega) (List.getElem_mem hlt)
  obtain ⟨r, hr⟩ : ∃ r, l[i] = r := ⟨_, rfl⟩
  have hno : ¬ repAt d i r → ¬ netOk ⟨d, l⟩ := fun h hn => h (hr ▸ hn.2.2 i hlt)
  rw [hr] at hm
  have ew : Go.IntKind.i64.wrap ((i : Int) + 1) = (i : Int) + 1 := Go.IntWalk.i64_in _ (by omega)
  have hdn : nDoc d ≤ 2 ^ 30 := by omega
  have htext : r.text.length ≤ 2 ^ 30 := by unfold nRep at hm; omega
  simp [hlt, hr, Rep.row]
  intro b4
  refine DrawT.quiet eok mix (by kernel_rfl) ?_
  simp
  refine ⟨_, _, specRepOk_i r (by omega), by simp [Rep.row], ?_⟩
  by_cases s1 : repOk r
  rotate_left
  · simp [dc_neg s1, dc_neg (hno (fun h => s1 h.1))]
  simp [s1, ew]
  by_cases s2 : r.client = i + 1
  rotate_left
  · simp [s2, ew, dc_neg (hno (fun h => s2 h.2.1))]
  simp [s2, ew]
  refine ⟨_, _, specHeadRev_c d, by simp [Doc.row], ?_⟩
  by_cases s3 : r.rev ≤ headRev d
  rotate_left
  · have s3' : headRev d < r.rev := by omega
    simp [s3', dc_neg (hno (fun h => s3 h.2.2.1))]
  have s3' : ¬ headRev d < r.rev := by omega
  simp [s3']
  refine ACall.pure (specTextAt_c d hdn r.rev) (by simp [Doc.row]) ?_
  have htl := textAt_len d r.rev
  have hra : repAt d i r ↔ ((textAt d r.rev).2 = true → (textAt d r.rev).1 = r.text) ∧ seqOk r (seenOf d ((i : Int) + 1)).1 := by
    rw [← s2]
    exact ⟨fun h => h.2.2.2, fun h => ⟨s1, s2, s3, h⟩⟩
  have hsb := seenOf_b c1 ((i : Int) + 1)
  have fin : repAt d i r → ∀ j, j < i + 1 → ∀ h : j < l.length, repAt d j l[j] := by
    intro h j hj hjl
    by_cases hji : j = i
    · subst hji; rw [hr]; exact h
    · exact hi.2 j (by omega) hjl
  have hseq := s1.2.1
  generalize textAt d r.rev = T at htl hra ⊢
  obtain ⟨t, ok⟩ := T
  simp only at htl hra ⊢
  simp
  intro H1
  have hsn : ∀ S : Seen, 0 ≤ S.seq → S.seq ≤ 1000000000 → Go.IntKind.i64.wrap (S.seq + 1) = S.seq + 1 := fun S h1 h2 => Go.IntWalk.i64_in _ (by omega)
  have hcase : ok = false ∨ (ok = true ∧ t ≠ r.text) ∨ (ok = true ∧ t = r.text) := by
    cases ok with
    | false => exact .inl rfl
    | true => by_cases h : t = r.text
              · exact .inr (.inr ⟨rfl, h⟩)
              · exact .inr (.inl ⟨rfl, h⟩)
  rcases hcase with rfl | ⟨rfl, ht⟩ | ⟨rfl, ht⟩
  · simp
    refine ACall.pure (specSeenOf_c d (by omega) ((i : Int) + 1)) (by simp [Doc.row, s2]) ?_
    generalize seenOf d ((i : Int) + 1) = Q at hra hsb ⊢
    obtain ⟨sn, so⟩ := Q
    simp only at hra hsb ⊢
    have e1 := hsn sn hsb.1 hsb.2.1
    simp [Seen.res]
    intro b7
    by_cases q1 : r.seq = sn.seq
    · by_cases q2 : r.has = true
      · by_cases q3 : sn.rev ≤ r.rev
        · have h := hno (fun h => by have := (hra.1 h).2; unfold seqOk at this; rw [if_pos q1] at this; exact this ⟨q2, q3⟩)
          simp [q1, q2, q3, dc_neg h]
        · have h : repAt d i r := hra.2 ⟨fun h => by simp at h, by unfold seqOk; rw [if_pos q1]; exact fun h => q3 h.2⟩
          simp [q1, q2, q3]
          refine Ent.refl ⟨i + 1, ⟨by omega, fin h⟩, by omega, ?_⟩
          simp
          exact ew
      · have q2' : r.has = false := by simpa using q2
        have h : repAt d i r := hra.2 ⟨fun h => by simp at h, by unfold seqOk; rw [if_pos q1]; exact fun h => q2 h.1⟩
        simp [q1, q2']
        refine Ent.refl ⟨i + 1, ⟨by omega, fin h⟩, by omega, ?_⟩
        simp
        exact ew
    · by_cases q2 : r.has = true
      · by_cases q3 : r.seq = sn.seq + 1
        · have h : repAt d i r := hra.2 ⟨fun h => by simp at h, by unfold seqOk; rw [if_neg q1]; exact ⟨q2, q3⟩⟩
          have q4 : ¬ sn.seq + 1 = sn.seq := by omega
          simp [q2, q3, e1, q4]
          refine Ent.refl ⟨i + 1, ⟨by omega, fin h⟩, by omega, ?_⟩
          simp
          exact ew
        · have h := hno (fun h => by have := (hra.1 h).2; unfold seqOk at this; rw [if_neg q1] at this; exact q3 this.2)
          simp [q1, q2, q3, e1, dc_neg h]
      · have q2' : r.has = false := by simpa using q2
        have h := hno (fun h => by have := (hra.1 h).2; unfold seqOk at this; rw [if_neg q1] at this; exact q2 this.1)
        simp [q1, q2', dc_neg h]
  · simp
    refine ACall.pure (signsSame_c t r.text (by omega)) (by simp) ?_
    have h := hno (fun h => ht ((hra.1 h).1 rfl))
    simp [ht, dc_neg h]
  · simp
    refine ACall.pure (signsSame_c t r.text (by omega)) (by simp) ?_
    simp [ht]
    refine ACall.pure (specSeenOf_c d (by omega) ((i : Int) + 1)) (by simp [Doc.row, s2]) ?_
    generalize seenOf d ((i : Int) + 1) = Q at hra hsb ⊢
    obtain ⟨sn, so⟩ := Q
    simp only at hra hsb ⊢
    have e1 := hsn sn hsb.1 hsb.2.1
    simp [Seen.res]
    intro b7
    by_cases q1 : r.seq = sn.seq
    · by_cases q2 : r.has = true
      · by_cases q3 : sn.rev ≤ r.rev
        · have h := hno (fun h => by have := (hra.1 h).2; unfold seqOk at this; rw [if_pos q1] at this; exact this ⟨q2, q3⟩)
          simp [q1, q2, q3, dc_neg h]
        · have h : repAt d i r := hra.2 ⟨fun _ => ht, by unfold seqOk; rw [if_pos q1]; exact fun h => q3 h.2⟩
          simp [q1, q2, q3]
          refine Ent.refl ⟨i + 1, ⟨by omega, fin h⟩, by omega, ?_⟩
          simp
          exact ew
      · have q2' : r.has = false := by simpa using q2
        have h : repAt d i r := hra.2 ⟨fun _ => ht, by unfold seqOk; rw [if_pos q1]; exact fun h => q2 h.1⟩
        simp [q1, q2']
        refine Ent.refl ⟨i + 1, ⟨by omega, fin h⟩, by omega, ?_⟩
        simp
        exact ew
    · by_cases q2 : r.has = true
      · by_cases q3 : r.seq = sn.seq + 1
        · have h : repAt d i r := hra.2 ⟨fun _ => ht, by unfold seqOk; rw [if_neg q1]; exact ⟨q2, q3⟩⟩
          have q4 : ¬ sn.seq + 1 = sn.seq := by omega
          simp [q2, q3, e1, q4]
          refine Ent.refl ⟨i + 1, ⟨by omega, fin h⟩, by omega, ?_⟩
          simp
          exact ew
        · have h := hno (fun h => by have := (hra.1 h).2; unfold seqOk at this; rw [if_neg q1] at this; exact q3 this.2)
          simp [q1, q2, q3, e1, dc_neg h]
      · have q2' : r.has = false := by simpa using q2
        have h := hno (fun h => by have := (hra.1 h).2; unfold seqOk at this; rw [if_neg q1] at this; exact q2 this.1)
        simp [q1, q2', dc_neg h]
end Go.Proofs.YtdfdabjdfmamgaaGreat

namespace Go.Proofs.YtdfdabjdfmamgaaGreat
set_option maxRecDepth 20000

/-- an operation sign by sign -/
inductive At where
  | k
  | p (c : Int)
  | d
def ats (p : Part) : List At := if p.kind = 2 then p.signs.map At.p else if p.kind = 3 then List.replicate (psz p) .d else List.replicate (psz p) .k
def atoms : List Part → List At
  | [] => []
  | p :: l => ats p ++ atoms l
theorem atoms_append : ∀ (a b : List Part), atoms (a ++ b) = atoms a ++ atoms b
  | [], b => rfl
  | p :: a, b => by simp [atoms, atoms_append a b]
def frA : List At → Nat
  | [] => 0
  | .p _ :: l => frA l
  | _ :: l => frA l + 1
def toA : List At → Nat
  | [] => 0
  | .d :: l => toA l
  | _ :: l => toA l + 1
theorem frA_append : ∀ (a b : List At), frA (a ++ b) = frA a + frA b
  | [], b => by simp [frA]
  | .p c :: a, b => by simp [frA, frA_append a b]
  | .k :: a, b => by simp [frA, frA_append a b]; omega
  | .d :: a, b => by simp [frA, frA_append a b]; omega
theorem toA_append : ∀ (a b : List At), toA (a ++ b) = toA a + toA b
  | [], b => by simp [toA]
  | .d :: a, b => by simp [toA, toA_append a b]
  | .k :: a, b => by simp [toA, toA_append a b]; omega
  | .p c :: a, b => by simp [toA, toA_append a b]; omega
theorem frA_ps : ∀ l : List Int, frA (l.map At.p) = 0
  | [] => rfl
  | c :: l => by simp [frA, frA_ps l]
theorem toA_ps : ∀ l : List Int, toA (l.map At.p) = l.length
  | [] => rfl
  | c :: l => by simp [toA, toA_ps l]
theorem frA_ks : ∀ n : Nat, frA (List.replicate n At.k) = n
  | 0 => rfl
  | n + 1 => by simp [List.replicate_succ, frA, frA_ks n]
theorem frA_ds : ∀ n : Nat, frA (List.replicate n At.d) = n
  | 0 => rfl
  | n + 1 => by simp [List.replicate_succ, frA, frA_ds n]
theorem toA_ks : ∀ n : Nat, toA (List.replicate n At.k) = n
  | 0 => rfl
  | n + 1 => by simp [List.replicate_succ, toA, toA_ks n]
theorem toA_ds : ∀ n : Nat, toA (List.replicate n At.d) = 0
  | 0 => rfl
  | n + 1 => by simp [List.replicate_succ, toA, toA_ds n]
theorem psz_put {p : Part} (h : partOk p) (k : p.kind = 2) : psz p = p.signs.length := by
  rw [partOk_put k] at h
  unfold psz
  omega
theorem ats_fr {p : Part} : frA (ats p) = if p.kind = 2 then 0 else psz p := by
  unfold ats
  split
  · exact frA_ps _
  · split
    · exact frA_ds _
    · exact frA_ks _
theorem ats_to {p : Part} (h : partOk p) : toA (ats p) = if p.kind = 3 then 0 else psz p := by
  unfold ats
  by_cases k : p.kind = 2
  · have : ¬ p.kind = 3 := by omega
    rw [if_pos k, if_neg this, toA_ps, psz_put h k]
  · rw [if_neg k]
    split
    · exact toA_ds _
    · exact toA_ks _
theorem frs_at : ∀ (o : List Part), frs o = frA (atoms o)
  | [] => rfl
  | p :: o => by simp only [frs, atoms, frA_append, ats_fr, frs_at o]
theorem tos_at : ∀ {o : List Part}, (∀ p ∈ o, partOk p) → tos o = toA (atoms o)
  | [], _ => rfl
  | p :: o, h => by
    simp only [tos, atoms, toA_append, ats_to (h p (List.mem_cons_self ..)), tos_at (fun q hq => h q (List.mem_cons_of_mem _ hq))]

/-- within a run of what is put and dropped, what is put comes first -/
def nA : List Int → Nat → List At → List At
  | P, n, [] => P.map At.p ++ List.replicate n .d
  | P, n, .k :: l => P.map At.p ++ (List.replicate n .d ++ .k :: nA [] 0 l)
  | P, n, .p c :: l => nA (P ++ [c]) n l
  | P, n, .d :: l => nA P (n + 1) l
def normA (l : List At) : List At := nA [] 0 l
theorem nA_fr : ∀ (l : List At) (P : List Int) (n : Nat), frA (nA P n l) = n + frA l
  | [], P, n => by simp [nA, frA, frA_append, frA_ps, frA_ds]
  | .k :: l, P, n => by simp [nA, frA, frA_append, frA_ps, frA_ds, nA_fr l]
  | .p c :: l, P, n => by simp [nA, frA, nA_fr l]
  | .d :: l, P, n => by simp [nA, frA, nA_fr l]; omega
theorem nA_to : ∀ (l : List At) (P : List Int) (n : Nat), toA (nA P n l) = P.length + toA l
  | [], P, n => by simp [nA, toA, toA_append, toA_ps, toA_ds]
  | .k :: l, P, n => by simp [nA, toA, toA_append, toA_ps, toA_ds, nA_to l]
  | .p c :: l, P, n => by simp [nA, toA, nA_to l]; omega
  | .d :: l, P, n => by simp [nA, toA, nA_to l]
theorem nA_ps : ∀ (Q P : List Int) (n : Nat) (l : List At), nA P n (Q.map At.p ++ l) = nA (P ++ Q) n l
  | [], P, n, l => by simp
  | c :: Q, P, n, l => by simp [nA, nA_ps Q]
theorem nA_ds : ∀ (m : Nat) (P : List Int) (n : Nat) (l : List At), nA P n (List.replicate m .d ++ l) = nA P (n + m) l
  | 0, P, n, l => by simp
  | m + 1, P, n, l => by simp [List.replicate_succ, nA, nA_ds m]; congr 1; omega
theorem nA_ks : ∀ (m : Nat) (l : List At), nA [] 0 (List.replicate m .k ++ l) = List.replicate m .k ++ nA [] 0 l
  | 0, l => by simp
  | m + 1, l => by simp [List.replicate_succ, nA, nA_ks m]
/-- how far the building is -/
def bA (s : List Part × List Int × Int) : List At := atoms s.1 ++ (s.2.1.map At.p ++ List.replicate s.2.2.toNat .d)
theorem flush_at {L : List Part} {P : List Int} {D : Int} : atoms (nbFlush L P D) = bA (L, P, D) := by
  unfold nbFlush bA
  rw [atoms_append, atoms_append]
  congr 1
  congr 1
  · split
    · rename_i h; simp [h, atoms]
    · simp [atoms, ats]
  · split
    · simp [atoms, ats, psz]
    · have : D.toNat = 0 := by omega
      simp [atoms, this]
theorem atoms_set_last : ∀ (L : List Part) (_h : 0 < L.length) (p : Part), atoms (L.set (L.length - 1) p) = atoms L.dropLast ++ ats p
  | [q], h, p => by simp [atoms]
  | q :: r :: L, h, p => by
    have ih := atoms_set_last (r :: L) (by simp) p
    simp only [List.length_cons, Nat.add_sub_cancel] at ih ⊢
    rw [List.set_cons_succ, atoms, ih]
    simp [atoms]
theorem atoms_last : ∀ (L : List Part) (h : 0 < L.length), atoms L = atoms L.dropLast ++ ats (L[L.length - 1]'(by omega))
  | [q], h => by simp [atoms]
  | q :: r :: L, h => by
    have ih := atoms_last (r :: L) (by simp)
    simp only [List.length_cons, Nat.add_sub_cancel] at ih ⊢
    rw [atoms, ih]
    simp [atoms]
theorem keep_at {L : List Part} {n : Int} (hn : 0 < n) (hL : ∀ q ∈ L, 0 ≤ q.n) (hk : ∀ q ∈ L, q.kind = 1 → q.signs = []) : atoms (nbKeep L n) = atoms L ++ List.replicate n.toNat .k := by
  unfold nbKeep
  split
  · rename_i h
    split
    · rename_i k
      have h1 := hL _ (List.getElem_mem (show L.length - 1 < L.length by omega))
      have h2 := hk _ (List.getElem_mem (show L.length - 1 < L.length by omega)) k
      rw [atoms_set_last L h, atoms_last L h, List.append_assoc]
      congr 1
      generalize L[L.length - 1]'(by omega) = q at h1 h2 k
      obtain ⟨a, b, c⟩ := q
      simp only at h1 h2 k
      subst k h2
      simp [ats, psz, List.replicate_append_replicate]
      omega
    · rw [atoms_append]
      simp [atoms, ats, psz]
  · rename_i h
    have : L = [] := List.eq_nil_of_length_eq_zero (by omega)
    subst this
    simp [atoms, ats, psz]
theorem flush_keeps {L : List Part} {P : List Int} {D : Int} (h : ∀ q ∈ L, q.kind = 1 → q.signs = []) : ∀ q ∈ nbFlush L P D, q.kind = 1 → q.signs = [] := by
  intro q hq hk
  unfold nbFlush at hq
  rcases List.mem_append.1 hq with hq | hq
  · exact h q hq hk
  · rcases List.mem_append.1 hq with hq | hq
    · split at hq
      · simp at hq
      · simp at hq; subst hq; simp at hk
    · split at hq
      · simp at hq; subst hq; rfl
      · simp at hq
theorem keep_keeps {L : List Part} {n : Int} (h : ∀ q ∈ L, q.kind = 1 → q.signs = []) : ∀ q ∈ nbKeep L n, q.kind = 1 → q.signs = [] := by
  intro q hq hk
  unfold nbKeep at hq
  split at hq
  · rename_i hl
    split at hq
    · rename_i k
      rcases List.mem_or_eq_of_mem_set hq with hq | rfl
      · exact h q hq hk
      · exact (h (L[L.length - 1]'(by omega)) (List.getElem_mem _) k :)
    · rcases List.mem_append.1 hq with hq | hq
      · exact h q hq hk
      · simp at hq; subst hq; rfl
  · simp at hq; subst hq; rfl
/-- what is built reads as the normal form of what was read, the open run apart -/
theorem nbRun_at {o : List Part} (ho : ∀ p ∈ o, partOk p) : ∀ (i : Nat), i ≤ o.length → (∀ q ∈ (nbRun (o.take i)).1, q.kind = 1 → q.signs = []) ∧ 0 ≤ (nbRun (o.take i)).2.2 ∧ (∀ q ∈ (nbRun (o.take i)).1, 0 ≤ q.n) ∧
    ∀ l, normA (atoms (o.take i) ++ l) = atoms (nbRun (o.take i)).1 ++ nA (nbRun (o.take i)).2.1 (nbRun (o.take i)).2.2.toNat l
  | 0, _ => by simp [nbRun, atoms, normA]
  | i + 1, hi => by
    obtain ⟨h1, h2, h3, h4⟩ := nbRun_at ho i (by omega)
    have hlt : i < o.length := by omega
    have hq := (nbRun_ok ho (i + 1) hi)
    have hp := (ho _ (List.getElem_mem hlt))
    have hb := hp.bounds
    refine ⟨?_, hq.d0, fun q hq' => (hq.q q hq').1, fun l => ?_⟩
    · rw [nbRun_suc hlt]
      unfold nbStep
      split
      · exact h1
      · split
        · exact h1
        · split
          · exact keep_keeps (flush_keeps h1)
          · exact h1
    · rw [← List.take_append_getElem hlt, atoms_append, List.append_assoc, h4, List.take_append_getElem hlt, nbRun_suc hlt]
      generalize nbRun (o.take i) = s at h1 h2 h3
      generalize o[i] = p at hp hb
      obtain ⟨L, P, D⟩ := s
      simp only at h1 h2 h3
      simp only [atoms, List.append_nil]
      unfold nbStep
      by_cases k2 : p.kind = 2
      · simp only [k2, if_true]
        rw [show ats p = p.signs.map At.p by unfold ats; rw [if_pos k2], nA_ps]
      · by_cases k3 : p.kind = 3
        · have hs := hb.2.2.2.2.2 k2
          have e : (D + p.n).toNat = D.toNat + p.n.toNat := by omega
          simp only [k3, if_true]
          rw [show ats p = List.replicate (psz p) .d by unfold ats; rw [if_neg k2, if_pos k3], nA_ds]
          simp [e, psz, hs]
        · have k1 : p.kind = 1 := by omega
          have hs := hb.2.2.2.2.2 k2
          have e : ats p = List.replicate p.n.toNat .k := by unfold ats; rw [if_neg k2, if_neg k3]; simp [psz, hs]
          simp only [k2, k3, if_false]
          rw [e]
          split
          · rename_i hn
            have hfl : ∀ q ∈ nbFlush L P D, 0 ≤ q.n := by
              intro q hq'
              unfold nbFlush at hq'
              rcases List.mem_append.1 hq' with hq' | hq'
              · exact h3 q hq'
              · rcases List.mem_append.1 hq' with hq' | hq'
                · split at hq'
                  · simp at hq'
                  · simp at hq'; subst hq'; simp
                · split at hq'
                  · simp at hq'; subst hq'; simp; omega
                  · simp at hq'
            simp only
            rw [keep_at hn hfl (flush_keeps h1), flush_at]
            obtain ⟨m, hm⟩ : ∃ m, p.n.toNat = m + 1 := ⟨p.n.toNat - 1, by omega⟩
            rw [hm]
            simp [bA, List.replicate_succ, nA, nA_ks, List.append_assoc]
          · have : p.n.toNat = 0 := by omega
            simp [this]
theorem normal_at {o : List Part} (ho : ∀ p ∈ o, partOk p) : atoms (normal o) = normA (atoms o) := by
  have h := (nbRun_at ho o.length (Nat.le_refl _)).2.2.2 []
  rw [List.take_length, List.append_nil] at h
  unfold normal
  rw [flush_at, h]
  unfold bA
  simp [nA]
theorem normA_fr (l : List At) : frA (normA l) = frA l := by unfold normA; rw [nA_fr]; omega
theorem normA_to (l : List At) : toA (normA l) = toA l := by unfold normA; rw [nA_to]; simp

/-- two operations past one another, sign by sign -/
def tA : List At → List At → List At × List At
  | .p c :: a, b => (.p c :: (tA a b).1, .k :: (tA a b).2)
  | [], .p c :: b => (.k :: (tA [] b).1, .p c :: (tA [] b).2)
  | .k :: a, .p c :: b => (.k :: (tA (.k :: a) b).1, .p c :: (tA (.k :: a) b).2)
  | .d :: a, .p c :: b => (.k :: (tA (.d :: a) b).1, .p c :: (tA (.d :: a) b).2)
  | .k :: a, .k :: b => (.k :: (tA a b).1, .k :: (tA a b).2)
  | .k :: a, .d :: b => ((tA a b).1, .d :: (tA a b).2)
  | .d :: a, .k :: b => (.d :: (tA a b).1, (tA a b).2)
  | .d :: a, .d :: b => tA a b
  | [], _ => ([], [])
  | _, [] => ([], [])
termination_by a b => a.length + b.length
def noP : List At → Bool
  | .p _ :: _ => false
  | _ => true
theorem tA_p {c : Int} {a b : List At} : tA (.p c :: a) b = (.p c :: (tA a b).1, .k :: (tA a b).2) := by rw [tA]
theorem tA_q {c : Int} {a b : List At} (h : noP a = true) : tA a (.p c :: b) = (.k :: (tA a b).1, .p c :: (tA a b).2) := by
  match a, h with
  | [], _ => rw [tA]
  | .k :: a, _ => rw [tA]
  | .d :: a, _ => rw [tA]
theorem tA_ps {a b : List At} : ∀ Q : List Int, tA (Q.map At.p ++ a) b = (Q.map At.p ++ (tA a b).1, List.replicate Q.length .k ++ (tA a b).2)
  | [] => by simp
  | c :: Q => by simp [tA_p, tA_ps Q, List.replicate_succ]
theorem tA_qs {a b : List At} (h : noP a = true) : ∀ Q : List Int, tA a (Q.map At.p ++ b) = (List.replicate Q.length .k ++ (tA a b).1, Q.map At.p ++ (tA a b).2)
  | [] => by simp
  | c :: Q => by simp [tA_q h, tA_qs h Q, List.replicate_succ]
theorem tA_kk {a b : List At} : ∀ n : Nat, tA (List.replicate n .k ++ a) (List.replicate n .k ++ b) = (List.replicate n .k ++ (tA a b).1, List.replicate n .k ++ (tA a b).2)
  | 0 => by simp
  | n + 1 => by simp [List.replicate_succ, tA, tA_kk n]
theorem tA_kd {a b : List At} : ∀ n : Nat, tA (List.replicate n .k ++ a) (List.replicate n .d ++ b) = ((tA a b).1, List.replicate n .d ++ (tA a b).2)
  | 0 => by simp
  | n + 1 => by simp [List.replicate_succ, tA, tA_kd n]
theorem tA_dk {a b : List At} : ∀ n : Nat, tA (List.replicate n .d ++ a) (List.replicate n .k ++ b) = (List.replicate n .d ++ (tA a b).1, (tA a b).2)
  | 0 => by simp
  | n + 1 => by simp [List.replicate_succ, tA, tA_dk n]
theorem tA_dd {a b : List At} : ∀ n : Nat, tA (List.replicate n .d ++ a) (List.replicate n .d ++ b) = tA a b
  | 0 => by simp
  | n + 1 => by simp [List.replicate_succ, tA, tA_dd n]
theorem atoms_nxt : ∀ {x : List Part}, (∀ p ∈ x, partOk p) → atoms (nxt x) = atoms x
  | [], _ => rfl
  | p :: l, h => by
    have ih := atoms_nxt (x := l) (fun q hq => h q (List.mem_cons_of_mem _ hq))
    unfold nxt
    split
    · rename_i hz
      rw [ih, atoms]
      have : ats p = [] := by
        have hp := h p (List.mem_cons_self ..)
        unfold ats
        split
        · rename_i k; rw [psz_put hp k] at hz; simp [List.eq_nil_of_length_eq_zero hz]
        · split <;> simp [hz]
      simp [this]
    · rfl
theorem ats_split {p : Part} (h : partOk p) {n : Nat} (hn : n ≤ psz p) : ats p = ats (pcut p n) ++ ats (pleft p n) := by
  have hb := h.bounds
  by_cases k2 : p.kind = 2
  · unfold ats pcut pleft
    simp only [k2, if_true]
    rw [← List.map_append, List.take_append_drop]
  · have hs := hb.2.2.2.2.2 k2
    have hz : psz p = p.n.toNat := by simp [psz, hs]
    have e : p.n.toNat = n + (p.n - n).toNat := by omega
    by_cases k3 : p.kind = 3
    · unfold ats pcut pleft
      simp only [k3, if_true]
      simp [psz, hs]
      omega
    · unfold ats pcut pleft
      simp only [k2, if_false, k3]
      simp [psz, hs]
      omega
theorem ats_left {p : Part} (h : partOk p) : ats (pleft p (psz p)) = [] := by
  have h1 := ats_split h (Nat.le_refl (psz p))
  rw [pcut_whole h] at h1
  simpa using h1
theorem ats_run {p : Part} (_h : partOk p) (k : p.kind ≠ 2) : ats p = if p.kind = 3 then List.replicate (psz p) .d else List.replicate (psz p) .k := by unfold ats; rw [if_neg k]
theorem ats_cut {p : Part} (h : partOk p) (k : p.kind ≠ 2) {n : Nat} (hn : n ≤ psz p) : ats (pcut p n) = if p.kind = 3 then List.replicate n .d else List.replicate n .k := by
  have hs := h.bounds.2.2.2.2.2 k
  have : psz (pcut p n) = n := by unfold psz pcut; rw [if_neg k]; simp [hs]
  rw [ats_run (pcut_ok h hn) (by simpa using k), this]
  simp
theorem ats_noP {p : Part} (h : partOk p) (k : p.kind ≠ 2) (hp : 0 < psz p) (l : List At) : noP (ats p ++ l) = true := by
  rw [ats_run h k]
  obtain ⟨m, hm⟩ : ∃ m, psz p = m + 1 := ⟨psz p - 1, by omega⟩
  rw [hm]
  split <;> simp [List.replicate_succ, noP]
theorem tstep_none {x y : List Part} (hi : TInv x y) (h : tstep x y = none) : nxt x = [] ∧ nxt y = [] := by
  have hxt := nxt_frs x
  have hyf := nxt_frs y
  have hb := hi.b
  unfold tstep at h
  cases ex : nxt x with
  | nil =>
    rw [ex] at h hxt
    cases ey : nxt y with
    | nil => exact ⟨rfl, rfl⟩
    | cons q y' =>
      rw [ey] at hyf
      have hp := nxt_pos ey
      simp only [ey] at h
      split at h
      · cases h
      · rename_i k
        simp [frs, k] at hxt hyf
        omega
  | cons p x' =>
    rw [ex] at h hxt
    have hp := nxt_pos ex
    simp only at h
    split at h
    · cases h
    · rename_i k
      cases ey : nxt y with
      | nil =>
        rw [ey] at hyf
        simp [frs, k] at hxt hyf
        omega
      | cons q y' =>
        simp only [ey] at h
        split at h <;> cases h
theorem xfK_at : ∀ (k : Nat) {x y : List Part}, TInv x y → tsz x + tsz y ≤ k → (atoms (xfK k x y).1, atoms (xfK k x y).2) = tA (atoms x) (atoms y)
  | 0, x, y, hi, h => by
    have hn : tstep x y = none := by
      cases hs : tstep x y with
      | none => rfl
      | some r => have := (tstep_next hi hs).dec; omega
    obtain ⟨e1, e2⟩ := tstep_none hi hn
    rw [← atoms_nxt hi.px, ← atoms_nxt hi.py, e1, e2]
    simp [xfK, atoms, tA]
  | k + 1, x, y, hi, h => by
    rw [xfK]
    cases hs : tstep x y with
    | none =>
      obtain ⟨e1, e2⟩ := tstep_none hi hs
      rw [← atoms_nxt hi.px, ← atoms_nxt hi.py, e1, e2]
      simp [atoms, tA]
    | some r =>
      have hn := tstep_next hi hs
      have hd := hn.dec
      have ih := xfK_at k hn.inv (by omega)
      simp only [atoms_append]
      rw [← atoms_nxt hi.px, ← atoms_nxt hi.py]
      generalize xfK k r.2.1 r.2.2 = Z at ih ⊢
      unfold tstep at hs
      cases ex : nxt x with
      | nil =>
        rw [ex] at hs
        cases ey : nxt y with
        | nil => simp [ey] at hs
        | cons q y' =>
          have hq := mem_nxt hi.py ey
          simp only [ey] at hs
          split at hs
          · rename_i kq
            cases hs
            simp only [atoms, ats_left hq.1, List.nil_append] at ih
            simp only [atoms, pcut_whole hq.1, List.append_nil]
            rw [show ats q = q.signs.map At.p by unfold ats; rw [if_pos kq], tA_qs rfl, ← ih]
            simp [ats, psz]
          · cases hs
      | cons p x' =>
        rw [ex] at hs
        have hp := mem_nxt hi.px ex
        have hpp := nxt_pos ex
        simp only at hs
        split at hs
        · rename_i kp
          cases hs
          simp only [atoms, ats_left hp.1, List.nil_append] at ih
          simp only [atoms, pcut_whole hp.1, List.append_nil, atoms_nxt hi.py]
          rw [show ats p = p.signs.map At.p by unfold ats; rw [if_pos kp], tA_ps, ← ih]
          simp [ats, psz]
        · rename_i kp
          cases ey : nxt y with
          | nil => simp [ey] at hs
          | cons q y' =>
            have hq := mem_nxt hi.py ey
            have hqp := nxt_pos ey
            simp only [ey] at hs
            split at hs
            · rename_i kq
              cases hs
              simp only [atoms, ats_left hq.1, List.nil_append] at ih
              simp only [atoms, pcut_whole hq.1, List.append_nil]
              rw [show ats q = q.signs.map At.p by unfold ats; rw [if_pos kq], tA_qs (ats_noP hp.1 kp hpp _), ← ih]
              simp [ats, psz]
            · rename_i kq
              cases hs
              have hn1 : min (psz p) (psz q) ≤ psz p := by omega
              have hn2 : min (psz p) (psz q) ≤ psz q := by omega
              simp only [atoms] at ih ⊢
              rw [ats_split hp.1 hn1, ats_split hq.1 hn2, ats_cut hp.1 kp hn1, ats_cut hq.1 kq hn2, List.append_assoc, List.append_assoc]
              have hb1 := hp.1.bounds.1
              have hb2 := hq.1.bounds.1
              generalize min (psz p) (psz q) = n at ih hn1 hn2 ⊢
              by_cases k1 : p.kind = 3 <;> by_cases k2 : q.kind = 3
              · have e1 : ¬ p.kind = 1 := by omega
                have e2 : ¬ q.kind = 1 := by omega
                simp only [k1, k2, if_true, tA_dd, ← ih]
                simp [atoms]
              · have e1 : ¬ p.kind = 1 := by omega
                have e2 : q.kind = 1 := by omega
                simp only [k1, k2, if_true, if_false, tA_dk, ← ih]
                simp [atoms, e2, ats_cut hp.1 kp hn1, k1]
              · have e1 : p.kind = 1 := by omega
                have e2 : ¬ q.kind = 1 := by omega
                simp only [k1, k2, if_true, if_false, tA_kd, ← ih]
                simp [atoms, e1, ats_cut hq.1 kq hn2, k2]
              · have e1 : p.kind = 1 := by omega
                have e2 : q.kind = 1 := by omega
                simp only [k1, k2, if_false, tA_kk, ← ih]
                simp [atoms, e1, e2, ats_cut hp.1 kp hn1, ats_cut hq.1 kq hn2]
theorem xf_at {x y : List Part} (hi : TInv x y) : (atoms (xf x y).1, atoms (xf x y).2) = tA (atoms x) (atoms y) := xfK_at _ hi (Nat.le_refl _)
/-- from where to where the transformed ones lead -/
theorem tA_len : ∀ (a b : List At), frA a = frA b → frA (tA a b).1 = toA b ∧ frA (tA a b).2 = toA a ∧ toA (tA a b).1 = toA (tA a b).2
  | .p c :: a, b, h => by
    have ih := tA_len a b (by simpa [frA] using h)
    rw [tA_p]; simp [frA, toA]; omega
  | [], .p c :: b, h => by
    have ih := tA_len [] b (by simpa [frA] using h)
    rw [tA_q rfl]; simp [frA, toA] at ih ⊢; omega
  | .k :: a, .p c :: b, h => by
    have ih := tA_len (.k :: a) b (by simpa [frA] using h)
    rw [tA_q rfl]; simp [frA, toA] at ih ⊢; omega
  | .d :: a, .p c :: b, h => by
    have ih := tA_len (.d :: a) b (by simpa [frA] using h)
    rw [tA_q rfl]; simp [frA, toA] at ih ⊢; omega
  | .k :: a, .k :: b, h => by
    have ih := tA_len a b (by simpa [frA] using h)
    rw [tA]; simp [frA, toA]; omega
  | .k :: a, .d :: b, h => by
    have ih := tA_len a b (by simpa [frA] using h)
    rw [tA]; simp [frA, toA]; omega
  | .d :: a, .k :: b, h => by
    have ih := tA_len a b (by simpa [frA] using h)
    rw [tA]; simp [frA, toA]; omega
  | .d :: a, .d :: b, h => by
    have ih := tA_len a b (by simpa [frA] using h)
    rw [tA]; simp [toA]; omega
  | [], [], h => by simp [tA, frA, toA]
  | [], .k :: b, h => by simp [frA] at h
  | [], .d :: b, h => by simp [frA] at h
  | .k :: a, [], h => by simp [frA] at h
  | .d :: a, [], h => by simp [frA] at h
termination_by a b => a.length + b.length
theorem xf_ok {x y : List Part} (hi : TInv x y) : (∀ p ∈ (xf x y).1, partOk p) ∧ ∀ p ∈ (xf x y).2, partOk p := by
  have key : ∀ (k : Nat) {x y : List Part}, TInv x y → (∀ p ∈ (xfK k x y).1, partOk p) ∧ ∀ p ∈ (xfK k x y).2, partOk p := by
    intro k
    induction k with
    | zero => intro x y hi; simp [xfK]
    | succ k ih =>
      intro x y hi
      rw [xfK]
      cases hs : tstep x y with
      | none => simp
      | some r =>
        have hn := tstep_next hi hs
        have h2 := ih hn.inv
        simp only [List.mem_append]
        exact ⟨fun p hp => hp.elim (hn.okx p) (h2.1 p), fun p hp => hp.elim (hn.oky p) (h2.2 p)⟩
  exact key _ hi
structure TrOk (a b : List Part) : Prop where
  oka : opOk a
  okb : opOk b
  from_ : opFrom a = opFrom b
  okx : opOk (fTransform a b).1
  oky : opOk (fTransform a b).2.1
  fx : opFrom (fTransform a b).1 = opTo b
  fy : opFrom (fTransform a b).2.1 = opTo a
  to : opTo (fTransform a b).1 = opTo (fTransform a b).2.1
  ax : atoms (fTransform a b).1 = normA (tA (atoms a) (atoms b)).1
  ay : atoms (fTransform a b).2.1 = normA (tA (atoms a) (atoms b)).2
theorem fTransform_ok {a b : List Part} (h : (fTransform a b).2.2 = true) : TrOk a b := by
  unfold fTransform at h
  split at h
  · rename_i h1
    split at h
    · rename_i h2
      have e : fTransform a b = (normal (xf a b).1, normal (xf a b).2, true) := by unfold fTransform; rw [if_pos h1, if_pos h2]
      have hi := tinv_of h1.1 h1.2.1 h1.2.2
      have hat := xf_at hi
      have hk := xf_ok hi
      have e1 : atoms (xf a b).1 = (tA (atoms a) (atoms b)).1 := by rw [← hat]
      have e2 : atoms (xf a b).2 = (tA (atoms a) (atoms b)).2 := by rw [← hat]
      have l := tA_len (atoms a) (atoms b) (by rw [← frs_at, ← frs_at]; exact hi.b)
      have n1 := normal_at hk.1
      have n2 := normal_at hk.2
      have f1 := frs_from h2.1
      have f2 := frs_from h2.2
      have t1 := tos_to h2.1
      have t2 := tos_to h2.2
      have t3 := tos_to h1.1
      have t4 := tos_to h1.2.1
      rw [frs_at, n1, normA_fr, e1, l.1] at f1
      rw [frs_at, n2, normA_fr, e2, l.2.1] at f2
      rw [tos_at h2.1.1.1, n1, normA_to, e1] at t1
      rw [tos_at h2.2.1.1, n2, normA_to, e2] at t2
      rw [tos_at h1.1.1.1] at t3
      rw [tos_at h1.2.1.1.1] at t4
      rw [e1] at n1
      rw [e2] at n2
      refine ⟨h1.1, h1.2.1, h1.2.2, ?_, ?_, ?_, ?_, ?_, ?_, ?_⟩ <;> rw [e]
      · exact h2.1
      · exact h2.2
      · simp only; omega
      · simp only; omega
      · simp only; have := l.2.2; omega
      · exact n1
      · exact n2
    · simp at h
  · simp at h
end Go.Proofs.YtdfdabjdfmamgaaGreat

namespace Go.Proofs.YtdfdabjdfmamgaaGreat
open Go.AM
set_option maxRecDepth 20000
noncomputable def pastL : List (List Part) → List Part → Option (List Part)
  | [], v => some v
  | a :: l, v => if (fTransform a v).2.2 = true then pastL l (fTransform a v).2.1 else none
open Classical in
noncomputable def fPast (l : List (List Part)) (b : List Part) : List Part × Bool :=
  if opOk b then match pastL l (opNorm b) with
    | some v => (v, true)
    | none => ([], false)
  else ([], false)
/-- a part as the builder makes it -/
structure Shp (q : Part) : Prop where
  k : q.kind = 1 ∨ q.kind = 2 ∨ q.kind = 3
  n : 0 ≤ q.n
  put : q.kind = 2 → q.n = 0 ∧ signsOk q.signs
  run : q.kind ≠ 2 → q.signs = []
  pos : 0 < psz q
theorem shp_flush {L : List Part} {P : List Int} {D : Int} (hL : ∀ q ∈ L, Shp q) (hP : signsOk P) : ∀ q ∈ nbFlush L P D, Shp q := by
  intro q hq
  unfold nbFlush at hq
  rcases List.mem_append.1 hq with hq | hq
  · exact hL q hq
  · rcases List.mem_append.1 hq with hq | hq
    · split at hq
      · simp at hq
      · rename_i h
        simp at hq; subst hq
        have : 0 < P.length := List.length_pos_iff.2 h
        exact ⟨.inr (.inl rfl), by simp, fun _ => ⟨rfl, hP⟩, fun h => absurd rfl h, by simpa [psz] using this⟩
    · split at hq
      · rename_i h
        simp at hq; subst hq
        exact ⟨.inr (.inr rfl), by simp only; omega, fun h => by simp at h, fun _ => rfl, by simp [psz]; omega⟩
      · simp at hq
theorem shp_keep {L : List Part} {n : Int} (hL : ∀ q ∈ L, Shp q) (hn : 0 < n) : ∀ q ∈ nbKeep L n, Shp q := by
  intro q hq
  have one : Shp ⟨1, n, []⟩ := ⟨.inl rfl, by simp only; omega, fun h => by simp at h, fun _ => rfl, by simp [psz]; omega⟩
  unfold nbKeep at hq
  split at hq
  · rename_i hl
    split at hq
    · rename_i k
      rcases List.mem_or_eq_of_mem_set hq with hq | rfl
      · exact hL q hq
      · have h := hL (L[L.length - 1]'(by omega)) (List.getElem_mem _)
        have h1 := h.n
        have h2 := h.run (by omega)
        exact ⟨.inl rfl, by simp only; omega, fun h => by simp at h, fun _ => h2, by simp [psz]; omega⟩
    · rcases List.mem_append.1 hq with hq | hq
      · exact hL q hq
      · simp at hq; subst hq; exact one
  · simp at hq; subst hq; exact one
theorem nbRun_shp {o : List Part} (ho : ∀ p ∈ o, partOk p) : ∀ (i : Nat), i ≤ o.length → (∀ q ∈ (nbRun (o.take i)).1, Shp q) ∧ signsOk (nbRun (o.take i)).2.1
  | 0, _ => by simp [nbRun, signsOk]
  | i + 1, hi => by
    obtain ⟨h1, h2⟩ := nbRun_shp ho i (by omega)
    have hlt : i < o.length := by omega
    have hp := ho _ (List.getElem_mem hlt)
    rw [nbRun_suc hlt]
    generalize nbRun (o.take i) = s at h1 h2
    generalize o[i] = p at hp
    obtain ⟨L, P, D⟩ := s
    simp only at h1 h2
    unfold nbStep
    split
    · rename_i k
      rw [partOk_put k] at hp
      refine ⟨h1, fun n hn => ?_⟩
      rcases List.mem_append.1 hn with hn | hn
      · exact h2 n hn
      · exact hp.2.2 n hn
    · split
      · exact ⟨h1, h2⟩
      · split
        · rename_i hn
          exact ⟨shp_keep (shp_flush h1 h2) hn, by simp [signsOk]⟩
        · exact ⟨h1, h2⟩
theorem normal_shp {o : List Part} (ho : ∀ p ∈ o, partOk p) : ∀ q ∈ normal o, Shp q := by
  have h := nbRun_shp ho o.length (Nat.le_refl _)
  rw [List.take_length] at h
  exact shp_flush h.1 h.2
theorem tos_shp : ∀ {L : List Part}, (∀ q ∈ L, Shp q) → tos L = toA (atoms L)
  | [], _ => rfl
  | p :: L, h => by
    have hp := h p (List.mem_cons_self ..)
    simp only [tos, atoms, toA_append, tos_shp (fun q hq => h q (List.mem_cons_of_mem _ hq))]
    congr 1
    unfold ats
    by_cases k : p.kind = 2
    · have k3 : ¬ p.kind = 3 := by omega
      have := (hp.put k).1
      rw [if_pos k, if_neg k3, toA_ps]
      simp [psz, this]
    · rw [if_neg k]
      split
      · exact (toA_ds _).symm
      · exact (toA_ks _).symm
theorem frs_mem {L : List Part} {q : Part} (h : q ∈ L) (k : q.kind ≠ 2) : psz q ≤ frs L := by
  induction L with
  | nil => simp at h
  | cons p L ih =>
    simp only [frs]
    rcases List.mem_cons.1 h with rfl | h
    · rw [if_neg k]; omega
    · have := ih h; omega
theorem tos_mem {L : List Part} {q : Part} (h : q ∈ L) (k : q.kind ≠ 3) : psz q ≤ tos L := by
  induction L with
  | nil => simp at h
  | cons p L ih =>
    simp only [tos]
    rcases List.mem_cons.1 h with rfl | h
    · rw [if_neg k]; omega
    · have := ih h; omega
theorem tsz_len : ∀ {L : List Part}, (∀ q ∈ L, Shp q) → L.length ≤ tsz L
  | [], _ => by simp [tsz]
  | p :: L, h => by
    have := tsz_len (fun q hq => h q (List.mem_cons_of_mem _ hq))
    have := (h p (List.mem_cons_self ..)).pos
    simp only [tsz, List.length_cons]
    omega
theorem shp_ok {L : List Part} (h : ∀ q ∈ L, Shp q) (h1 : frs L ≤ 200) (h2 : tos L ≤ 200) : partsOk L := by
  have hl := tsz_len h
  have ht := tsz_le L
  refine ⟨fun q hq => ?_, by omega⟩
  have hs := h q hq
  have hn := hs.n
  by_cases k : q.kind = 2
  · have h3 := tos_mem hq (by omega)
    have h4 := hs.put k
    exact .inr ⟨k, h4.1, by unfold psz at h3; omega, h4.2⟩
  · have h3 := frs_mem hq k
    have h4 := hs.run k
    have hk := hs.k
    exact .inl ⟨by omega, ⟨hn, by unfold psz at h3; omega⟩, h4⟩
theorem parts_from {o : List Part} (h : partsOk o) : (frs o : Int) = opFrom o := by
  rw [frs_sum h.1, sumI_congr (fun p hp => but2 (h.1 p hp)), sumI_add]
  unfold opFrom l02Sum; rw [if_pos h]
theorem parts_to {o : List Part} (h : partsOk o) : (tos o : Int) = opTo o := by
  rw [tos_sum h.1, sumI_congr (fun p hp => but3 (h.1 p hp)), sumI_add]
  unfold opTo l02Sum; rw [if_pos h]
/-- the normal form of what is right is right -/
theorem normal_ok {o : List Part} (h : opOk o) : opOk (normal o) ∧ opFrom (normal o) = opFrom o ∧ opTo (normal o) = opTo o := by
  have hs := normal_shp h.1.1
  have e1 : frs (normal o) = frs o := by rw [frs_at, normal_at h.1.1, normA_fr, ← frs_at]
  have e2 : tos (normal o) = tos o := by rw [tos_shp hs, normal_at h.1.1, normA_to, ← tos_at h.1.1]
  have f := frs_from h
  have t := tos_to h
  have hp := shp_ok hs (by have := h.2.1; omega) (by have := h.2.2; omega)
  have f2 := parts_from hp
  have t2 := parts_to hp
  have := h.2
  exact ⟨⟨hp, by omega, by omega⟩, by omega, by omega⟩
theorem opNorm_ok {o : List Part} (h : opOk o) : opOk (opNorm o) ∧ opFrom (opNorm o) = opFrom o ∧ opTo (opNorm o) = opTo o := by
  have : opNorm o = normal o := by unfold opNorm; rw [if_pos h]
  rw [this]; exact normal_ok h
def seenPut (c s r : Int) : List Seen → List Seen
  | [] => [⟨c, s, r⟩]
  | x :: l => if x.client < c then x :: seenPut c s r l else if x.client = c then ⟨c, s, r⟩ :: l else ⟨c, s, r⟩ :: x :: l
noncomputable def docPush (d : Doc) (e : Entry) : Doc :=
  if d.list.length < 8 then ⟨d.name, d.fr, d.text, d.list ++ [e], seenPut e.client e.seq (headRev d + 1) d.seen⟩
  else ⟨d.name, d.fr + 1, (apply ((d.list ++ [e])[0]'(by simp)).o d.text).1, (d.list ++ [e]).drop 1, seenPut e.client e.seq (headRev d + 1) d.seen⟩
open Classical in
noncomputable def fRebase (d : Doc) (base : Int) (o : List Part) : List Part × Int :=
  if docOk d ∧ opOk o then
    if headRev d < base then ([], 2) else if base < d.fr then ([], 3) else
    if opFrom o = (textAt d base).1.length then
      if (fPast ((d.list.drop (base - d.fr).toNat).map Entry.o) o).2 = true then ((fPast ((d.list.drop (base - d.fr).toNat).map Entry.o) o).1, 0) else ([], 5)
    else ([], 1)
  else ([], 1)
def subOk (d : Doc) (client seq : Int) (o : List Part) : Prop := docOk d ∧ (1 ≤ client ∧ client ≤ 8) ∧ (1 ≤ seq ∧ seq ≤ 1000000000) ∧ opOk o
open Classical in
noncomputable def fSubmit (d : Doc) (client seq base : Int) (o : List Part) : Doc × Int × Int :=
  if subOk d client seq o then
    if (seenOf d client).1.seq = seq then (d, (seenOf d client).1.rev, 0)
    else if (seenOf d client).1.seq + 1 = seq then
      if (fRebase d base o).2 = 0 then
        if 999999000 ≤ headRev d then (Doc.zero, 0, 5) else (docPush d ⟨client, seq, (fRebase d base o).1⟩, headRev d + 1, 0)
      else (Doc.zero, 0, (fRebase d base o).2)
    else (Doc.zero, 0, 4)
  else (Doc.zero, 0, 1)
open Classical in
noncomputable def fFetch (d : Doc) (rev : Int) : List Entry × Int :=
  if docOk d then if headRev d < rev then ([], 2) else if rev < d.fr then ([], 3) else (d.list.drop (rev - d.fr).toNat, 0) else ([], 1)
/-- what is past all applies to what is past all -/
theorem pastL_fits : ∀ (l : List (List Part)) (t u : List Int) (v v' : List Part), applyFrom l t = some u → pastL l v = some v' → opOk v → opFrom v = t.length → opOk v' ∧ opFrom v' = u.length
  | [], t, u, v, v', h1, h2, h3, h4 => by
    simp only [applyFrom, Option.some.injEq] at h1
    simp only [pastL, Option.some.injEq] at h2
    subst h1 h2
    exact ⟨h3, h4⟩
  | a :: l, t, u, v, v', h1, h2, h3, h4 => by
    rw [applyFrom] at h1
    rw [pastL] at h2
    split at h1
    · rename_i ha
      split at h2
      · rename_i ht
        have k := fTransform_ok ht
        have hl := (apply_textOk (apply_yes.1 ha)).2
        exact pastL_fits l _ u _ v' h1 h2 k.oky (by rw [k.fy]; omega)
      · cases h2
    · cases h1
theorem applyFrom_append : ∀ (l m : List (List Part)) (t : List Int), applyFrom (l ++ m) t = (applyFrom l t).bind (applyFrom m)
  | [], m, t => by simp [applyFrom]
  | o :: l, m, t => by
    rw [List.cons_append, applyFrom, applyFrom]
    split
    · exact applyFrom_append l m _
    · simp
theorem applyFrom_textOk : ∀ (l : List (List Part)) (t u : List Int), textOk t → applyFrom l t = some u → textOk u
  | [], t, u, h, e => by simp only [applyFrom, Option.some.injEq] at e; exact e ▸ h
  | o :: l, t, u, h, e => by
    rw [applyFrom] at e
    split at e
    · rename_i ha
      exact applyFrom_textOk l _ u (apply_textOk (apply_yes.1 ha)).1 e
    · cases e
/-- the texts of a right document -/
theorem textAt_some {d : Doc} (h : docOk d) {rev : Int} (h1 : d.fr ≤ rev) (h2 : rev ≤ headRev d) : (textAt d rev).2 = true ∧ applyFrom ((d.list.take (rev - d.fr).toNat).map Entry.o) d.text = some (textAt d rev).1 ∧ textOk (textAt d rev).1 ∧
    applyFrom ((d.list.drop (rev - d.fr).toNat).map Entry.o) (textAt d rev).1 = applyFrom (d.list.map Entry.o) d.text := by
  have hs := h.2.2.2.2.2.1
  have ht := h.2.2.1
  have e : d.list.map Entry.o = (d.list.take (rev - d.fr).toNat).map Entry.o ++ (d.list.drop (rev - d.fr).toNat).map Entry.o := by rw [← List.map_append, List.take_append_drop]
  have e2 : textAt d rev = applyAll ((d.list.take (rev - d.fr).toNat).map Entry.o) d.text := by unfold textAt; rw [if_pos ⟨h, h1, h2⟩]
  rw [e, applyFrom_append] at hs
  cases hx : applyFrom ((d.list.take (rev - d.fr).toNat).map Entry.o) d.text with
  | none => rw [hx] at hs; simp at hs
  | some u =>
    have e3 : applyAll ((d.list.take (rev - d.fr).toNat).map Entry.o) d.text = (u, true) := by unfold applyAll; rw [if_pos ht, hx]
    rw [e2, e3]
    refine ⟨rfl, rfl, applyFrom_textOk _ _ _ ht hx, ?_⟩
    conv => rhs; rw [e, applyFrom_append, hx]
    rfl
theorem headText_some {d : Doc} (h : docOk d) : applyFrom (d.list.map Entry.o) d.text = some (headText d) ∧ textOk (headText d) := by
  have hh := docOk_head h
  have h0 : d.fr ≤ headRev d := by omega
  obtain ⟨h1, h2, h3, h4⟩ := textAt_some h h0 (by omega)
  have e : (headRev d - d.fr).toNat = d.list.length := by omega
  rw [e, List.take_length] at h2
  exact ⟨h2, h3⟩
/-- what is rebased applies to the head -/
theorem fRebase_fits {d : Doc} {base : Int} {o : List Part} (hd : docOk d) (ho : opOk o) (h1 : d.fr ≤ base) (h2 : base ≤ headRev d) (hf : opFrom o = (textAt d base).1.length)
    (hp : (fPast ((d.list.drop (base - d.fr).toNat).map Entry.o) o).2 = true) : fits3 (fPast ((d.list.drop (base - d.fr).toNat).map Entry.o) o).1 (headText d) := by
  obtain ⟨k1, k2, k3, k4⟩ := textAt_some hd h1 h2
  obtain ⟨m1, m2⟩ := headText_some hd
  rw [m1] at k4
  unfold fPast at hp ⊢
  rw [if_pos ho] at hp ⊢
  cases hx : pastL ((d.list.drop (base - d.fr).toNat).map Entry.o) (opNorm o) with
  | none => rw [hx] at hp; simp at hp
  | some v =>
    have hn := opNorm_ok ho
    have := pastL_fits _ _ _ _ _ k4 hx hn.1 (by rw [hn.2.1, hf])
    exact ⟨this.1, m2, this.2⟩
end Go.Proofs.YtdfdabjdfmamgaaGreat

