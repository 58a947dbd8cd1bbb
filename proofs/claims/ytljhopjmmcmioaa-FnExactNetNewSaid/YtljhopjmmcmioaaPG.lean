import Derived.Test.YtljhopjmmcmioaaPF
import Derived.Test.YtljhopjmmcmioaaNA
namespace Go.Proofs.Ytljhopjmmcmioaa
open Go.AM
set_option maxRecDepth 20000
set_option maxHeartbeats 1600000

def seqOk (r : Rep) (s : Seen) : Prop := if r.seq = s.seq then ¬ (r.has = true ∧ s.rev ≤ r.rev) else r.has = true ∧ r.seq = s.seq + 1
def repAt (d : Doc) (i : Nat) (r : Rep) : Prop := repOk r ∧ r.client = i + 1 ∧ r.rev ≤ headRev d ∧ ((textAt d r.rev).2 = true → (textAt d r.rev).1 = r.text) ∧ seqOk r (seenOf d r.client).1
def netOk (n : Net) : Prop := docOk n.d ∧ (1 ≤ n.reps.length ∧ n.reps.length ≤ 4) ∧ ∀ i, ∀ h : i < n.reps.length, repAt n.d i n.reps[i]

theorem textAt_len (d : Doc) (rev : Int) : (textAt d rev).1.length ≤ 2 ^ 30 := by
  by_cases h : docOk d ∧ d.fr ≤ rev ∧ rev ≤ headRev d
  · rw [textAt_yes h]
    unfold applyAll
    split
    · split
      · rename_i u hu
        have key : ∀ (l : List (List Part)) (t : List Int), t.length ≤ 2 ^ 30 → ∀ u, applyFrom l t = some u → u.length ≤ 2 ^ 30 := by
          intro l
          induction l with
          | nil => intro t ht u hu; simp [applyFrom] at hu; subst hu; exact ht
          | cons o l ih =>
            intro t ht u hu
            rw [applyFrom] at hu
            split at hu
            · exact ih _ (by have := apply_len o t; omega) u hu
            · simp at hu
        exact key _ _ (by have := h.1.2.2.1.1; omega) _ hu
      · simp
    · simp
  · rw [textAt_no h]; simp

theorem implNetOk_i (n : Net) (hl : nNet n ≤ 2 ^ 30) : PureC Try.prog 46 [.agg n.row] (.one (.c (vb (netOk n)) 1)) := by
  refine PureC.intro' tt_ok Try.func46 (by kernel_rfl) rfl rfl rfl (Nat.le_of_ble_eq_true rfl) (fun w0 base => ?_)
  obtain ⟨d, l⟩ := n
  unfold nNet at hl
  simp only at hl
  have hle := nL_len (f := nRep) (B := 2 ^ 40) (l := l) (by omega)
  simp [Net.row]
  intro b1
  refine ACall.pure (implDocOk_c d (by omega)) (by simp [Doc.row]) ?_
  by_cases c1 : docOk d
  rotate_left
  · have h : ¬ netOk ⟨d, l⟩ := fun h => c1 h.1
    simp [dc_neg c1, dc_neg h]
  simp [c1]
  refine ACall.pure (within_c l.length 1 4) (by simp) ?_
  by_cases c2 : 1 ≤ l.length ∧ l.length ≤ 4
  rotate_left
  · have h : ¬ netOk ⟨d, l⟩ := fun h => c2 h.2.1
    have c2' : ¬ (1 ≤ (l.length : Int) ∧ (l.length : Int) ≤ 4) := by omega
    simp [dc_neg c2', dc_neg h]
  have c2' : 1 ≤ (l.length : Int) ∧ (l.length : Int) ≤ 4 := by omega
  have hh := docOk_head c1
  simp [c2']
  refine LoopT.introG eok (fun i : Nat => i ≤ l.length ∧ ∀ j, j < i → ∀ h : j < l.length, repAt d j l[j]) (fun i => ⟨98, 0, [(23, .v (.int .i64 i)), (22, .v (.int .i64 l.length)), (21, .ro (l.map Rep.row)), (1, .p 16 b1 0)],
    [(16, .vars b1 55 [.v (.string d.name), .v (.int .i64 d.fr), .ro (d.text.map intR), .ro (d.list.map Entry.row), .ro (d.seen.map Seen.row), .ro (l.map Rep.row)])]⟩) (fun i => l.length - i) 0 (by simp) (by simp) (fun i hi => Ent.refl ?_)
  by_cases hlt : i < l.length
  rotate_left
  · have h : netOk ⟨d, l⟩ := ⟨c1, c2, fun j hj => hi.2 j (by simp only at hj; omega) hj⟩
    simp [hlt, h]
  have hm := nL_mem (f := nRep) (B := 2 ^ 30) (l := l) (by omega) (List.getElem_mem hlt)
  obtain ⟨r, hr⟩ : ∃ r, l[i] = r := ⟨_, rfl⟩
  have hno : ¬ repAt d i r → ¬ netOk ⟨d, l⟩ := fun h hn => h (hr ▸ hn.2.2 i hlt)
  rw [hr] at hm
  have ew : Go.IntKind.i64.wrap ((i : Int) + 1) = (i : Int) + 1 := Go.IntWalk.i64_in _ (by omega)
  have hdn : nDoc d ≤ 2 ^ 30 := by omega
  have htext : r.text.length ≤ 2 ^ 30 := by unfold nRep at hm; omega
  simp [hlt, hr, Rep.row]
  intro b4
  refine DrawT.quiet eok mix (by kernel_rfl) ?_
  simp
  refine ⟨_, _, implRepOk_i r (by omega), by simp [Rep.row], ?_⟩
  by_cases s1 : repOk r
  rotate_left
  · simp [dc_neg s1, dc_neg (hno (fun h => s1 h.1))]
  simp [s1, ew]
  by_cases s2 : r.client = i + 1
  rotate_left
  · simp [s2, ew, dc_neg (hno (fun h => s2 h.2.1))]
  simp [s2, ew]
  refine ⟨_, _, implHeadRev_c d, by simp [Doc.row], ?_⟩
  by_cases s3 : r.rev ≤ headRev d
  rotate_left
  · have s3' : headRev d < r.rev := by omega
    simp [s3', dc_neg (hno (fun h => s3 h.2.2.1))]
  have s3' : ¬ headRev d < r.rev := by omega
  simp [s3']
  refine ACall.pure (implTextAt_c d hdn r.rev) (by simp [Doc.row]) ?_
  have htl := textAt_len d r.rev
  have hra : repAt d i r ↔ ((textAt d r.rev).2 = true → (textAt d r.rev).1 = r.text) ∧ seqOk r (seenOf d ((i : Int) + 1)).1 := by
    rw [← s2]
    exact ⟨fun h => h.2.2.2, fun h => ⟨s1, s2, s3, h⟩⟩
  have hsb := seenOf_b c1 ((i : Int) + 1)
  have fin : repAt d i r → ∀ j, j < i + 1 → ∀ h : j < l.length, repAt d j l[j] := by
    intro h j hj hjl
    by_cases hji : j = i
    · subst hji; rw [hr]; exact h
    · exact hi.2 j (by omega) hjl
  have hseq := s1.2.1
  generalize textAt d r.rev = T at htl hra ⊢
  obtain ⟨t, ok⟩ := T
  simp only at htl hra ⊢
  simp
  intro H1
  have hsn : ∀ S : Seen, 0 ≤ S.seq → S.seq ≤ 1000000000 → Go.IntKind.i64.wrap (S.seq + 1) = S.seq + 1 := fun S h1 h2 => Go.IntWalk.i64_in _ (by omega)
  have hcase : ok = false ∨ (ok = true ∧ t ≠ r.text) ∨ (ok = true ∧ t = r.text) := by
    cases ok with
    | false => exact .inl rfl
    | true => by_cases h : t = r.text
              · exact .inr (.inr ⟨rfl, h⟩)
              · exact .inr (.inl ⟨rfl, h⟩)
  rcases hcase with rfl | ⟨rfl, ht⟩ | ⟨rfl, ht⟩
  · simp
    refine ACall.pure (implSeenOf_c d (by omega) ((i : Int) + 1)) (by simp [Doc.row, s2]) ?_
    generalize seenOf d ((i : Int) + 1) = Q at hra hsb ⊢
    obtain ⟨sn, so⟩ := Q
    simp only at hra hsb ⊢
    have e1 := hsn sn hsb.1 hsb.2.1
    simp [Seen.res]
    intro b7
    by_cases q1 : r.seq = sn.seq
    · by_cases q2 : r.has = true
      · by_cases q3 : sn.rev ≤ r.rev
        · have h := hno (fun h => by have := (hra.1 h).2; unfold seqOk at this; rw [if_pos q1] at this; exact this ⟨q2, q3⟩)
          simp [q1, q2, q3, dc_neg h]
        · have h : repAt d i r := hra.2 ⟨fun h => by simp at h, by unfold seqOk; rw [if_pos q1]; exact fun h => q3 h.2⟩
          simp [q1, q2, q3]
          refine Ent.refl ⟨i + 1, ⟨by omega, fin h⟩, by omega, ?_⟩
          simp
          exact ew
      · have q2' : r.has = false := by simpa using q2
        have h : repAt d i r := hra.2 ⟨fun h => by simp at h, by unfold seqOk; rw [if_pos q1]; exact fun h => q2 h.1⟩
        simp [q1, q2']
        refine Ent.refl ⟨i + 1, ⟨by omega, fin h⟩, by omega, ?_⟩
        simp
        exact ew
    · by_cases q2 : r.has = true
      · by_cases q3 : r.seq = sn.seq + 1
        · have h : repAt d i r := hra.2 ⟨fun h => by simp at h, by unfold seqOk; rw [if_neg q1]; exact ⟨q2, q3⟩⟩
          have q4 : ¬ sn.seq + 1 = sn.seq := by omega
          simp [q2, q3, e1, q4]
          refine Ent.refl ⟨i + 1, ⟨by omega, fin h⟩, by omega, ?_⟩
          simp
          exact ew
        · have h := hno (fun h => by have := (hra.1 h).2; unfold seqOk at this; rw [if_neg q1] at this; exact q3 this.2)
          simp [q1, q2, q3, e1, dc_neg h]
      · have q2' : r.has = false := by simpa using q2
        have h := hno (fun h => by have := (hra.1 h).2; unfold seqOk at this; rw [if_neg q1] at this; exact q2 this.1)
        simp [q1, q2', dc_neg h]
  · simp
    refine ACall.pure (slEqInt_c t r.text (by omega)) (by simp) ?_
    have h := hno (fun h => ht ((hra.1 h).1 rfl))
    simp [ht, dc_neg h]
  · simp
    refine ACall.pure (slEqInt_c t r.text (by omega)) (by simp) ?_
    simp [ht]
    refine ACall.pure (implSeenOf_c d (by omega) ((i : Int) + 1)) (by simp [Doc.row, s2]) ?_
    generalize seenOf d ((i : Int) + 1) = Q at hra hsb ⊢
    obtain ⟨sn, so⟩ := Q
    simp only at hra hsb ⊢
    have e1 := hsn sn hsb.1 hsb.2.1
    simp [Seen.res]
    intro b7
    by_cases q1 : r.seq = sn.seq
    · by_cases q2 : r.has = true
      · by_cases q3 : sn.rev ≤ r.rev
        · have h := hno (fun h => by have := (hra.1 h).2; unfold seqOk at this; rw [if_pos q1] at this; exact this ⟨q2, q3⟩)
          simp [q1, q2, q3, dc_neg h]
        · have h : repAt d i r := hra.2 ⟨fun _ => ht, by unfold seqOk; rw [if_pos q1]; exact fun h => q3 h.2⟩
          simp [q1, q2, q3]
          refine Ent.refl ⟨i + 1, ⟨by omega, fin h⟩, by omega, ?_⟩
          simp
          exact ew
      · have q2' : r.has = false := by simpa using q2
        have h : repAt d i r := hra.2 ⟨fun _ => ht, by unfold seqOk; rw [if_pos q1]; exact fun h => q2 h.1⟩
        simp [q1, q2']
        refine Ent.refl ⟨i + 1, ⟨by omega, fin h⟩, by omega, ?_⟩
        simp
        exact ew
    · by_cases q2 : r.has = true
      · by_cases q3 : r.seq = sn.seq + 1
        · have h : repAt d i r := hra.2 ⟨fun _ => ht, by unfold seqOk; rw [if_neg q1]; exact ⟨q2, q3⟩⟩
          have q4 : ¬ sn.seq + 1 = sn.seq := by omega
          simp [q2, q3, e1, q4]
          refine Ent.refl ⟨i + 1, ⟨by omega, fin h⟩, by omega, ?_⟩
          simp
          exact ew
        · have h := hno (fun h => by have := (hra.1 h).2; unfold seqOk at this; rw [if_neg q1] at this; exact q3 this.2)
          simp [q1, q2, q3, e1, dc_neg h]
      · have q2' : r.has = false := by simpa using q2
        have h := hno (fun h => by have := (hra.1 h).2; unfold seqOk at this; rw [if_neg q1] at this; exact q2 this.1)
        simp [q1, q2', dc_neg h]
theorem specNetOk_i (n : Net) (hl : nNet n ≤ 2 ^ 30) : PureC Try.prog 45 [.agg n.row] (.one (.c (vb (netOk n)) 1)) := by
  refine PureC.intro' tt_ok Try.func45 (by kernel_rfl) rfl rfl rfl (Nat.le_of_ble_eq_true rfl) (fun w0 base => ?_)
  obtain ⟨d, l⟩ := n
  unfold nNet at hl
  simp only at hl
  have hle := nL_len (f := nRep) (B := 2 ^ 40) (l := l) (by omega)
  simp [Net.row]
  intro b1
  refine ACall.pure (specDocOk_c d (by omega)) (by simp [Doc.row]) ?_
  by_cases c1 : docOk d
  rotate_left
  · have h : ¬ netOk ⟨d, l⟩ := fun h => c1 h.1
    simp [dc_neg c1, dc_neg h]
  simp [c1]
  refine ACall.pure (l01In_c l.length 1 4) (by simp) ?_
  by_cases c2 : 1 ≤ l.length ∧ l.length ≤ 4
  rotate_left
  · have h : ¬ netOk ⟨d, l⟩ := fun h => c2 h.2.1
    have c2' : ¬ (1 ≤ (l.length : Int) ∧ (l.length : Int) ≤ 4) := by omega
    simp [dc_neg c2', dc_neg h]
  have c2' : 1 ≤ (l.length : Int) ∧ (l.length : Int) ≤ 4 := by omega
  have hh := docOk_head c1
  simp [c2']
  refine LoopT.introG eok (fun i : Nat => i ≤ l.length ∧ ∀ j, j < i → ∀ h : j < l.length, repAt d j l[j]) (fun i => ⟨107, 0, [(23, .v (.int .i64 i)), (22, .v (.int .i64 l.length)), (21, .ro (l.map Rep.row)), (1, .p 16 b1 0)],
    [(16, .vars b1 55 [.v (.string d.name), .v (.int .i64 d.fr), .ro (d.text.map intR), .ro (d.list.map Entry.row), .ro (d.seen.map Seen.row), .ro (l.map Rep.row)])]⟩) (fun i => l.length - i) 0 (by simp) (by simp) (fun i hi => Ent.refl ?_)
  by_cases hlt : i < l.length
  rotate_left
  · have h : netOk ⟨d, l⟩ := ⟨c1, c2, fun j hj => hi.2 j (by simp only at hj; omega) hj⟩
    simp [hlt, h]
  have hm := nL_mem (f := nRep) (B := 2 ^ 30) (l := l) (by omega) (List.getElem_mem hlt)
  obtain ⟨r, hr⟩ : ∃ r, l[i] = r := ⟨_, rfl⟩
  have hno : ¬ repAt d i r → ¬ netOk ⟨d, l⟩ := fun h hn => h (hr ▸ hn.2.2 i hlt)
  rw [hr] at hm
  have ew : Go.IntKind.i64.wrap ((i : Int) + 1) = (i : Int) + 1 := Go.IntWalk.i64_in _ (by omega)
  have hdn : nDoc d ≤ 2 ^ 30 := by omega
  have htext : r.text.length ≤ 2 ^ 30 := by unfold nRep at hm; omega
  simp [hlt, hr, Rep.row]
  intro b4
  refine DrawT.quiet eok mix (by kernel_rfl) ?_
  simp
  refine ⟨_, _, specRepOk_i r (by omega), by simp [Rep.row], ?_⟩
  by_cases s1 : repOk r
  rotate_left
  · simp [dc_neg s1, dc_neg (hno (fun h => s1 h.1))]
  simp [s1, ew]
  by_cases s2 : r.client = i + 1
  rotate_left
  · simp [s2, ew, dc_neg (hno (fun h => s2 h.2.1))]
  simp [s2, ew]
  refine ⟨_, _, specHeadRev_c d, by simp [Doc.row], ?_⟩
  by_cases s3 : r.rev ≤ headRev d
  rotate_left
  · have s3' : headRev d < r.rev := by omega
    simp [s3', dc_neg (hno (fun h => s3 h.2.2.1))]
  have s3' : ¬ headRev d < r.rev := by omega
  simp [s3']
  refine ACall.pure (specTextAt_c d hdn r.rev) (by simp [Doc.row]) ?_
  have htl := textAt_len d r.rev
  have hra : repAt d i r ↔ ((textAt d r.rev).2 = true → (textAt d r.rev).1 = r.text) ∧ seqOk r (seenOf d ((i : Int) + 1)).1 := by
    rw [← s2]
    exact ⟨fun h => h.2.2.2, fun h => ⟨s1, s2, s3, h⟩⟩
  have hsb := seenOf_b c1 ((i : Int) + 1)
  have fin : repAt d i r → ∀ j, j < i + 1 → ∀ h : j < l.length, repAt d j l[j] := by
    intro h j hj hjl
    by_cases hji : j = i
    · subst hji; rw [hr]; exact h
    · exact hi.2 j (by omega) hjl
  have hseq := s1.2.1
  generalize textAt d r.rev = T at htl hra ⊢
  obtain ⟨t, ok⟩ := T
  simp only at htl hra ⊢
  simp
  intro H1
  have hsn : ∀ S : Seen, 0 ≤ S.seq → S.seq ≤ 1000000000 → Go.IntKind.i64.wrap (S.seq + 1) = S.seq + 1 := fun S h1 h2 => Go.IntWalk.i64_in _ (by omega)
  have hcase : ok = false ∨ (ok = true ∧ t ≠ r.text) ∨ (ok = true ∧ t = r.text) := by
    cases ok with
    | false => exact .inl rfl
    | true => by_cases h : t = r.text
              · exact .inr (.inr ⟨rfl, h⟩)
              · exact .inr (.inl ⟨rfl, h⟩)
  rcases hcase with rfl | ⟨rfl, ht⟩ | ⟨rfl, ht⟩
  · simp
    refine ACall.pure (specSeenOf_c d (by omega) ((i : Int) + 1)) (by simp [Doc.row, s2]) ?_
    generalize seenOf d ((i : Int) + 1) = Q at hra hsb ⊢
    obtain ⟨sn, so⟩ := Q
    simp only at hra hsb ⊢
    have e1 := hsn sn hsb.1 hsb.2.1
    simp [Seen.res]
    intro b7
    by_cases q1 : r.seq = sn.seq
    · by_cases q2 : r.has = true
      · by_cases q3 : sn.rev ≤ r.rev
        · have h := hno (fun h => by have := (hra.1 h).2; unfold seqOk at this; rw [if_pos q1] at this; exact this ⟨q2, q3⟩)
          simp [q1, q2, q3, dc_neg h]
        · have h : repAt d i r := hra.2 ⟨fun h => by simp at h, by unfold seqOk; rw [if_pos q1]; exact fun h => q3 h.2⟩
          simp [q1, q2, q3]
          refine Ent.refl ⟨i + 1, ⟨by omega, fin h⟩, by omega, ?_⟩
          simp
          exact ew
      · have q2' : r.has = false := by simpa using q2
        have h : repAt d i r := hra.2 ⟨fun h => by simp at h, by unfold seqOk; rw [if_pos q1]; exact fun h => q2 h.1⟩
        simp [q1, q2']
        refine Ent.refl ⟨i + 1, ⟨by omega, fin h⟩, by omega, ?_⟩
        simp
        exact ew
    · by_cases q2 : r.has = true
      · by_cases q3 : r.seq = sn.seq + 1
        · have h : repAt d i r := hra.2 ⟨fun h => by simp at h, by unfold seqOk; rw [if_neg q1]; exact ⟨q2, q3⟩⟩
          have q4 : ¬ sn.seq + 1 = sn.seq := by omega
          simp [q2, q3, e1, q4]
          refine Ent.refl ⟨i + 1, ⟨by omega, fin h⟩, by omega, ?_⟩
          simp
          exact ew
        · have h := hno (fun h => by have := (hra.1 h).2; unfold seqOk at this; rw [if_neg q1] at this; exact q3 this.2)
          simp [q1, q2, q3, e1, dc_neg h]
      · have q2' : r.has = false := by simpa using q2
        have h := hno (fun h => by have := (hra.1 h).2; unfold seqOk at this; rw [if_neg q1] at this; exact q2 this.1)
        simp [q1, q2', dc_neg h]
  · simp
    refine ACall.pure (signsSame_c t r.text (by omega)) (by simp) ?_
    have h := hno (fun h => ht ((hra.1 h).1 rfl))
    simp [ht, dc_neg h]
  · simp
    refine ACall.pure (signsSame_c t r.text (by omega)) (by simp) ?_
    simp [ht]
    refine ACall.pure (specSeenOf_c d (by omega) ((i : Int) + 1)) (by simp [Doc.row, s2]) ?_
    generalize seenOf d ((i : Int) + 1) = Q at hra hsb ⊢
    obtain ⟨sn, so⟩ := Q
    simp only at hra hsb ⊢
    have e1 := hsn sn hsb.1 hsb.2.1
    simp [Seen.res]
    intro b7
    by_cases q1 : r.seq = sn.seq
    · by_cases q2 : r.has = true
      · by_cases q3 : sn.rev ≤ r.rev
        · have h := hno (fun h => by have := (hra.1 h).2; unfold seqOk at this; rw [if_pos q1] at this; exact this ⟨q2, q3⟩)
          simp [q1, q2, q3, dc_neg h]
        · have h : repAt d i r := hra.2 ⟨fun _ => ht, by unfold seqOk; rw [if_pos q1]; exact fun h => q3 h.2⟩
          simp [q1, q2, q3]
          refine Ent.refl ⟨i + 1, ⟨by omega, fin h⟩, by omega, ?_⟩
          simp
          exact ew
      · have q2' : r.has = false := by simpa using q2
        have h : repAt d i r := hra.2 ⟨fun _ => ht, by unfold seqOk; rw [if_pos q1]; exact fun h => q2 h.1⟩
        simp [q1, q2']
        refine Ent.refl ⟨i + 1, ⟨by omega, fin h⟩, by omega, ?_⟩
        simp
        exact ew
    · by_cases q2 : r.has = true
      · by_cases q3 : r.seq = sn.seq + 1
        · have h : repAt d i r := hra.2 ⟨fun _ => ht, by unfold seqOk; rw [if_neg q1]; exact ⟨q2, q3⟩⟩
          have q4 : ¬ sn.seq + 1 = sn.seq := by omega
          simp [q2, q3, e1, q4]
          refine Ent.refl ⟨i + 1, ⟨by omega, fin h⟩, by omega, ?_⟩
          simp
          exact ew
        · have h := hno (fun h => by have := (hra.1 h).2; unfold seqOk at this; rw [if_neg q1] at this; exact q3 this.2)
          simp [q1, q2, q3, e1, dc_neg h]
      · have q2' : r.has = false := by simpa using q2
        have h := hno (fun h => by have := (hra.1 h).2; unfold seqOk at this; rw [if_neg q1] at this; exact q2 this.1)
        simp [q1, q2', dc_neg h]

noncomputable def fNetOk (n : Net) : Bool := dc (netOk n)
theorem fNetOk_b (n : Net) (_ : n.fits) (_ : nNet n ≤ 2 ^ 20) : True := trivial
theorem specNetOk_c (n : Net) (_ : n.fits) (h : nNet n ≤ 2 ^ 20) : PureC Try.prog 45 [.agg n.row] (.one (.c (.v (.bool (fNetOk n))) 1)) := specNetOk_i n (by omega)
theorem implNetOk_c (n : Net) (_ : n.fits) (h : nNet n ≤ 2 ^ 20) : PureC Try.prog 46 [.agg n.row] (.one (.c (.v (.bool (fNetOk n))) 1)) := implNetOk_i n (by omega)
end Go.Proofs.Ytljhopjmmcmioaa

namespace Go.Proofs.Ytljhopjmmcmioaa
open Go.AM
set_option maxRecDepth 20000
set_option maxHeartbeats 1600000

def Doc.zero : Doc := ⟨⟨#[]⟩, 0, [], [], []⟩
def Net.zero : Net := ⟨Doc.zero, []⟩
theorem Doc.zero_n : nDoc Doc.zero = 0 := rfl
theorem Net.zero_n : nNet Net.zero = 0 := rfl
def doc0 (name : ByteArray) (t : List Int) : Doc := ⟨name, 0, t, [], []⟩
open Classical in
noncomputable def fDocNew (name : ByteArray) (t : List Int) : Doc × Bool := if docOk (doc0 name t) then (doc0 name t, true) else (Doc.zero, false)
theorem doc0_n (name : ByteArray) (t : List Int) : nDoc (doc0 name t) = name.size + t.length := by simp [nDoc, doc0, nL, sumN]
theorem implDocNew_c (name : ByteArray) (t : List Int) (h1 : name.size ≤ 2 ^ 28) (h2 : t.length ≤ 2 ^ 28) : PureC Try.prog 103 [.c (.v (.string name)), .c (.s (t.map intR))] (.tup [.agg (fDocNew name t).1.res, .c (.v (.bool (fDocNew name t).2)) 1]) := by
  refine PureC.intro' tt_ok Try.func103 (by kernel_rfl) rfl rfl rfl (Nat.le_of_ble_eq_true rfl) (fun w0 base => ?_)
  have hn := doc0_n name t
  simp
  intro b4
  refine ACall.pure (copyInts_c t (by omega)) (by simp) ?_
  simp
  intro H9 b6
  refine ACall.pure (implDocOk_c (doc0 name t) (by omega)) (by simp [Doc.row, doc0]) ?_
  by_cases c : docOk (doc0 name t)
  · have e : fDocNew name t = (doc0 name t, true) := by unfold fDocNew; rw [if_pos c]
    simp [c, e, Doc.res]
    simp [doc0]
  · have e : fDocNew name t = (Doc.zero, false) := by unfold fDocNew; rw [if_neg c]
    simp [dc_neg c, e, Doc.res, Doc.zero]
theorem specDocNew_c (name : ByteArray) (t : List Int) (h1 : name.size ≤ 2 ^ 28) (h2 : t.length ≤ 2 ^ 28) : PureC Try.prog 100 [.c (.v (.string name)), .c (.s (t.map intR))] (.tup [.agg (fDocNew name t).1.res, .c (.v (.bool (fDocNew name t).2)) 1]) := by
  refine PureC.intro' tt_ok Try.func100 (by kernel_rfl) rfl rfl rfl (Nat.le_of_ble_eq_true rfl) (fun w0 base => ?_)
  have hn := doc0_n name t
  simp
  intro b4 b8
  refine ⟨by omega, fun H9 b6 => ?_⟩
  refine ACall.pure (specDocOk_c (doc0 name t) (by omega)) (by simp [Doc.row, doc0]) ?_
  by_cases c : docOk (doc0 name t)
  · have e : fDocNew name t = (doc0 name t, true) := by unfold fDocNew; rw [if_pos c]
    simp [c, e, Doc.res]
    simp [doc0]
  · have e : fDocNew name t = (Doc.zero, false) := by unfold fDocNew; rw [if_neg c]
    simp [dc_neg c, e, Doc.res, Doc.zero]

noncomputable def newReps (t : List Int) (k : Nat) : List Rep := (List.range k).map fun i : Nat => (fRepNew ((i : Int) + 1) 0 0 t).1
open Classical in
noncomputable def fNetNew (name : ByteArray) (t : List Int) (many : Int) : Net × Bool := if (fDocNew name t).2 = true ∧ 1 ≤ many ∧ many ≤ 4 then (⟨(fDocNew name t).1, newReps t many.toNat⟩, true) else (Net.zero, false)
theorem newReps_suc (t : List Int) (i : Nat) : newReps t (i + 1) = newReps t i ++ [(fRepNew ((i : Int) + 1) 0 0 t).1] := by simp [newReps, List.range_succ]
theorem newReps_len (t : List Int) (i : Nat) : (newReps t i).length = i := by simp [newReps]
theorem fNetNew_no {name : ByteArray} {t : List Int} {many : Int} (h : ¬ ((fDocNew name t).2 = true ∧ 1 ≤ many ∧ many ≤ 4)) : fNetNew name t many = (Net.zero, false) := by unfold fNetNew; rw [if_neg h]
theorem fNetNew_yes {name : ByteArray} {t : List Int} {many : Int} (h : (fDocNew name t).2 = true ∧ 1 ≤ many ∧ many ≤ 4) : fNetNew name t many = (⟨(fDocNew name t).1, newReps t many.toNat⟩, true) := by unfold fNetNew; rw [if_pos h]
theorem fRepNew_n (a b c : Int) (t : List Int) : nRep (fRepNew a b c t).1 ≤ t.length + 2 := by
  unfold fRepNew
  exact repOr_n (repNew0_n a b c t)
theorem newReps_n (t : List Int) : ∀ k : Nat, nL nRep (newReps t k) ≤ k * (t.length + 3)
  | 0 => by simp [newReps, nL, sumN]
  | k + 1 => by
    have ih := newReps_n t k
    have h := fRepNew_n ((k : Int) + 1) 0 0 t
    rw [newReps_suc]
    unfold nL at ih ⊢
    rw [sumN_append, List.length_append]
    simp only [sumN, List.length_cons, List.length_nil]
    have : (k + 1) * (t.length + 3) = k * (t.length + 3) + (t.length + 3) := Nat.succ_mul _ _
    omega
theorem fNetNew_b (name : ByteArray) (_ : name.size ≤ 9223372036854775807) (h0 : name.size ≤ 2 ^ 20) (t : List Int) (_ : t.length ≤ 9223372036854775807 ∧ ∀ n ∈ t, i64r n) (h1 : t.length ≤ 2 ^ 20) (many : Int) (_ : i64r many) : nNet (fNetNew name t many).1 ≤ 2 ^ 40 := by
  by_cases h : (fDocNew name t).2 = true ∧ 1 ≤ many ∧ many ≤ 4
  · rw [fNetNew_yes h]
    have hn := doc0_n name t
    have hk := newReps_n t many.toNat
    have h4 : many.toNat * (t.length + 3) ≤ 4 * (t.length + 3) := Nat.mul_le_mul_right _ (by omega)
    have hd : nDoc (fDocNew name t).1 ≤ 2 ^ 21 := by
      unfold fDocNew
      split
      · simp only; omega
      · simp [Doc.zero_n]
    unfold nNet
    simp only
    omega
  · rw [fNetNew_no h]
    simp [Net.zero_n]

theorem implNetNew_c (name : ByteArray) (_ : name.size ≤ 9223372036854775807) (h0 : name.size ≤ 2 ^ 20) (t : List Int) (ft : t.length ≤ 9223372036854775807 ∧ ∀ n ∈ t, i64r n) (h1 : t.length ≤ 2 ^ 20) (many : Int) (_ : i64r many) :
    PureC Try.prog 40 [.c (.v (.string name)), .c (.s (t.map intR)), .c (vi many)] (.tup [.agg (fNetNew name t many).1.res, .c (.v (.bool (fNetNew name t many).2)) 1]) := by
  refine PureC.intro' tt_ok Try.func40 (by kernel_rfl) rfl rfl rfl (Nat.le_of_ble_eq_true rfl) (fun w0 base => ?_)
  have hno := fNetNew_no (name := name) (t := t) (many := many)
  have hyes := fNetNew_yes (name := name) (t := t) (many := many)
  simp
  intro b6
  refine ACall.pure (implDocNew_c name t (by omega) (by omega)) (by simp) ?_
  generalize fDocNew name t = D at hno hyes ⊢
  obtain ⟨d, ok⟩ := D
  simp only at hno hyes ⊢
  simp [Doc.res]
  intro H2 H3 H4 b8
  cases ok with
  | false =>
    have e := hno (by simp)
    simp [e, Net.res, Net.zero, Doc.zero]
  | true =>
  simp
  refine ACall.pure (within_c many 1 4) (by simp) ?_
  by_cases c : 1 ≤ many ∧ many ≤ 4
  rotate_left
  · have e := hno (fun h => c h.2)
    simp [dc_neg c, e, Net.res, Net.zero, Doc.zero]
  have e := hyes ⟨rfl, c⟩
  simp [c]
  intro b10
  obtain ⟨m, rfl⟩ : ∃ m : Nat, many = m := ⟨many.toNat, by omega⟩
  simp only [Int.toNat_natCast] at e
  refine LoopT.introG eok (fun x : Nat × Hd => x.1 ≤ m) (fun x => ⟨49, 0, [(11, .v (.int .i64 x.1)), (2, .v (.int .i64 m)), (1, .ro (t.map intR)), (6, .p 96 b6 0), (10, .p 160 b10 0)],
    [(160, .vars b10 55 [.v (.string d.name), .v (.int .i64 d.fr), .sl 274 H2 1 0 d.text.length, .sl 275 H3 3 0 d.list.length, .sl 276 H4 3 0 d.seen.length, .sl 5000 x.2 7 0 x.1]), (96, .vars b6 55 [.v (.string ⟨#[]⟩), .v (.int .i64 0), .nil, .nil, .nil, .nil]),
     (274, .rows H2 1 (d.text.map intR) true), (275, .rows H3 3 (d.list.map Entry.row) true), (276, .rows H4 3 (d.seen.map Seen.row) true), (5000, .rows x.2 7 ((newReps t x.1).map Rep.row) true)]⟩) (fun x => m - x.1) (0, none) (by simp) (by simp [newReps]) (fun x hi => Ent.refl ?_)
  obtain ⟨i, H⟩ := x
  simp only at hi ⊢
  by_cases hlt : i < m
  · have ew : Go.IntKind.i64.wrap ((i : Int) + 1) = (i : Int) + 1 := Go.IntWalk.i64_in _ (by omega)
    simp [hlt, ew]
    refine ACall.pure (implRepNew_c ((i : Int) + 1) (by unfold i64r; omega) 0 (by unfold i64r; omega) 0 (by unfold i64r; omega) t ft h1) (by simp) ?_
    have hs := newReps_suc t i
    generalize fRepNew ((i : Int) + 1) 0 0 t = Q at hs ⊢
    obtain ⟨r, ok2⟩ := Q
    simp only at hs ⊢
    simp [Rep.res]
    intro G3 G5 G6 b12
    simp [newReps_len]
    intro b45
    refine ⟨by omega, fun H' => Ent.refl ⟨i + 1, by omega, by omega, H', ?_⟩⟩
    rw [hs]
    simp [Rep.row, ew]
  · have hm : i = m := by omega
    subst hm
    simp [e, Net.res, newReps_len]
theorem specNetNew_c (name : ByteArray) (_ : name.size ≤ 9223372036854775807) (h0 : name.size ≤ 2 ^ 20) (t : List Int) (ft : t.length ≤ 9223372036854775807 ∧ ∀ n ∈ t, i64r n) (h1 : t.length ≤ 2 ^ 20) (many : Int) (_ : i64r many) :
    PureC Try.prog 38 [.c (.v (.string name)), .c (.s (t.map intR)), .c (vi many)] (.tup [.agg (fNetNew name t many).1.res, .c (.v (.bool (fNetNew name t many).2)) 1]) := by
  refine PureC.intro' tt_ok Try.func38 (by kernel_rfl) rfl rfl rfl (Nat.le_of_ble_eq_true rfl) (fun w0 base => ?_)
  have hno := fNetNew_no (name := name) (t := t) (many := many)
  have hyes := fNetNew_yes (name := name) (t := t) (many := many)
  simp
  intro b6
  refine ACall.pure (specDocNew_c name t (by omega) (by omega)) (by simp) ?_
  generalize fDocNew name t = D at hno hyes ⊢
  obtain ⟨d, ok⟩ := D
  simp only at hno hyes ⊢
  simp [Doc.res]
  intro H2 H3 H4 b8
  cases ok with
  | false =>
    have e := hno (by simp)
    simp [e, Net.res, Net.zero, Doc.zero]
  | true =>
  simp
  refine ACall.pure (l01In_c many 1 4) (by simp) ?_
  by_cases c : 1 ≤ many ∧ many ≤ 4
  rotate_left
  · have e := hno (fun h => c h.2)
    simp [dc_neg c, e, Net.res, Net.zero, Doc.zero]
  have e := hyes ⟨rfl, c⟩
  simp [c]
  intro b10
  obtain ⟨m, rfl⟩ : ∃ m : Nat, many = m := ⟨many.toNat, by omega⟩
  simp only [Int.toNat_natCast] at e
  refine LoopT.introG eok (fun x : Nat × Hd => x.1 ≤ m) (fun x => ⟨48, 0, [(11, .v (.int .i64 ((x.1 : Int) + 1))), (2, .v (.int .i64 m)), (1, .ro (t.map intR)), (6, .p 96 b6 0), (10, .p 160 b10 0)],
    [(160, .vars b10 55 [.v (.string d.name), .v (.int .i64 d.fr), .sl 274 H2 1 0 d.text.length, .sl 275 H3 3 0 d.list.length, .sl 276 H4 3 0 d.seen.length, .sl 5000 x.2 7 0 x.1]), (96, .vars b6 55 [.v (.string ⟨#[]⟩), .v (.int .i64 0), .nil, .nil, .nil, .nil]),
     (274, .rows H2 1 (d.text.map intR) true), (275, .rows H3 3 (d.list.map Entry.row) true), (276, .rows H4 3 (d.seen.map Seen.row) true), (5000, .rows x.2 7 ((newReps t x.1).map Rep.row) true)]⟩) (fun x => m - x.1) (0, none) (by simp) (by simp [newReps]) (fun x hi => Ent.refl ?_)
  obtain ⟨i, H⟩ := x
  simp only at hi ⊢
  by_cases hlt : i < m
  · have hlt' : (i : Int) + 1 ≤ m := by omega
    have ew2 : Go.IntKind.i64.wrap ((i : Int) + 1 + 1) = (i : Int) + 1 + 1 := Go.IntWalk.i64_in _ (by omega)
    simp [hlt']
    refine ACall.pure (specRepNew_c ((i : Int) + 1) (by unfold i64r; omega) 0 (by unfold i64r; omega) 0 (by unfold i64r; omega) t ft h1) (by simp) ?_
    have hs := newReps_suc t i
    generalize fRepNew ((i : Int) + 1) 0 0 t = Q at hs ⊢
    obtain ⟨r, ok2⟩ := Q
    simp only at hs ⊢
    simp [Rep.res]
    intro G3 G5 G6 b12
    simp [newReps_len]
    intro b45
    refine ⟨by omega, fun H' => Ent.refl ⟨i + 1, by omega, by omega, H', ?_⟩⟩
    rw [hs]
    simp [Rep.row, ew2]
  · have hm : i = m := by omega
    subst hm
    have hlt' : ¬ (i : Int) + 1 ≤ i := by omega
    simp [hlt', e, Net.res, newReps_len]
end Go.Proofs.Ytljhopjmmcmioaa

