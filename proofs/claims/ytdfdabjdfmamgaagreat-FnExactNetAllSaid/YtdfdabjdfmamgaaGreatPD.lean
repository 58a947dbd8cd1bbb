import Derived.Test.YtdfdabjdfmamgaaGreatPC
import Derived.Test.YtdfdabjdfmamgaaGreatNA
import Derived.Test.YtdfdabjdfmamgaaGreatPB
namespace Go.Proofs.YtdfdabjdfmamgaaGreat
open Go.AM
set_option maxRecDepth 20000

/-- what is made of a text, from a place on -/
def apStep (t : List Int) (s : List Int × Int) (p : Part) : List Int × Int :=
  if p.kind = 1 then (s.1 ++ (t.drop s.2.toNat).take p.n.toNat, s.2 + p.n) else if p.kind = 2 then (s.1 ++ p.signs, s.2) else (s.1, s.2 + p.n)
def apRun (o : List Part) (t : List Int) : List Int × Int := o.foldl (apStep t) ([], 0)
theorem apRun_suc {o : List Part} {t : List Int} {i : Nat} (h : i < o.length) : apRun (o.take (i + 1)) t = apStep t (apRun (o.take i) t) o[i] := by
  unfold apRun
  rw [← List.take_append_getElem h, List.foldl_append]
  rfl

def fits3 (o : List Part) (t : List Int) : Prop := opOk o ∧ textOk t ∧ opFrom o = t.length
open Classical in
noncomputable def apply (o : List Part) (t : List Int) : List Int × Bool := if fits3 o t then ((apRun o t).1, true) else ([], false)

/-- how far the text has been read -/
theorem apRun_at {o : List Part} {t : List Int} (ho : ∀ p ∈ o, partOk p) : ∀ (i : Nat), i ≤ o.length → (apRun (o.take i) t).2 = sumI fK (o.take i) + sumI fD (o.take i) ∧ (apRun (o.take i) t).1.length ≤ 200 * i
  | 0, _ => by simp [apRun, sumI]
  | i + 1, hi => by
    have hlt : i < o.length := by omega
    obtain ⟨h1, h2⟩ := apRun_at ho i (by omega)
    have hb := (ho _ (List.getElem_mem hlt)).bounds
    rw [apRun_suc hlt, sumI_suc hlt, sumI_suc hlt]
    generalize apRun (o.take i) t = s at h1 h2
    obtain ⟨L, a⟩ := s
    simp only at h1 h2
    generalize sumI fK (o.take i) = x1 at h1 ⊢
    generalize sumI fD (o.take i) = x2 at h1 ⊢
    unfold apStep fK fD
    by_cases k1 : o[i].kind = 1
    · simp [k1]
      omega
    · by_cases k2 : o[i].kind = 2
      · simp [k2]; omega
      · simp [k1, k2]; omega

theorem sumI_take_le {f : Part → Int} (hf : ∀ p, partOk p → 0 ≤ f p) : ∀ {o : List Part} (_ : ∀ p ∈ o, partOk p) (i : Nat), sumI f (o.take i) ≤ sumI f o
  | [], _, i => by simp
  | p :: o, ho, 0 => by
    have h1 := hf p (ho p (List.mem_cons_self ..))
    have h2 := sumI_take_le hf (o := o) (fun q hq => ho q (List.mem_cons_of_mem _ hq)) 0
    simp only [List.take_zero, sumI] at h2 ⊢
    omega
  | p :: o, ho, i + 1 => by
    have h2 := sumI_take_le hf (o := o) (fun q hq => ho q (List.mem_cons_of_mem _ hq)) i
    simp only [List.take_succ_cons, sumI]
    omega

/-- the places lie in the text -/
theorem apRun_in {o : List Part} {t : List Int} (h : fits3 o t) {i : Nat} (hi : i < o.length) : 0 ≤ (apRun (o.take i) t).2 ∧ (o[i].kind ≠ 2 → (apRun (o.take i) t).2 + o[i].n ≤ t.length) ∧ (apRun (o.take i) t).2 ≤ t.length := by
  have ho := h.1.1.1
  have h1 := (apRun_at (t := t) ho i (by omega)).1
  have hf : opFrom o = sumI fK o + sumI fD o := by unfold opFrom l02Sum; rw [if_pos h.1.1]
  have h2 := sumI_take_le (fun p hp => (fK_b hp).1) ho (i + 1)
  have h3 := sumI_take_le (fun p hp => (fD_b hp).1) ho (i + 1)
  have h4 := sumI_bound (f := fK) (fun p h => fK_b h) (take_ok ho i)
  have h5 := sumI_bound (f := fD) (fun p h => fD_b h) (take_ok ho i)
  have h6 := sumI_suc (f := fK) hi
  have h7 := sumI_suc (f := fD) hi
  have h8 := h.2.2
  have hb := (ho _ (List.getElem_mem hi)).bounds
  have k1 := fK_b (ho _ (List.getElem_mem hi))
  have k2 := fD_b (ho _ (List.getElem_mem hi))
  refine ⟨by omega, fun hk => ?_, by omega⟩
  have : fK o[i] + fD o[i] = o[i].n := by
    unfold fK fD
    by_cases c1 : o[i].kind = 1
    · simp [c1]
    · simp [c1, hk]
  omega

theorem implApply_c (o : List Part) (t : List Int) (hl : nL nPart o ≤ 2 ^ 40) (ht : t.length ≤ 2 ^ 40) : PureC Tryz.prog 263 [.c (.s (o.map Part.row)), .c (.s (t.map intR))] (.tup [.c (.s ((apply o t).1.map intR)) 1, .c (.v (.bool (apply o t).2)) 1]) := by
  refine PureC.intro' tt_ok Tryz.func263 (by kernel_rfl) rfl rfl rfl (Nat.le_of_ble_eq_true rfl) (fun w0 base => ?_)
  simp
  have no : ¬ fits3 o t → apply o t = ([], false) := fun h => by unfold apply; rw [if_neg h]
  refine ACall.pure (implOpOk_c o hl) (by simp) ?_
  by_cases c1 : opOk o
  rotate_left
  · have e : dc (opOk o) = false := by rw [dc_no]; exact c1
    simp [e, no (fun h => c1 h.1)]
  simp [c1]
  refine ACall.pure (implTextOk_c t ht) (by simp) ?_
  by_cases c2 : textOk t
  rotate_left
  · have e : dc (textOk t) = false := by rw [dc_no]; exact c2
    simp [e, no (fun h => c2 h.2.1)]
  simp [c2]
  refine ACall.pure (implOpFrom_c o hl) (by simp) ?_
  by_cases c3 : opFrom o = t.length
  rotate_left
  · simp [c3, no (fun h => c3 h.2.2)]
  have hf : fits3 o t := ⟨c1, c2, c3⟩
  have e : apply o t = ((apRun o t).1, true) := by unfold apply; rw [if_pos hf]
  have ho := c1.1.1
  have hlen := c1.1.2
  simp [c3, e]
  refine LoopT.intro eok (fun x : Nat × Hd => x.1 ≤ o.length) (fun x => ⟨60, 0, [(27, .v (.int .i64 x.1)), (26, .v (.int .i64 o.length)), (25, .ro (o.map Part.row)), (7, .v (.int .i64 (apRun (o.take x.1) t).2)), (6, .sl 752 x.2 1 0 (apRun (o.take x.1) t).1.length), (1, .ro (t.map intR))], [(752, .rows x.2 1 ((apRun (o.take x.1) t).1.map intR) true)]⟩) (fun x => o.length - x.1) (0, none) (by simp) (by simp [apRun]) (fun x hi => ?_)
  obtain ⟨i, H⟩ := x
  simp only at hi ⊢
  by_cases h : i < o.length
  · have hin := apRun_in hf h
    have hat := apRun_at (t := t) ho i hi
    have hb := (ho _ (List.getElem_mem h)).bounds
    have hs := apRun_suc (t := t) h
    generalize apRun (o.take i) t = s at hin hat hs
    obtain ⟨L, a⟩ := s
    simp only at hin hat hs
    obtain ⟨a', rfl⟩ : ∃ a' : Nat, a = a' := ⟨a.toNat, by omega⟩
    obtain ⟨n, hn⟩ : ∃ n : Nat, o[i].n = n := ⟨o[i].n.toNat, by omega⟩
    have e : Go.IntKind.i64.wrap ((i : Int) + 1) = ((i + 1 : Nat) : Int) := i64_suc (by omega)
    have ea : Go.IntKind.i64.wrap ((a' : Int) + n) = (a' : Int) + n := Go.IntWalk.i64_in _ (by omega)
    rw [hn] at hin
    simp [h, Part.row]
    intro b9
    by_cases k1 : o[i].kind = 1
    · have hle : a' + n ≤ t.length := by have := hin.2.1 (by omega); omega
      have hst : apStep t (L, (a' : Int)) o[i] = (L ++ (t.drop a').take n, (a' : Int) + n) := by simp [apStep, k1, hn]
      rw [hst] at hs
      obtain ⟨m, hm⟩ : ∃ m, (t.drop a').take n = m := ⟨_, rfl⟩
      have hcut : cut (t.map intR) a' n = m.map intR := by rw [cut_eq, ← hm]; simp
      have hlen2 : m.length = n := by rw [← hm]; simp; omega
      rw [hm] at hs
      simp [k1, hn, ea, hle, hcut]
      refine ⟨by omega, fun H2 => ⟨i + 1, by omega, by omega, H2, ?_⟩⟩
      rw [hs]
      simp [e]
    · by_cases k3 : o[i].kind = 3
      · have hst : apStep t (L, (a' : Int)) o[i] = (L, (a' : Int) + n) := by simp [apStep, k3, hn]
        rw [hst] at hs
        simp [k3, hn, ea]
        refine ⟨i + 1, by omega, by omega, H, ?_⟩
        rw [hs]
        simp [e]
      · have k2 : o[i].kind = 2 := by omega
        have hst : apStep t (L, (a' : Int)) o[i] = (L ++ o[i].signs, (a' : Int)) := by simp [apStep, k2]
        rw [hst] at hs
        simp [k2]
        refine ⟨by omega, fun H2 => ⟨i + 1, by omega, by omega, H2, ?_⟩⟩
        rw [hs]
        simp [e]
  · have he : o.take i = o := List.take_of_length_le (by omega)
    rw [he]
    simp [h]
end Go.Proofs.YtdfdabjdfmamgaaGreat

namespace Go.Proofs.YtdfdabjdfmamgaaGreat
open Go.AM
set_option maxRecDepth 20000

theorem l03Fits_c (o : List Part) (t : List Int) (hl : nL nPart o ≤ 2 ^ 40) (ht : t.length ≤ 2 ^ 40) : PureC Tryz.prog 324 [.c (.s (o.map Part.row)), .c (.s (t.map intR))] (.one (.c (vb (fits3 o t)) 1)) := by
  refine PureC.intro' tt_ok Tryz.func324 (by kernel_rfl) rfl rfl rfl (Nat.le_of_ble_eq_true rfl) (fun w0 base => ?_)
  simp
  refine ACall.pure (specOpOk_c o hl) (by simp) ?_
  by_cases c1 : opOk o
  rotate_left
  · simp [c1, fits3]
  simp [c1]
  refine ACall.pure (specTextOk_c t ht) (by simp) ?_
  by_cases c2 : textOk t
  rotate_left
  · simp [c2, fits3]
  simp [c2]
  refine ACall.pure (specOpFrom_c o hl) (by simp) ?_
  simp [fits3, c1, c2]

theorem specApply_c (o : List Part) (t : List Int) (hl : nL nPart o ≤ 2 ^ 40) (ht : t.length ≤ 2 ^ 40) : PureC Tryz.prog 256 [.c (.s (o.map Part.row)), .c (.s (t.map intR))] (.tup [.c (.s ((apply o t).1.map intR)) 1, .c (.v (.bool (apply o t).2)) 1]) := by
  refine PureC.intro' tt_ok Tryz.func256 (by kernel_rfl) rfl rfl rfl (Nat.le_of_ble_eq_true rfl) (fun w0 base => ?_)
  simp
  refine ACall.pure (l03Fits_c o t hl ht) (by simp) ?_
  by_cases hf : fits3 o t
  rotate_left
  · have e : dc (fits3 o t) = false := by rw [dc_no]; exact hf
    have e2 : apply o t = ([], false) := by unfold apply; rw [if_neg hf]
    simp [e, e2]
  have e : apply o t = ((apRun o t).1, true) := by unfold apply; rw [if_pos hf]
  have ho := hf.1.1.1
  have hlen := hf.1.1.2
  simp [hf, e]
  intro b
  refine LoopT.intro eok (fun x : Nat × Hd => x.1 ≤ o.length) (fun x => ⟨50, 0, [(17, .v (.int .i64 x.1)), (16, .v (.int .i64 o.length)), (15, .ro (o.map Part.row)), (7, .v (.int .i64 (apRun (o.take x.1) t).2)), (6, .sl 224 x.2 1 0 (apRun (o.take x.1) t).1.length), (1, .ro (t.map intR))], [(224, .rows x.2 1 ((apRun (o.take x.1) t).1.map intR) true)]⟩) (fun x => o.length - x.1) (0, some (b, 0, 0)) (by simp) (by simp [apRun]) (fun x hi => ?_)
  obtain ⟨i, H⟩ := x
  simp only at hi ⊢
  by_cases h : i < o.length
  · have hin := apRun_in hf h
    have hat := apRun_at (t := t) ho i hi
    have hb := (ho _ (List.getElem_mem h)).bounds
    have hs := apRun_suc (t := t) h
    generalize apRun (o.take i) t = s at hin hat hs
    obtain ⟨L, a⟩ := s
    simp only at hin hat hs
    obtain ⟨a', rfl⟩ : ∃ a' : Nat, a = a' := ⟨a.toNat, by omega⟩
    obtain ⟨n, hn⟩ : ∃ n : Nat, o[i].n = n := ⟨o[i].n.toNat, by omega⟩
    have e : Go.IntKind.i64.wrap ((i : Int) + 1) = ((i + 1 : Nat) : Int) := i64_suc (by omega)
    have ea : Go.IntKind.i64.wrap ((a' : Int) + n) = (a' : Int) + n := Go.IntWalk.i64_in _ (by omega)
    rw [hn] at hin
    simp [h, Part.row]
    intro b9
    by_cases k1 : o[i].kind = 1
    · have hle : a' + n ≤ t.length := by have := hin.2.1 (by omega); omega
      have hst : apStep t (L, (a' : Int)) o[i] = (L ++ (t.drop a').take n, (a' : Int) + n) := by simp [apStep, k1, hn]
      rw [hst] at hs
      obtain ⟨m, hm⟩ : ∃ m, (t.drop a').take n = m := ⟨_, rfl⟩
      have hcut : cut (t.map intR) a' n = m.map intR := by rw [cut_eq, ← hm]; simp
      have hlen2 : m.length = n := by rw [← hm]; simp; omega
      rw [hm] at hs
      simp [k1, hn, ea, hle, hcut]
      refine ⟨by omega, fun H2 => ⟨i + 1, by omega, by omega, H2, ?_⟩⟩
      rw [hs]
      simp [e]
    · by_cases k2 : o[i].kind = 2
      · have hst : apStep t (L, (a' : Int)) o[i] = (L ++ o[i].signs, (a' : Int)) := by simp [apStep, k2]
        rw [hst] at hs
        simp [k2]
        refine ⟨by omega, fun H2 => ⟨i + 1, by omega, by omega, H2, ?_⟩⟩
        rw [hs]
        simp [e]
      · have k3 : o[i].kind = 3 := by omega
        have hst : apStep t (L, (a' : Int)) o[i] = (L, (a' : Int) + n) := by simp [apStep, k3, hn]
        rw [hst] at hs
        simp [k1, k2, hn, ea]
        refine ⟨i + 1, by omega, by omega, H, ?_⟩
        rw [hs]
        simp [e]
  · have he : o.take i = o := List.take_of_length_le (by omega)
    rw [he]
    simp [h]

theorem apply_len (o : List Part) (t : List Int) : (apply o t).1.length ≤ 2 ^ 17 := by
  unfold apply
  split
  · rename_i h
    have h1 := (apRun_at (t := t) h.1.1.1 o.length (by omega)).2
    rw [List.take_length] at h1
    have := h.1.1.2
    simp only; omega
  · simp

abbrev partsR (o : List Part) : List CD := [.s (o.map Part.row)]
open Classical in
noncomputable def applyFrom : List (List Part) → List Int → Option (List Int)
  | [], t => some t
  | o :: l, t => if (apply o t).2 = true then applyFrom l (apply o t).1 else none
open Classical in
noncomputable def applyAll (l : List (List Part)) (t : List Int) : List Int × Bool :=
  if textOk t then match applyFrom l t with
    | some u => (u, true)
    | none => ([], false)
  else ([], false)

theorem applyFrom_drop {l : List (List Part)} {i : Nat} {u : List Int} (h : i < l.length) : applyFrom (l.drop i) u = if (apply l[i] u).2 = true then applyFrom (l.drop (i + 1)) (apply l[i] u).1 else none := by
  rw [List.drop_eq_getElem_cons h, applyFrom]

theorem implApplyAll_c (l : List (List Part)) (t : List Int) (hl : l.length ≤ 2 ^ 30) (hs : ∀ o ∈ l, nL nPart o ≤ 2 ^ 40) (ht : t.length ≤ 2 ^ 40) : PureC Tryz.prog 176 [.c (.s (l.map partsR)), .c (.s (t.map intR))] (.tup [.c (.s ((applyAll l t).1.map intR)) 1, .c (.v (.bool (applyAll l t).2)) 1]) := by
  refine PureC.intro' tt_ok Tryz.func176 (by kernel_rfl) rfl rfl rfl (Nat.le_of_ble_eq_true rfl) (fun w0 base => ?_)
  simp
  refine ACall.pure (implTextOk_c t ht) (by simp) ?_
  by_cases c2 : textOk t
  rotate_left
  · have e : dc (textOk t) = false := by rw [dc_no]; exact c2
    have e2 : applyAll l t = ([], false) := by unfold applyAll; rw [if_neg c2]
    simp [e, e2]
  obtain ⟨r, hr⟩ : ∃ r, applyAll l t = r := ⟨_, rfl⟩
  have hr' : (match applyFrom l t with | some u => (u, true) | none => ([], false)) = r := by rw [← hr]; unfold applyAll; rw [if_pos c2]
  rw [hr]
  simp [c2]
  refine ACall.pure (copyInts_c t ht) (by simp) ?_
  simp
  intro H0
  refine LoopT.intro eok (fun x : Nat × Nat × Hd × List Int => x.1 ≤ l.length ∧ x.2.2.2.length ≤ 2 ^ 40 ∧ (match applyFrom (l.drop x.1) x.2.2.2 with | some u => (u, true) | none => ([], false)) = r)
    (fun x => ⟨33, 0, [(18, .v (.int .i64 x.1)), (17, .v (.int .i64 l.length)), (16, .ro (l.map partsR)), (6, .sl x.2.1 x.2.2.1 1 0 x.2.2.2.length)], [(x.2.1, .rows x.2.2.1 1 (x.2.2.2.map intR) true)]⟩) (fun x => l.length - x.1) (0, 240, H0, t) (by simp [ht, hr']) (by simp) (fun x hi => ?_)
  obtain ⟨i, K, H, u⟩ := x
  simp only at hi ⊢
  obtain ⟨hi1, hi2, hi3⟩ := hi
  by_cases h : i < l.length
  · have e : Go.IntKind.i64.wrap ((i : Int) + 1) = ((i + 1 : Nat) : Int) := i64_suc (by omega)
    rw [applyFrom_drop h] at hi3
    have hlen := apply_len l[i] u
    simp [h]
    refine ACall.pure (implApply_c l[i] u (hs _ (List.getElem_mem h)) hi2) (by simp) ?_
    generalize apply l[i] u = q at hi3 hlen
    obtain ⟨v, ok⟩ := q
    simp only at hi3 hlen
    cases ok
    · simp at hi3
      simp [← hi3]
    · simp at hi3
      simp
      intro H2
      exact ⟨i + 1, 400, H2, v, ⟨by omega, by omega, hi3⟩, by omega, ⟨e, rfl, rfl, rfl⟩, .inl rfl⟩
  · have hd : l.drop i = [] := List.drop_eq_nil_of_le (by omega)
    rw [hd] at hi3
    simp [applyFrom] at hi3
    simp [h, ← hi3]

end Go.Proofs.YtdfdabjdfmamgaaGreat

namespace Go.Proofs.YtdfdabjdfmamgaaGreat
open Go.AM
set_option maxRecDepth 20000

theorem apRun_len {o : List Part} {t : List Int} (h : fits3 o t) : ∀ (i : Nat), i ≤ o.length → ((apRun (o.take i) t).1.length : Int) = sumI fK (o.take i) + sumI fP (o.take i) ∧ signsOk (apRun (o.take i) t).1
  | 0, _ => by simp [apRun, sumI, signsOk]
  | i + 1, hi => by
    have hlt : i < o.length := by omega
    obtain ⟨h1, h2⟩ := apRun_len h i (by omega)
    have hin := apRun_in h hlt
    have hpo := h.1.1.1 _ (List.getElem_mem hlt)
    have hb := hpo.bounds
    rw [apRun_suc hlt, sumI_suc hlt, sumI_suc hlt]
    generalize apRun (o.take i) t = s at h1 h2 hin
    generalize o[i] = p at hin hpo hb
    unfold apStep
    rw [show fK p = (if p.kind = 1 then p.n else 0) from rfl, show fP p = (if p.kind = 2 then (p.signs.length : Int) else 0) from rfl]
    rcases hb.1 with k | k | k
    · have := hin.2.1 (by omega)
      have e : ((t.drop s.2.toNat).take p.n.toNat).length = p.n.toNat := by simp; omega
      refine ⟨?_, ?_⟩
      · simp only [k, if_true, List.length_append, e]
        have k2 : ¬ (1 : Int) = 2 := by decide
        simp only [k2, if_false]
        omega
      simp only [k, if_true]
      intro n hn
      rcases List.mem_append.1 hn with hn | hn
      · exact h2 n hn
      · exact h.2.1.2 n (List.mem_of_mem_drop (List.mem_of_mem_take hn))
    · refine ⟨by simp [k]; omega, ?_⟩
      have k1 : ¬ p.kind = 1 := by omega
      simp only [k, if_true]
      rw [partOk_put k] at hpo
      intro n hn
      rcases List.mem_append.1 hn with hn | hn
      · exact h2 n hn
      · exact hpo.2.2 n hn
    · exact ⟨by simp [k]; omega, by simpa [k] using h2⟩
theorem apply_textOk {o : List Part} {t : List Int} (h : fits3 o t) : textOk (apply o t).1 ∧ ((apply o t).1.length : Int) = opTo o := by
  have h1 := apRun_len h o.length (Nat.le_refl _)
  rw [List.take_length] at h1
  have e : apply o t = ((apRun o t).1, true) := by unfold apply; rw [if_pos h]
  have ht : opTo o = sumI fK o + sumI fP o := by unfold opTo l02Sum; rw [if_pos h.1.1]
  have h3 := h.1.2.2
  rw [e]
  refine ⟨⟨by simp only; omega, h1.2⟩, by simp only; omega⟩
theorem apply_yes {o : List Part} {t : List Int} : (apply o t).2 = true ↔ fits3 o t := by
  unfold apply
  split <;> simp_all

def nameOk (s : ByteArray) : Prop := (1 ≤ s.size ∧ s.size ≤ 8) ∧ ∀ (i : Nat) (h : i < s.size), 97 ≤ s[i].toNat ∧ s[i].toNat ≤ 122
def entryOk (e : Entry) : Prop := (1 ≤ e.client ∧ e.client ≤ 8) ∧ (1 ≤ e.seq ∧ e.seq ≤ 1000000000) ∧ isNorm e.o
def seensOk (d : Doc) : Prop := ∀ (i : Nat) (h : i < d.seen.length), (1 ≤ d.seen[i].client ∧ d.seen[i].client ≤ 8) ∧ (1 ≤ d.seen[i].seq ∧ d.seen[i].seq ≤ 1000000000) ∧ (1 ≤ d.seen[i].rev ∧ d.seen[i].rev ≤ headRev d) ∧ (∀ h0 : 0 < i, d.seen[i - 1].client < d.seen[i].client)
def docOk (d : Doc) : Prop := nameOk d.name ∧ (0 ≤ d.fr ∧ d.fr ≤ 999999000) ∧ textOk d.text ∧ d.list.length ≤ 8 ∧ (∀ e ∈ d.list, entryOk e) ∧ (applyFrom (d.list.map Entry.o) d.text).isSome = true ∧ seensOk d
open Classical in
noncomputable def textAt (d : Doc) (rev : Int) : List Int × Bool := if docOk d ∧ d.fr ≤ rev ∧ rev ≤ headRev d then applyAll ((d.list.take (rev - d.fr).toNat).map Entry.o) d.text else ([], false)
noncomputable def headText (d : Doc) : List Int := (textAt d (headRev d)).1
open Classical in
noncomputable def seenOf (d : Doc) (c : Int) : Seen × Bool := match d.seen.find? (fun s => decide (s.client = c)) with
  | some s => (s, true)
  | none => (⟨0, 0, 0⟩, false)

noncomputable def sentRep (r : Rep) : Rep := ⟨r.client, r.seq + 1, r.rev, r.text, true, r.buf, keeping (opTo r.buf)⟩
open Classical in
noncomputable def fRepSend (r : Rep) : Rep × Call × Bool := if repOk r ∧ r.has = false ∧ ¬ idle r.buf ∧ r.seq ≠ 999999999 then (sentRep r, ⟨2, ⟨#[]⟩, r.client, r.seq + 1, r.rev, r.buf, []⟩, true) else (Rep.zero, ⟨0, ⟨#[]⟩, 0, 0, 0, [], []⟩, false)
end Go.Proofs.YtdfdabjdfmamgaaGreat

namespace Go.Proofs.YtdfdabjdfmamgaaGreat
open Go.AM
set_option maxRecDepth 20000
theorem copyRep_c (r : Rep) (hl : nRep r ≤ 2 ^ 30) : PureC Tryz.prog 240 [.agg r.row] (.one (.agg r.res)) := by
  refine PureC.intro' tt_ok Tryz.func240 (by kernel_rfl) rfl rfl rfl (Nat.le_of_ble_eq_true rfl) (fun w0 base => ?_)
  unfold nRep at hl
  simp [Rep.row]
  intros
  refine ACall.pure (copyInts_c r.text (by omega)) (by simp) ?_
  simp
  intros
  refine ACall.pure (copyOp_c r.sent (by omega)) (by simp) ?_
  simp
  intros
  refine ACall.pure (copyOp_c r.buf (by omega)) (by simp) ?_
  simp [Rep.res]
theorem l17Copy_c (r : Rep) (hl : nRep r ≤ 2 ^ 30) : PureC Tryz.prog 230 [.agg r.row] (.one (.agg r.res)) := by
  refine PureC.intro' tt_ok Tryz.func230 (by kernel_rfl) rfl rfl rfl (Nat.le_of_ble_eq_true rfl) (fun w0 base => ?_)
  unfold nRep at hl
  simp [Rep.row]
  intros
  refine ⟨by omega, fun H1 => ?_⟩
  refine ACall.pure (l02Copy_c r.sent (by omega)) (by simp) ?_
  simp
  intros
  refine ACall.pure (l02Copy_c r.buf (by omega)) (by simp) ?_
  simp [Rep.res]
theorem sentRep_n (r : Rep) : nRep (sentRep r) ≤ nRep r + 1 := by
  have := keeping_n (opTo r.buf)
  unfold nRep sentRep
  simp only
  omega
theorem fRepSend_no {r : Rep} (h : ¬ (repOk r ∧ r.has = false ∧ ¬ idle r.buf ∧ r.seq ≠ 999999999)) : fRepSend r = (Rep.zero, Call.zero, false) := by unfold fRepSend; rw [if_neg h]; rfl
theorem fRepSend_yes {r : Rep} (h : repOk r ∧ r.has = false ∧ ¬ idle r.buf ∧ r.seq ≠ 999999999) : fRepSend r = (sentRep r, submit (sentRep r), true) := by unfold fRepSend; rw [if_pos h]; rfl
theorem implRepSend_i (r : Rep) (hl : nRep r ≤ 2 ^ 20) : PureC Tryz.prog 151 [.agg r.row] (.tup [.agg (fRepSend r).1.res, .agg (fRepSend r).2.1.res, .c (.v (.bool (fRepSend r).2.2)) 1]) := by
  refine PureC.intro' tt_ok Tryz.func151 (by kernel_rfl) rfl rfl rfl (Nat.le_of_ble_eq_true rfl) (fun w0 base => ?_)
  have hbuf : nL nPart r.buf ≤ 2 ^ 20 := by unfold nRep at hl; omega
  simp [Rep.row]
  intros
  refine ACall.pure (implRepOk_i r (by omega)) (by simp [Rep.row]) ?_
  by_cases c1 : repOk r
  rotate_left
  · have e := fRepSend_no (r := r) (fun h => c1 h.1)
    have e2 : dc (repOk r) = false := by rw [dc_no]; exact c1
    simp [e2, e, Rep.res, Rep.zero, Call.res, Call.zero]
  simp [c1]
  by_cases ch : r.has = false
  rotate_left
  · have e := fRepSend_no (r := r) (fun h => ch h.2.1)
    have ch2 : r.has = true := by simpa using ch
    simp [ch2, e, Rep.res, Rep.zero, Call.res, Call.zero]
  simp [ch]
  refine ACall.pure (implIdle_c r.buf (by omega)) (by simp) ?_
  by_cases ci : idle r.buf
  · have e := fRepSend_no (r := r) (fun h => h.2.2.1 ci)
    simp [ci, e, Rep.res, Rep.zero, Call.res, Call.zero]
  have ci2 : dc (idle r.buf) = false := by rw [dc_no]; exact ci
  by_cases cs : r.seq = 999999999
  · have e := fRepSend_no (r := r) (fun h => h.2.2.2 cs)
    simp [ci2, cs, e, Rep.res, Rep.zero, Call.res, Call.zero]
  have e := fRepSend_yes (r := r) ⟨c1, ch, ci, cs⟩
  have hs := c1.2.1
  have ew : Go.IntKind.i64.wrap (r.seq + 1) = r.seq + 1 := Go.IntWalk.i64_in _ (by omega)
  simp [ci2, cs]
  refine ACall.pure (copyRep_c r (by omega)) (by simp [Rep.row, ch]) ?_
  simp [Rep.res, ew]
  intros
  refine ACall.pure (implOpTo_c r.buf (by omega)) (by simp) ?_
  simp
  refine ACall.pure (implKeeping_c (opTo r.buf)) (by simp) ?_
  simp
  intros
  refine DrawT.introP eok mix [0, 1, 5] [2, 3, 4] [([false, true, false], [true, false, true]), ([false, false, true], [true, false, false]), ([false, false, false], [true, false, false])] [true, false, false] (by kernel_rfl) ?_
  simp
  have hn := sentRep_n r
  refine ACall.pure (submitOf_c (sentRep r) (by omega)) (by simp [Rep.row, sentRep, ch]) ?_
  simp [e, sentRep, Call.res, submit]
theorem specRepSend_i (r : Rep) (hl : nRep r ≤ 2 ^ 20) : PureC Tryz.prog 142 [.agg r.row] (.tup [.agg (fRepSend r).1.res, .agg (fRepSend r).2.1.res, .c (.v (.bool (fRepSend r).2.2)) 1]) := by
  refine PureC.intro' tt_ok Tryz.func142 (by kernel_rfl) rfl rfl rfl (Nat.le_of_ble_eq_true rfl) (fun w0 base => ?_)
  have hbuf : nL nPart r.buf ≤ 2 ^ 20 := by unfold nRep at hl; omega
  simp [Rep.row]
  intros
  refine ACall.pure (specRepOk_i r (by omega)) (by simp [Rep.row]) ?_
  by_cases c1 : repOk r
  rotate_left
  · have e := fRepSend_no (r := r) (fun h => c1 h.1)
    have e2 : dc (repOk r) = false := by rw [dc_no]; exact c1
    simp [e2, e, Rep.res, Rep.zero, Call.res, Call.zero]
  simp [c1]
  by_cases ch : r.has = false
  rotate_left
  · have e := fRepSend_no (r := r) (fun h => ch h.2.1)
    have ch2 : r.has = true := by simpa using ch
    simp [ch2, e, Rep.res, Rep.zero, Call.res, Call.zero]
  simp [ch]
  refine ACall.pure (specIdle_c r.buf (by omega)) (by simp) ?_
  by_cases ci : idle r.buf
  · have e := fRepSend_no (r := r) (fun h => h.2.2.1 ci)
    simp [ci, e, Rep.res, Rep.zero, Call.res, Call.zero]
  have ci2 : dc (idle r.buf) = false := by rw [dc_no]; exact ci
  by_cases cs : r.seq = 999999999
  · have e := fRepSend_no (r := r) (fun h => h.2.2.2 cs)
    simp [ci2, cs, e, Rep.res, Rep.zero, Call.res, Call.zero]
  have e := fRepSend_yes (r := r) ⟨c1, ch, ci, cs⟩
  have hs := c1.2.1
  have ew : Go.IntKind.i64.wrap (r.seq + 1) = r.seq + 1 := Go.IntWalk.i64_in _ (by omega)
  simp [ci2, cs]
  refine ACall.pure (l17Copy_c r (by omega)) (by simp [Rep.row, ch]) ?_
  simp [Rep.res, ew]
  intros
  refine ACall.pure (l02Copy_c r.buf (by omega)) (by simp) ?_
  simp
  intros
  refine ACall.pure (specOpTo_c r.buf (by omega)) (by simp) ?_
  simp
  refine ACall.pure (specKeeping_c (opTo r.buf)) (by simp) ?_
  simp
  intros
  refine DrawT.introP eok mix [0, 1, 5] [2, 3, 4] [([false, true, false], [true, false, true]), ([false, false, true], [true, false, false]), ([false, false, false], [true, false, false])] [true, false, false] (by kernel_rfl) ?_
  simp
  have hn := sentRep_n r
  refine ACall.pure (l17Call_c (sentRep r) (by omega)) (by simp [Rep.row, sentRep, ch]) ?_
  simp [e, sentRep, Call.res, submit]
end Go.Proofs.YtdfdabjdfmamgaaGreat

namespace Go.Proofs.YtdfdabjdfmamgaaGreat
open Go.AM
set_option maxRecDepth 20000
theorem opOk_n {o : List Part} (h : opOk o) : nL nPart o ≤ 2 ^ 18 := by
  have := nL_parts h.1.1
  have := h.1.2
  omega
theorem fCompose_n (a b : List Part) : nL nPart (fCompose a b).1 ≤ 2 ^ 18 := by
  unfold fCompose
  split
  · split
    · rename_i h; exact opOk_n h
    · simp [nL, sumN]
  · simp [nL, sumN]
def editRep (r : Rep) (b : List Part) : Rep := ⟨r.client, r.seq, r.rev, r.text, r.has, r.sent, b⟩
open Classical in
noncomputable def fRepEdit (r : Rep) (o : List Part) : Rep × Bool := if repOk r ∧ (fCompose r.buf o).2 = true then repOr (editRep r (fCompose r.buf o).1) else (Rep.zero, false)
theorem fRepEdit_no {r : Rep} {o : List Part} (h : ¬ (repOk r ∧ (fCompose r.buf o).2 = true)) : fRepEdit r o = (Rep.zero, false) := by unfold fRepEdit; rw [if_neg h]
theorem fRepEdit_yes {r : Rep} {o : List Part} (h : repOk r ∧ (fCompose r.buf o).2 = true) : fRepEdit r o = repOr (editRep r (fCompose r.buf o).1) := by unfold fRepEdit; rw [if_pos h]
theorem repOr_yes {r : Rep} (h : repOk r) : repOr r = (r, true) := by unfold repOr; rw [if_pos h]
theorem repOr_no {r : Rep} (h : ¬ repOk r) : repOr r = (Rep.zero, false) := by unfold repOr; rw [if_neg h]
theorem repOr_n {r : Rep} {B : Nat} (h : nRep r ≤ B) : nRep (repOr r).1 ≤ B := by
  unfold repOr
  split
  · exact h
  · simp [Rep.zero_n]
theorem editRep_n {r : Rep} {b : List Part} : nRep (editRep r b) ≤ nRep r + nL nPart b := by unfold nRep editRep; simp only; omega
theorem fRepEdit_n (r : Rep) (o : List Part) : nRep (fRepEdit r o).1 ≤ nRep r + 2 ^ 18 := by
  unfold fRepEdit
  split
  · have := fCompose_n r.buf o
    have := @editRep_n r (fCompose r.buf o).1
    exact repOr_n (by omega)
  · simp [Rep.zero_n]
theorem implRepEdit_i (r : Rep) (hl : nRep r ≤ 2 ^ 28) (o : List Part) (ho : nL nPart o ≤ 2 ^ 40) : PureC Tryz.prog 150 [.agg r.row, .c (.s (o.map Part.row))] (.tup [.agg (fRepEdit r o).1.res, .c (.v (.bool (fRepEdit r o).2)) 1]) := by
  refine PureC.intro' tt_ok Tryz.func150 (by kernel_rfl) rfl rfl rfl (Nat.le_of_ble_eq_true rfl) (fun w0 base => ?_)
  have hbuf : nL nPart r.buf ≤ 2 ^ 40 := by unfold nRep at hl; omega
  simp [Rep.row]
  intros
  refine ACall.pure (implRepOk_i r (by omega)) (by simp [Rep.row]) ?_
  by_cases c1 : repOk r
  rotate_left
  · have e := fRepEdit_no (r := r) (o := o) (fun h => c1 h.1)
    have e2 : dc (repOk r) = false := by rw [dc_no]; exact c1
    simp [e2, e, Rep.res, Rep.zero]
  simp [c1]
  refine ACall.pure (implCompose_i r.buf o hbuf ho) (by simp) ?_
  simp
  have hn := fCompose_n r.buf o
  have hno := fRepEdit_no (r := r) (o := o)
  have hyes := fRepEdit_yes (r := r) (o := o)
  generalize fCompose r.buf o = C at hn hno hyes ⊢
  obtain ⟨cb, cok⟩ := C
  simp only at hn hno hyes ⊢
  intro H1
  cases cok with
  | false =>
    have e := hno (by simp)
    simp [e, Rep.res, Rep.zero]
  | true =>
    have e := hyes ⟨c1, rfl⟩
    simp
    refine ACall.pure (copyRep_c r (by omega)) (by simp [Rep.row]) ?_
    simp [Rep.res]
    intros
    refine ACall.inline tt_ok Tryz.func242 (by kernel_rfl) rfl rfl rfl (Nat.le_of_ble_eq_true rfl) 20000 (fun w1 F => ?_)
    simp
    intros
    have hn2 := @editRep_n r cb
    refine ACall.pure (implRepOk_i (editRep r cb) (by omega)) (by simp [Rep.row, editRep]) ?_
    by_cases h : repOk (editRep r cb)
    · rw [repOr_yes h] at e
      simp [h, e]
      simp [editRep]
    · rw [repOr_no h] at e
      have e2 : dc (repOk (editRep r cb)) = false := by rw [dc_no]; exact h
      simp [e2, e, Rep.zero]
theorem specRepEdit_i (r : Rep) (hl : nRep r ≤ 2 ^ 28) (o : List Part) (ho : nL nPart o ≤ 2 ^ 40) : PureC Tryz.prog 141 [.agg r.row, .c (.s (o.map Part.row))] (.tup [.agg (fRepEdit r o).1.res, .c (.v (.bool (fRepEdit r o).2)) 1]) := by
  refine PureC.intro' tt_ok Tryz.func141 (by kernel_rfl) rfl rfl rfl (Nat.le_of_ble_eq_true rfl) (fun w0 base => ?_)
  have hbuf : nL nPart r.buf ≤ 2 ^ 40 := by unfold nRep at hl; omega
  simp [Rep.row]
  intros
  refine ACall.pure (specCompose_i r.buf o hbuf ho) (by simp) ?_
  simp
  have hn := fCompose_n r.buf o
  have hno := fRepEdit_no (r := r) (o := o)
  have hyes := fRepEdit_yes (r := r) (o := o)
  generalize fCompose r.buf o = C at hn hno hyes ⊢
  obtain ⟨cb, cok⟩ := C
  simp only at hn hno hyes ⊢
  intro H1
  refine ACall.pure (specRepOk_i r (by omega)) (by simp [Rep.row]) ?_
  by_cases c1 : repOk r
  rotate_left
  · have e := hno (fun h => c1 h.1)
    have e2 : dc (repOk r) = false := by rw [dc_no]; exact c1
    simp [e2, e, Rep.res, Rep.zero]
  simp [c1]
  cases cok with
  | false =>
    have e := hno (by simp)
    simp [e, Rep.res, Rep.zero]
  | true =>
    have e := hyes ⟨c1, rfl⟩
    simp
    refine ACall.pure (l17Copy_c r (by omega)) (by simp [Rep.row]) ?_
    simp [Rep.res]
    intros
    refine ACall.inline tt_ok Tryz.func232 (by kernel_rfl) rfl rfl rfl (Nat.le_of_ble_eq_true rfl) 20000 (fun w1 F => ?_)
    simp
    intros
    have hn2 := @editRep_n r cb
    refine ACall.pure (specRepOk_i (editRep r cb) (by omega)) (by simp [Rep.row, editRep]) ?_
    by_cases h : repOk (editRep r cb)
    · rw [repOr_yes h] at e
      simp [h, e]
      simp [editRep]
    · rw [repOr_no h] at e
      have e2 : dc (repOk (editRep r cb)) = false := by rw [dc_no]; exact h
      simp [e2, e, Rep.zero]
end Go.Proofs.YtdfdabjdfmamgaaGreat

namespace Go.Proofs.YtdfdabjdfmamgaaGreat
open Go.AM
set_option maxRecDepth 20000
set_option maxHeartbeats 1600000

theorem fTransform_no {a b : List Part} (h : ¬ (opOk a ∧ opOk b ∧ opFrom a = opFrom b)) : fTransform a b = ([], [], false) := by unfold fTransform; rw [if_neg h]
theorem fTransform_yes {a b : List Part} (h1 : opOk a) (h2 : opOk b) (h3 : opFrom a = opFrom b) : (opOk (normal (xf a b).1) ∧ opOk (normal (xf a b).2) → fTransform a b = (normal (xf a b).1, normal (xf a b).2, true)) ∧ (¬ (opOk (normal (xf a b).1) ∧ opOk (normal (xf a b).2)) → fTransform a b = ([], [], false)) := by
  unfold fTransform
  rw [if_pos ⟨h1, h2, h3⟩]
  exact ⟨fun h => by rw [if_pos h], fun h => by rw [if_neg h]⟩
theorem mem_app {P : Part → Prop} {a b : List Part} (ha : ∀ p ∈ a, P p) (hb : ∀ p ∈ b, P p) : ∀ p ∈ a ++ b, P p := by
  intro p hp
  rcases List.mem_append.1 hp with hp | hp
  · exact ha p hp
  · exact hb p hp
theorem xf_next {X Y L M : List Part} {a b : List Part} (hi : TInv X Y) {r : XR} (hc : tstep X Y = some r) (h1 : L ++ (xf X Y).1 = (xf a b).1) (h2 : M ++ (xf X Y).2 = (xf a b).2) : (L ++ r.1.1) ++ (xf r.2.1 r.2.2).1 = (xf a b).1 ∧ (M ++ r.1.2) ++ (xf r.2.1 r.2.2).2 = (xf a b).2 := by
  have h := xf_some hi hc
  rw [← h1, ← h2, h]
  simp
theorem implTransform_i (a b : List Part) (ha : nL nPart a ≤ 2 ^ 40) (hb : nL nPart b ≤ 2 ^ 40) : PureC Tryz.prog 344 [.c (.s (a.map Part.row)), .c (.s (b.map Part.row))] (.tup [.c (.s ((fTransform a b).1.map Part.row)) 3, .c (.s ((fTransform a b).2.1.map Part.row)) 3, .c (.v (.bool (fTransform a b).2.2)) 1]) := by
  refine PureC.intro' tt_ok Tryz.func344 (by kernel_rfl) rfl rfl rfl (Nat.le_of_ble_eq_true rfl) (fun w0 base => ?_)
  simp
  refine ACall.pure (implOpOk_c a ha) (by simp) ?_
  by_cases c1 : opOk a
  rotate_left
  · have e := fTransform_no (a := a) (b := b) (fun h => c1 h.1)
    have e2 : dc (opOk a) = false := by rw [dc_no]; exact c1
    simp [e2, e]
  simp [c1]
  refine ACall.pure (implOpOk_c b hb) (by simp) ?_
  by_cases c2 : opOk b
  rotate_left
  · have e := fTransform_no (a := a) (b := b) (fun h => c2 h.2.1)
    have e2 : dc (opOk b) = false := by rw [dc_no]; exact c2
    simp [e2, e]
  simp [c2]
  refine ACall.pure (implOpFrom_c a ha) (by simp) ?_
  simp
  refine ACall.pure (implOpFrom_c b hb) (by simp) ?_
  by_cases c3 : opFrom a = opFrom b
  rotate_left
  · have e := fTransform_no (a := a) (b := b) (fun h => c3 h.2.2)
    simp [c3, e]
  have hf := fTransform_yes c1 c2 c3
  simp [c3]
  intro bx by_
  have t1 := tsz_ok c1
  have t2 := tsz_ok c2
  refine LoopT.introG eok (fun x : List Part × List Part × List Part × List Part × Hd × Hd => TInv x.1 x.2.1 ∧ (x.2.2.1 ++ (xf x.1 x.2.1).1 = (xf a b).1 ∧ x.2.2.2.1 ++ (xf x.1 x.2.1).2 = (xf a b).2) ∧ ((∀ p ∈ x.2.2.1, partOk p) ∧ (∀ p ∈ x.2.2.2.1, partOk p)) ∧ (x.2.2.1.length + (tsz x.1 + tsz x.2.1) ≤ 800 ∧ x.2.2.2.1.length + (tsz x.1 + tsz x.2.1) ≤ 800) ∧ x.1.length ≤ 1000 ∧ x.2.1.length ≤ 1000)
    (fun x => ⟨124, 0, [(7, .p 528 bx 0), (8, .p 576 by_ 0), (9, .sl 5000 x.2.2.2.2.1 3 0 x.2.2.1.length), (10, .sl 5001 x.2.2.2.2.2 3 0 x.2.2.2.1.length)],
    [(528, .vars bx 321 [.ro (x.1.map Part.row)]), (576, .vars by_ 321 [.ro (x.2.1.map Part.row)]), (5000, .rows x.2.2.2.2.1 3 (x.2.2.1.map Part.row) false), (5001, .rows x.2.2.2.2.2 3 (x.2.2.2.1.map Part.row) false)]⟩) (fun x => tsz x.1 + tsz x.2.1) (a, b, [], [], none, none)
    ⟨tinv_of c1 c2 c3, by simp, by simp, by simp; omega, by have := c1.1.2; simp only; omega, by have := c2.1.2; simp only; omega⟩ (by simp) (fun x hx => Ent.refl ?_)
  obtain ⟨X, Y, L, M, H, G⟩ := x
  obtain ⟨hi, ⟨hcx, hcy⟩, ⟨hL, hM⟩, ⟨hlen, hlen2⟩, hlx, hly⟩ := hx
  simp only at hi hcx hcy hL hM hlen hlen2 hlx hly ⊢
  have xl := nxt_len X
  have yl := nxt_len Y
  obtain ⟨h0, hh0⟩ : ∃ h0 : AH, [(528, .vars bx 321 [.ro (X.map Part.row)]), (576, .vars by_ 321 [.ro (Y.map Part.row)]), (5000, .rows H 3 (L.map Part.row) false), (5001, .rows G 3 (M.map Part.row) false)] = h0 := ⟨_, rfl⟩
  have R : RS 528 576 bx by_ h0 h0 X Y := ⟨by decide, by decide, by decide, by rw [← hh0]; simp, by rw [← hh0]; simp, fun _ _ _ _ => rfl⟩
  have g5 : AH.get h0 5000 = .rows H 3 (L.map Part.row) false := by rw [← hh0]; simp
  have g6 : AH.get h0 5001 = .rows G 3 (M.map Part.row) false := by rw [← hh0]; simp
  rw [hh0]
  clear hh0
  simp
  refine R.next hi.px (fun h1 R => ?_)
  have okx : ∀ p ∈ nxt X, partOk p := fun p hp => hi.px p (nxt_mem hp)
  have oky : ∀ p ∈ nxt Y, partOk p := fun p hp => hi.py p (nxt_mem hp)
  have hxt := nxt_frs X
  have hyf := nxt_frs Y
  have hbal := hi.b
  cases ex : nxt X with
  | nil =>
    rw [ex] at R
    simp [hdV_nil]
    refine R.swap.next hi.py (fun h2 R => ?_)
    have R := R.swap
    cases ey : nxt Y with
    | nil =>
      have hc : xf X Y = ([], []) := xf_none (by simp [tstep, ex, ey])
      simp [hdV_nil]
      rw [hc] at hcx hcy
      simp only [List.append_nil] at hcx hcy
      have e5 := R.o 5000 (by decide) (by decide) (by decide)
      have e6 := R.o 5001 (by decide) (by decide) (by decide)
      refine ACall.pure (normal_c L hL (by omega)) (by simp [e5, g5]) ?_
      simp
      intro H2
      refine ACall.pure (normal_c M hM (by omega)) (by simp [e6, g6]) ?_
      simp
      intro H3
      rw [hcx] at hL hlen ⊢
      rw [hcy] at hM hlen2 ⊢
      refine ACall.pure (implOpOk_c (normal (xf a b).1) (by have := nL_normal hL; omega)) (by simp) ?_
      by_cases c4 : opOk (normal (xf a b).1)
      rotate_left
      · have e := hf.2 (fun h => c4 h.1)
        have e2 : dc (opOk (normal (xf a b).1)) = false := by rw [dc_no]; exact c4
        simp [e2, e]
      simp [c4]
      refine ACall.pure (implOpOk_c (normal (xf a b).2) (by have := nL_normal hM; omega)) (by simp) ?_
      by_cases c5 : opOk (normal (xf a b).2)
      rotate_left
      · have e := hf.2 (fun h => c5 h.2)
        have e2 : dc (opOk (normal (xf a b).2)) = false := by rw [dc_no]; exact c5
        simp [e2, e]
      have e := hf.1 ⟨c4, c5⟩
      simp [c5, e]
    | cons q y' =>
      rw [ey] at R
      have hq := (mem_nxt hi.py ey).1
      have hqb := hq.bounds
      have q0 : ¬ q.kind = 0 := by omega
      simp [hdV_cons, q0]
      refine R.next (by simp) (fun h3 R => ?_)
      simp only [nxt] at R
      simp [nxt, hdV_nil]
      refine R.swap.next (by rw [← ey]; exact oky) (fun h4 R => ?_)
      have R := R.swap
      rw [← ey, nxt_nxt, ey] at R
      rw [← ey, nxt_nxt, ey]
      by_cases q2 : q.kind = 2
      · simp [hdV_cons, q2]
        refine R.swap.whole hq (by simp [ey] at yl; omega) (fun h5 R => ?_)
        have R := R.swap
        have e5 := R.o 5000 (by decide) (by decide) (by decide)
        have e6 := R.o 5001 (by decide) (by decide) (by decide)
        have hc : tstep X Y = some (([⟨1, q.signs.length, []⟩], [pcut q (psz q)]), [], pleft q (psz q) :: y') := by simp [tstep, ex, ey, q2]
        rw [pcut_whole hq] at hc
        have hn := tstep_next hi hc
        have hdec := hn.dec
        have hcm := xf_next hi hc hcx hcy
        simp only at hcm hdec
        rw [hdV_cons]
        simp
        intro b1
        simp [e5, g5, e6, g6]
        intro b2
        refine ⟨by omega, fun H2 b3 => ⟨by omega, fun G2 => ?_⟩⟩
        refine Ent.refl ⟨[], pleft q (psz q) :: y', L ++ [⟨1, q.signs.length, []⟩], M ++ [q], ⟨hn.inv, hcm, ⟨mem_app hL hn.okx, mem_app hM hn.oky⟩, ⟨by simp; omega, by simp; omega⟩, by simp, by simp [ey] at yl ⊢; omega⟩, hdec, H2, G2, ?_⟩
        simp [R.gx, R.gy, Part.row]
      · exfalso
        have := nxt_pos ey
        rw [ex] at hxt
        rw [ey] at hyf
        simp [frs, q2] at hxt hyf
        omega
  | cons p x' =>
    rw [ex] at R
    have hp := (mem_nxt hi.px ex).1
    have hpb := hp.bounds
    have p0 : ¬ p.kind = 0 := by omega
    simp [hdV_cons, p0]
    refine R.next (by rw [← ex]; exact okx) (fun h3 R => ?_)
    rw [← ex, nxt_nxt, ex] at R
    rw [← ex, nxt_nxt, ex]
    by_cases p2 : p.kind = 2
    · simp [hdV_cons, p2]
      refine R.whole hp (by simp [ex] at xl; omega) (fun h5 R => ?_)
      have e5 := R.o 5000 (by decide) (by decide) (by decide)
      have e6 := R.o 5001 (by decide) (by decide) (by decide)
      have hc : tstep X Y = some (([pcut p (psz p)], [⟨1, p.signs.length, []⟩]), pleft p (psz p) :: x', Y) := by simp [tstep, ex, p2]
      rw [pcut_whole hp] at hc
      have hn := tstep_next hi hc
      have hdec := hn.dec
      have hcm := xf_next hi hc hcx hcy
      simp only at hcm hdec
      rw [hdV_cons]
      simp
      intro b1
      simp [e5, g5, e6, g6]
      intro b2
      refine ⟨by omega, fun H2 b3 => ⟨by omega, fun G2 => ?_⟩⟩
      refine Ent.refl ⟨pleft p (psz p) :: x', Y, L ++ [p], M ++ [⟨1, p.signs.length, []⟩], ⟨hn.inv, hcm, ⟨mem_app hL hn.okx, mem_app hM hn.oky⟩, ⟨by simp; omega, by simp; omega⟩, by simp [ex] at xl ⊢; omega, hly⟩, hdec, H2, G2, ?_⟩
      simp [R.gx, R.gy, Part.row]
    · simp [hdV_cons, p2]
      refine R.swap.next hi.py (fun h4 R => ?_)
      have R := R.swap
      cases ey : nxt Y with
      | nil =>
        exfalso
        have := nxt_pos ex
        rw [ex] at hxt
        rw [ey] at hyf
        simp [frs, p2] at hxt hyf
        omega
      | cons q y' =>
        rw [ey] at R
        have hq := (mem_nxt hi.py ey).1
        have hqb := hq.bounds
        by_cases q2 : q.kind = 2
        · simp [hdV_cons, q2]
          refine R.swap.whole hq (by simp [ey] at yl; omega) (fun h5 R => ?_)
          have R := R.swap
          have e5 := R.o 5000 (by decide) (by decide) (by decide)
          have e6 := R.o 5001 (by decide) (by decide) (by decide)
          have hc : tstep X Y = some (([⟨1, q.signs.length, []⟩], [pcut q (psz q)]), p :: x', pleft q (psz q) :: y') := by simp [tstep, ex, ey, q2, p2]
          rw [pcut_whole hq] at hc
          have hn := tstep_next hi hc
          have hdec := hn.dec
          have hcm := xf_next hi hc hcx hcy
          simp only at hcm hdec
          rw [hdV_cons]
          simp
          intro b1
          simp [e5, g5, e6, g6]
          intro b2
          refine ⟨by omega, fun H2 b3 => ⟨by omega, fun G2 => ?_⟩⟩
          refine Ent.refl ⟨p :: x', pleft q (psz q) :: y', L ++ [⟨1, q.signs.length, []⟩], M ++ [q], ⟨hn.inv, hcm, ⟨mem_app hL hn.okx, mem_app hM hn.oky⟩, ⟨by simp; omega, by simp; omega⟩, by simp [ex] at xl ⊢; omega, by simp [ey] at yl ⊢; omega⟩, hdec, H2, G2, ?_⟩
          simp [R.gx, R.gy, Part.row]
        · simp [hdV_cons, q2]
          refine R.next (by rw [← ex]; exact okx) (fun h5 R => ?_)
          rw [← ex, nxt_nxt, ex] at R
          rw [← ex, nxt_nxt, ex]
          simp [hdV_cons]
          refine ACall.pure (implSize_c p hp) (by simp [Part.row]) ?_
          simp
          refine R.swap.next (by rw [← ey]; exact oky) (fun h6 R => ?_)
          have R := R.swap
          rw [← ey, nxt_nxt, ey] at R
          rw [← ey, nxt_nxt, ey]
          simp [hdV_cons]
          refine ACall.pure (implSize_c q hq) (by simp [Part.row]) ?_
          simp
          rw [aMin_n]
          obtain ⟨n, hn⟩ : ∃ n, min (psz p) (psz q) = n := ⟨_, rfl⟩
          rw [hn]
          simp
          refine R.take hp (n := n) (by omega) (by simp [ex] at xl; omega) (fun h7 R => ?_)
          rw [hdV_cons]
          obtain ⟨pc, hpc⟩ : ∃ pc, pcut p n = pc := ⟨_, rfl⟩
          have pk : pc.kind = p.kind := by rw [← hpc]; simp
          rw [hpc]
          simp
          refine R.swap.take hq (n := n) (by omega) (by simp [ey] at yl; omega) (fun h8 R => ?_)
          have R := R.swap
          rw [hdV_cons]
          obtain ⟨qc, hqc⟩ : ∃ qc, pcut q n = qc := ⟨_, rfl⟩
          have qk : qc.kind = q.kind := by rw [← hqc]; simp
          rw [hqc]
          have e5 := R.o 5000 (by decide) (by decide) (by decide)
          have e6 := R.o 5001 (by decide) (by decide) (by decide)
          have hc : tstep X Y = some ((if q.kind = 1 then [pc] else [], if p.kind = 1 then [qc] else []), pleft p n :: x', pleft q n :: y') := by simp [tstep, ex, ey, p2, q2, hn, hpc, hqc]
          have hnx := tstep_next hi hc
          have hdec := hnx.dec
          have hcm := xf_next hi hc hcx hcy
          have okx' := hnx.okx
          have oky' := hnx.oky
          have hinv := hnx.inv
          clear hnx hc
          simp only at hcm hdec okx' oky' hinv
          have hlx2 : (pleft p n :: x').length ≤ 1000 := by simp [ex] at xl ⊢; omega
          have hly2 : (pleft q n :: y').length ≤ 1000 := by simp [ey] at yl ⊢; omega
          simp
          intro b1 b2
          by_cases q1 : q.kind = 1
          · by_cases p1 : p.kind = 1
            · simp only [q1, p1, if_true] at hcm okx' oky'
              simp [qk, q1, pk, p1, e5, g5, e6, g6]
              intro b3
              refine ⟨by omega, fun H2 b4 => ⟨by omega, fun G2 => ?_⟩⟩
              refine Ent.refl ⟨pleft p n :: x', pleft q n :: y', L ++ [pc], M ++ [qc], ⟨hinv, hcm, ⟨mem_app hL okx', mem_app hM oky'⟩, ⟨by simp; omega, by simp; omega⟩, hlx2, hly2⟩, hdec, H2, G2, ?_⟩
              simp [R.gx, R.gy, Part.row, pk, qk, p1, q1]
            · simp only [q1, p1, if_true, if_false] at hcm okx' oky'
              simp [qk, q1, pk, p1, e5, g5]
              intro b3
              refine ⟨by omega, fun H2 => ?_⟩
              refine Ent.refl ⟨pleft p n :: x', pleft q n :: y', L ++ [pc], M, ⟨hinv, by simpa using hcm, ⟨mem_app hL okx', hM⟩, ⟨by simp; omega, by omega⟩, hlx2, hly2⟩, hdec, H2, G, ?_⟩
              simp [R.gx, R.gy, Part.row, pk, q1, e6, g6]
          · by_cases p1 : p.kind = 1
            · simp only [q1, p1, if_true, if_false] at hcm okx' oky'
              simp [qk, q1, pk, p1, e6, g6]
              intro b3
              refine ⟨by omega, fun G2 => ?_⟩
              refine Ent.refl ⟨pleft p n :: x', pleft q n :: y', L, M ++ [qc], ⟨hinv, by simpa using hcm, ⟨hL, mem_app hM oky'⟩, ⟨by omega, by simp; omega⟩, hlx2, hly2⟩, hdec, H, G2, ?_⟩
              simp [R.gx, R.gy, Part.row, qk, p1, e5, g5]
            · simp only [q1, p1, if_false] at hcm okx' oky'
              simp [qk, q1, pk, p1]
              refine Ent.refl ⟨pleft p n :: x', pleft q n :: y', L, M, ⟨hinv, by simpa using hcm, ⟨hL, hM⟩, ⟨by omega, by omega⟩, hlx2, hly2⟩, hdec, H, G, ?_⟩
              simp [R.gx, R.gy, e5, g5, e6, g6]
end Go.Proofs.YtdfdabjdfmamgaaGreat

namespace Go.Proofs.YtdfdabjdfmamgaaGreat
open Go.AM
set_option maxRecDepth 20000


theorem specFlush_callD {w0 : World} {bF bG : Nat → Prop} {bl : Bool} {st : ASt} {dst : Option Nat} {K : ASt → Prop} {L : List Part} {P : List Int} {D : Int} {b : Nat} {Hl Hp : Hd} (hL : L.length ≤ 2 ^ 20) (_hP : P.length ≤ 2 ^ 40)
    (g160 : st.h.get 640 = .vars b 307 [.sl 5000 Hl 3 0 L.length, .sl 5001 Hp 1 0 P.length, .v (.int .i64 D)])
    (g5000 : st.h.get 5000 = .rows Hl 3 (L.map Part.row) true) (g5001 : st.h.get 5001 = .rows Hp 1 (P.map intR) true)
    (hK : ∀ Hl' h', AH.get h' 640 = .vars b 307 [.sl 5000 Hl' 3 0 (nbFlush L P D).length, .nil, .v (.int .i64 0)] → AH.get h' 5000 = .rows Hl' 3 ((nbFlush L P D).map Part.row) true →
      (∀ q, q < 15000 → q ≠ 640 → q ≠ 5000 → q ≠ 5001 → AH.get h' q = st.h.get q) → aPut ⟨st.n, st.kb, st.t, h'⟩ dst (.tup []) K) : ACall ⟨Tryz.prog, tt, w0, ⟨bF, bG, bl, fun _ => True⟩⟩ 334 [.p 640 b 0] st dst K := by
  refine ACall.inline tt_ok Tryz.func334 (by kernel_rfl) rfl rfl rfl (Nat.le_of_ble_eq_true rfl) 20000 (fun w1 F => ?_)
  simp [g160]
  by_cases hp : P = []
  · have hp0 : ¬ 0 < P.length := by simp [hp]
    simp [hp0, g160]
    by_cases hd : 0 < D
    · simp [hd]
      refine DrawT.introP eok mix [0, 1, 2, 3, 4, 5, 6, 7, 8, 9, 12, 13] [10, 11, 14] [([false, false, true, false, false, false, false, false, false, false, false, false], [true, true, false, true, true, true, true, true, true, true, true, true]), ([false, false, false, false, false, false, false, true, false, false, false, false], [true, true, false, true, true, true, true, false, true, true, true, true]), ([true, false, false, true, true, true, true, false, true, true, true, true], [false, true, false, false, false, false, false, false, false, false, false, false])] [false, true, false, false, false, false, false, false, false, false, false, false] (by kernel_rfl) ?_
      simp [g160, g5000]
      intro b1
      refine ⟨by omega, fun H => hK H _ ?_ ?_ ?_⟩
      · simp [flush3 hp hd]
      · simp [flush3 hp hd, Part.row]
      · intro q q0 q1 q2 q3
        repeat (first | exact rfl | refine (get_miss (by omega)).trans ?_)
    · simp [hd, g160]
      refine hK Hl _ ?_ ?_ ?_
      · simp [flush4 hp hd]
      · simp [flush4 hp hd, g5000]
      · intro q q0 q1 q2 q3
        repeat (first | exact rfl | refine (get_miss (by omega)).trans ?_)
  · have hp0 : 0 < P.length := List.length_pos_iff.2 hp
    simp [hp0]
    refine DrawT.introP eok mix [0, 1, 2, 3, 4, 5, 6, 7, 8, 9, 12, 13] [10, 11, 14] [([false, false, true, false, false, false, false, false, false, false, false, false], [true, true, false, true, true, true, true, true, true, true, true, true]), ([false, false, false, false, false, false, false, true, false, false, false, false], [true, true, false, true, true, true, true, false, true, true, true, true]), ([true, false, false, true, true, true, true, false, true, true, true, true], [false, true, false, false, false, false, false, false, false, false, false, false])] [false, true, false, false, false, false, false, false, false, false, false, false] (by kernel_rfl) ?_
    simp [g160, g5000, g5001]
    intro b1
    refine ⟨by omega, fun H => ?_⟩
    by_cases hd : 0 < D
    · simp [hd]
      refine DrawT.introP eok mix [0, 1, 2, 3, 4, 5, 6, 7, 8, 9, 12, 13] [10, 11, 14] [([false, false, true, false, false, false, false, false, false, false, false, false], [true, true, false, true, true, true, true, true, true, true, true, true]), ([false, false, false, false, false, false, false, true, false, false, false, false], [true, true, false, true, true, true, true, false, true, true, true, true]), ([true, false, false, true, true, true, true, false, true, true, true, true], [false, true, false, false, false, false, false, false, false, false, false, false])] [false, true, false, false, false, false, false, false, false, false, false, false] (by kernel_rfl) ?_
      simp
      intro b2
      refine ⟨by omega, fun H2 => hK H2 _ ?_ ?_ ?_⟩
      · simp [flush1 hp hd]
      · simp [flush1 hp hd, Part.row]
      · intro q q0 q1 q2 q3
        repeat (first | exact rfl | refine (get_miss (by omega)).trans ?_)
    · simp [hd]
      refine hK H _ ?_ ?_ ?_
      · simp [flush2 hp hd]
      · simp [flush2 hp hd, Part.row]
      · intro q q0 q1 q2 q3
        repeat (first | exact rfl | refine (get_miss (by omega)).trans ?_)

theorem specKeep_callD {w0 : World} {bF bG : Nat → Prop} {bl : Bool} {st : ASt} {dst : Option Nat} {K : ASt → Prop} {L : List Part} {P : List Int} {D n : Int} {b : Nat} {Hl Hp : Hd} (hL : L.length ≤ 2 ^ 19) (hP : P.length ≤ 2 ^ 40) (hn0 : 0 < n) (hn : n ≤ 200) (hF : ∀ q ∈ nbFlush L P D, 0 ≤ q.n ∧ q.n ≤ 2 ^ 40)
    (g160 : st.h.get 640 = .vars b 307 [.sl 5000 Hl 3 0 L.length, .sl 5001 Hp 1 0 P.length, .v (.int .i64 D)])
    (g5000 : st.h.get 5000 = .rows Hl 3 (L.map Part.row) true) (g5001 : st.h.get 5001 = .rows Hp 1 (P.map intR) true)
    (hK : ∀ Hl' h', AH.get h' 640 = .vars b 307 [.sl 5000 Hl' 3 0 (nbKeep (nbFlush L P D) n).length, .nil, .v (.int .i64 0)] → AH.get h' 5000 = .rows Hl' 3 ((nbKeep (nbFlush L P D) n).map Part.row) true →
      (∀ q, q < 15000 → q ≠ 640 → q ≠ 5000 → q ≠ 5001 → AH.get h' q = st.h.get q) → aPut ⟨st.n, st.kb, st.t, h'⟩ dst (.tup []) K) : ACall ⟨Tryz.prog, tt, w0, ⟨bF, bG, bl, fun _ => True⟩⟩ 301 [.p 640 b 0, .v (.int .i64 n)] st dst K := by
  refine ACall.inline tt_ok Tryz.func301 (by kernel_rfl) rfl rfl rfl (Nat.le_of_ble_eq_true rfl) 30000 (fun w1 F => ?_)
  have n0 : ¬ n = 0 := by omega
  simp [n0]
  refine specFlush_callD (L := L) (P := P) (D := D) (Hl := Hl) (Hp := Hp) (by omega) hP (by simp [g160]) (by simp [g5000]) (by simp [g5001]) (fun Hl' h' k160 k5000 k80 => ?_)
  have f1 := nbFlush_len L P D
  generalize nbFlush L P D = F at f1 hF k160 k5000 hK
  by_cases hF0 : 0 < F.length
  · obtain ⟨m, hm⟩ : ∃ m, F.length = m + 1 := ⟨F.length - 1, by omega⟩
    have hmlt : m < F.length := by omega
    have hmm : (m : Int) < m + 1 := by omega
    have em : Go.IntKind.i64.wrap (m : Int) = m := i64_nat (by omega)
    have hk : nbKeep F n = if F[m].kind = 1 then F.set m ⟨1, F[m].n + n, F[m].signs⟩ else F ++ [⟨1, n, []⟩] := by
      have e0 : F.length - 1 = m := by omega
      simp [nbKeep, hF0, e0]
    have hq := hF _ (List.getElem_mem hmlt)
    have em2 : Go.IntKind.i64.wrap (F[m].n + n) = F[m].n + n := Go.IntWalk.i64_in _ (by omega)
    simp [k160, k5000, hm, em, hmm, Part.row]
    by_cases ck : F[m].kind = 1
    · rw [if_pos ck] at hk
      simp [ck]
      refine DrawT.introP eok mix [0, 1, 2, 3, 4, 5, 6, 7, 8, 9, 10, 11, 12, 13, 14, 15, 16, 17, 18] [19] [([true, false, true, true, true, true, true, true, true, true, true, true, true, true, true, true, true, true, true], [false, true, false, false, false, false, false, false, false, false, false, false, false, false, false, false, false, false, false])] [false, true, false, false, false, false, false, false, false, false, false, false, false, false, false, false, false, false, false] (by kernel_rfl) ?_
      simp [k160, k5000, hm, em, hmm, Part.row, ck, em2]
      have hmod := modify_row (F := F) (m := m) hmlt (g := fun row => putL row 1 [CD.v (Value.int IntKind.i64 (F[m].n + n))]) (p := ⟨1, F[m].n + n, F[m].signs⟩) (by simp [Part.row, ck])
      refine hK Hl' _ ?_ ?_ ?_
      · simp [k160, hk, hm]
      · simp [hk, hmod]
      · intro q q0 q1 q2 q3
        repeat (first | exact k80 q q0 q1 q2 q3 | exact rfl | refine (get_miss (by omega)).trans ?_)
    · rw [if_neg ck] at hk
      simp [ck, k160, k5000, hm]
      intro b1
      refine ⟨by omega, fun H => hK H _ ?_ ?_ ?_⟩
      · simp [hk, hm]
      · simp [hk, Part.row]
      · intro q q0 q1 q2 q3
        repeat (first | exact k80 q q0 q1 q2 q3 | exact rfl | refine (get_miss (by omega)).trans ?_)
  · have hF1 : F = [] := List.eq_nil_of_length_eq_zero (by omega)
    subst hF1
    have hk : nbKeep [] n = [⟨1, n, []⟩] := by simp [nbKeep]
    simp [k160, k5000]
    intro b1 H
    refine hK H _ ?_ ?_ ?_
    · simp [hk]
    · simp [hk, Part.row]
    · intro q q0 q1 q2 q3
      repeat (first | exact k80 q q0 q1 q2 q3 | exact rfl | refine (get_miss (by omega)).trans ?_)

theorem specPut_callD {w0 : World} {bF bG : Nat → Prop} {bl : Bool} {st : ASt} {dst : Option Nat} {K : ASt → Prop} {L : List Part} {P l : List Int} {D : Int} {b : Nat} {Hl Hp : Hd} (hP : P.length ≤ 2 ^ 40) (hl : l.length ≤ 2 ^ 40)
    (g160 : st.h.get 640 = .vars b 307 [.sl 5000 Hl 3 0 L.length, .sl 5001 Hp 1 0 P.length, .v (.int .i64 D)]) (g5001 : st.h.get 5001 = .rows Hp 1 (P.map intR) true)
    (hK : ∀ Hp' h', AH.get h' 640 = .vars b 307 [.sl 5000 Hl 3 0 L.length, .sl 5001 Hp' 1 0 (P ++ l).length, .v (.int .i64 D)] → AH.get h' 5001 = .rows Hp' 1 ((P ++ l).map intR) true → AH.get h' 5000 = st.h.get 5000 →
      (∀ q, q < 15000 → q ≠ 640 → q ≠ 5000 → q ≠ 5001 → AH.get h' q = st.h.get q) → aPut ⟨st.n, st.kb, st.t, h'⟩ dst (.tup []) K) : ACall ⟨Tryz.prog, tt, w0, ⟨bF, bG, bl, fun _ => True⟩⟩ 298 [.p 640 b 0, .ro (l.map intR)] st dst K := by
  refine ACall.inline tt_ok Tryz.func298 (by kernel_rfl) rfl rfl rfl (Nat.le_of_ble_eq_true rfl) 30000 (fun w1 F => ?_)
  simp [g160, g5001]
  refine ⟨by omega, fun H => hK H _ ?_ ?_ ?_ ?_⟩
  · simp
  · simp
  · simp
  · intro q q0 q1 q2 q3
    repeat (first | exact rfl | refine (get_miss (by omega)).trans ?_)

theorem specDrop_callD {w0 : World} {bF bG : Nat → Prop} {bl : Bool} {st : ASt} {dst : Option Nat} {K : ASt → Prop} {n D : Int} {b : Nat} {x y : AV} (h0 : 0 ≤ D ∧ D ≤ 2 ^ 40) (h1 : 0 ≤ n ∧ n ≤ 2 ^ 40)
    (g160 : st.h.get 640 = .vars b 307 [x, y, .v (.int .i64 D)])
    (hK : ∀ h', AH.get h' 640 = .vars b 307 [x, y, .v (.int .i64 (D + n))] → (∀ q, q ≠ 640 → AH.get h' q = st.h.get q) → aPut ⟨st.n, st.kb, st.t, h'⟩ dst (.tup []) K) : ACall ⟨Tryz.prog, tt, w0, ⟨bF, bG, bl, fun _ => True⟩⟩ 297 [.p 640 b 0, .v (.int .i64 n)] st dst K := by
  refine ACall.inline tt_ok Tryz.func297 (by kernel_rfl) rfl rfl rfl (Nat.le_of_ble_eq_true rfl) 30000 (fun w1 F => ?_)
  have e : Go.IntKind.i64.wrap (D + n) = D + n := Go.IntWalk.i64_in _ (by omega)
  simp [g160, e]
  refine hK _ (by simp) (fun q hq => by simp [hq])


end Go.Proofs.YtdfdabjdfmamgaaGreat

