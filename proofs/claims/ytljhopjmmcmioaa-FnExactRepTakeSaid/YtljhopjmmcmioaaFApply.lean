import Derived.Test.YtljhopjmmcmioaaFRepResend
namespace Go.Proofs.Ytljhopjmmcmioaa
open Go.AM
set_option maxRecDepth 20000

/-- what is made of a text, from a place on -/
def apStep (t : List Int) (s : List Int × Int) (p : Part) : List Int × Int :=
  if p.kind = 1 then (s.1 ++ (t.drop s.2.toNat).take p.n.toNat, s.2 + p.n) else if p.kind = 2 then (s.1 ++ p.signs, s.2) else (s.1, s.2 + p.n)
def apRun (o : List Part) (t : List Int) : List Int × Int := o.foldl (apStep t) ([], 0)
theorem apRun_suc {o : List Part} {t : List Int} {i : Nat} (h : i < o.length) : apRun (o.take (i + 1)) t = apStep t (apRun (o.take i) t) o[i] := by
  unfold apRun
  rw [← List.take_append_getElem h, List.foldl_append]
  rfl

def fits3 (o : List Part) (t : List Int) : Prop := opOk o ∧ textOk t ∧ opFrom o = t.length
open Classical in
noncomputable def apply (o : List Part) (t : List Int) : List Int × Bool := if fits3 o t then ((apRun o t).1, true) else ([], false)

/-- how far the text has been read -/
theorem apRun_at {o : List Part} {t : List Int} (ho : ∀ p ∈ o, partOk p) : ∀ (i : Nat), i ≤ o.length → (apRun (o.take i) t).2 = sumI fK (o.take i) + sumI fD (o.take i) ∧ (apRun (o.take i) t).1.length ≤ 200 * i
  | 0, _ => by simp [apRun, sumI]
  | i + 1, hi => by
    have hlt : i < o.length := by omega
    obtain ⟨h1, h2⟩ := apRun_at ho i (by omega)
    have hb := (ho _ (List.getElem_mem hlt)).bounds
    rw [apRun_suc hlt, sumI_suc hlt, sumI_suc hlt]
    generalize apRun (o.take i) t = s at h1 h2
    obtain ⟨L, a⟩ := s
    simp only at h1 h2
    generalize sumI fK (o.take i) = x1 at h1 ⊢
    generalize sumI fD (o.take i) = x2 at h1 ⊢
    unfold apStep fK fD
    by_cases k1 : o[i].kind = 1
    · simp [k1]
      omega
    · by_cases k2 : o[i].kind = 2
      · simp [k2]; omega
      · simp [k1, k2]; omega

theorem sumI_take_le {f : Part → Int} (hf : ∀ p, partOk p → 0 ≤ f p) : ∀ {o : List Part} (_ : ∀ p ∈ o, partOk p) (i : Nat), sumI f (o.take i) ≤ sumI f o
  | [], _, i => by simp
  | p :: o, ho, 0 => by
    have h1 := hf p (ho p (List.mem_cons_self ..))
    have h2 := sumI_take_le hf (o := o) (fun q hq => ho q (List.mem_cons_of_mem _ hq)) 0
    simp only [List.take_zero, sumI] at h2 ⊢
    omega
  | p :: o, ho, i + 1 => by
    have h2 := sumI_take_le hf (o := o) (fun q hq => ho q (List.mem_cons_of_mem _ hq)) i
    simp only [List.take_succ_cons, sumI]
    omega

/-- the places lie in the text -/
theorem apRun_in {o : List Part} {t : List Int} (h : fits3 o t) {i : Nat} (hi : i < o.length) : 0 ≤ (apRun (o.take i) t).2 ∧ (o[i].kind ≠ 2 → (apRun (o.take i) t).2 + o[i].n ≤ t.length) ∧ (apRun (o.take i) t).2 ≤ t.length := by
  have ho := h.1.1.1
  have h1 := (apRun_at (t := t) ho i (by omega)).1
  have hf : opFrom o = sumI fK o + sumI fD o := by unfold opFrom l02Sum; rw [if_pos h.1.1]
  have h2 := sumI_take_le (fun p hp => (fK_b hp).1) ho (i + 1)
  have h3 := sumI_take_le (fun p hp => (fD_b hp).1) ho (i + 1)
  have h4 := sumI_bound (f := fK) (fun p h => fK_b h) (take_ok ho i)
  have h5 := sumI_bound (f := fD) (fun p h => fD_b h) (take_ok ho i)
  have h6 := sumI_suc (f := fK) hi
  have h7 := sumI_suc (f := fD) hi
  have h8 := h.2.2
  have hb := (ho _ (List.getElem_mem hi)).bounds
  have k1 := fK_b (ho _ (List.getElem_mem hi))
  have k2 := fD_b (ho _ (List.getElem_mem hi))
  refine ⟨by omega, fun hk => ?_, by omega⟩
  have : fK o[i] + fD o[i] = o[i].n := by
    unfold fK fD
    by_cases c1 : o[i].kind = 1
    · simp [c1]
    · simp [c1, hk]
  omega

theorem implApply_c (o : List Part) (t : List Int) (hl : nL nPart o ≤ 2 ^ 40) (ht : t.length ≤ 2 ^ 40) : PureC Try.prog 97 [.c (.s (o.map Part.row)), .c (.s (t.map intR))] (.tup [.c (.s ((apply o t).1.map intR)) 1, .c (.v (.bool (apply o t).2)) 1]) := by
  refine PureC.intro' tt_ok Try.func97 (by kernel_rfl) rfl rfl rfl (Nat.le_of_ble_eq_true rfl) (fun w0 base => ?_)
  simp
  have no : ¬ fits3 o t → apply o t = ([], false) := fun h => by unfold apply; rw [if_neg h]
  refine ACall.pure (implOpOk_c o hl) (by simp) ?_
  by_cases c1 : opOk o
  rotate_left
  · have e : dc (opOk o) = false := by rw [dc_no]; exact c1
    simp [e, no (fun h => c1 h.1)]
  simp [c1]
  refine ACall.pure (implTextOk_c t ht) (by simp) ?_
  by_cases c2 : textOk t
  rotate_left
  · have e : dc (textOk t) = false := by rw [dc_no]; exact c2
    simp [e, no (fun h => c2 h.2.1)]
  simp [c2]
  refine ACall.pure (implOpFrom_c o hl) (by simp) ?_
  by_cases c3 : opFrom o = t.length
  rotate_left
  · simp [c3, no (fun h => c3 h.2.2)]
  have hf : fits3 o t := ⟨c1, c2, c3⟩
  have e : apply o t = ((apRun o t).1, true) := by unfold apply; rw [if_pos hf]
  have ho := c1.1.1
  have hlen := c1.1.2
  simp [c3, e]
  refine LoopT.intro eok (fun x : Nat × Hd => x.1 ≤ o.length) (fun x => ⟨60, 0, [(27, .v (.int .i64 x.1)), (26, .v (.int .i64 o.length)), (25, .ro (o.map Part.row)), (7, .v (.int .i64 (apRun (o.take x.1) t).2)), (6, .sl 752 x.2 1 0 (apRun (o.take x.1) t).1.length), (1, .ro (t.map intR))], [(752, .rows x.2 1 ((apRun (o.take x.1) t).1.map intR) true)]⟩) (fun x => o.length - x.1) (0, none) (by simp) (by simp [apRun]) (fun x hi => ?_)
  obtain ⟨i, H⟩ := x
  simp only at hi ⊢
  by_cases h : i < o.length
  · have hin := apRun_in hf h
    have hat := apRun_at (t := t) ho i hi
    have hb := (ho _ (List.getElem_mem h)).bounds
    have hs := apRun_suc (t := t) h
    generalize apRun (o.take i) t = s at hin hat hs
    obtain ⟨L, a⟩ := s
    simp only at hin hat hs
    obtain ⟨a', rfl⟩ : ∃ a' : Nat, a = a' := ⟨a.toNat, by omega⟩
    obtain ⟨n, hn⟩ : ∃ n : Nat, o[i].n = n := ⟨o[i].n.toNat, by omega⟩
    have e : Go.IntKind.i64.wrap ((i : Int) + 1) = ((i + 1 : Nat) : Int) := i64_suc (by omega)
    have ea : Go.IntKind.i64.wrap ((a' : Int) + n) = (a' : Int) + n := Go.IntWalk.i64_in _ (by omega)
    rw [hn] at hin
    simp [h, Part.row]
    intro b9
    by_cases k1 : o[i].kind = 1
    · have hle : a' + n ≤ t.length := by have := hin.2.1 (by omega); omega
      have hst : apStep t (L, (a' : Int)) o[i] = (L ++ (t.drop a').take n, (a' : Int) + n) := by simp [apStep, k1, hn]
      rw [hst] at hs
      obtain ⟨m, hm⟩ : ∃ m, (t.drop a').take n = m := ⟨_, rfl⟩
      have hcut : cut (t.map intR) a' n = m.map intR := by rw [cut_eq, ← hm]; simp
      have hlen2 : m.length = n := by rw [← hm]; simp; omega
      rw [hm] at hs
      simp [k1, hn, ea, hle, hcut]
      refine ⟨by omega, fun H2 => ⟨i + 1, by omega, by omega, H2, ?_⟩⟩
      rw [hs]
      simp [e]
    · by_cases k3 : o[i].kind = 3
      · have hst : apStep t (L, (a' : Int)) o[i] = (L, (a' : Int) + n) := by simp [apStep, k3, hn]
        rw [hst] at hs
        simp [k3, hn, ea]
        refine ⟨i + 1, by omega, by omega, H, ?_⟩
        rw [hs]
        simp [e]
      · have k2 : o[i].kind = 2 := by omega
        have hst : apStep t (L, (a' : Int)) o[i] = (L ++ o[i].signs, (a' : Int)) := by simp [apStep, k2]
        rw [hst] at hs
        simp [k2]
        refine ⟨by omega, fun H2 => ⟨i + 1, by omega, by omega, H2, ?_⟩⟩
        rw [hs]
        simp [e]
  · have he : o.take i = o := List.take_of_length_le (by omega)
    rw [he]
    simp [h]
end Go.Proofs.Ytljhopjmmcmioaa
