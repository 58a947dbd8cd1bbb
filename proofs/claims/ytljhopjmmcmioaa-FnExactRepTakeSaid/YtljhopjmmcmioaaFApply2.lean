import Derived.Test.YtljhopjmmcmioaaFApply
namespace Go.Proofs.Ytljhopjmmcmioaa
open Go.AM
set_option maxRecDepth 20000

theorem l03Fits_c (o : List Part) (t : List Int) (hl : nL nPart o ≤ 2 ^ 40) (ht : t.length ≤ 2 ^ 40) : PureC Try.prog 158 [.c (.s (o.map Part.row)), .c (.s (t.map intR))] (.one (.c (vb (fits3 o t)) 1)) := by
  refine PureC.intro' tt_ok Try.func158 (by kernel_rfl) rfl rfl rfl (Nat.le_of_ble_eq_true rfl) (fun w0 base => ?_)
  simp
  refine ACall.pure (specOpOk_c o hl) (by simp) ?_
  by_cases c1 : opOk o
  rotate_left
  · simp [c1, fits3]
  simp [c1]
  refine ACall.pure (specTextOk_c t ht) (by simp) ?_
  by_cases c2 : textOk t
  rotate_left
  · simp [c2, fits3]
  simp [c2]
  refine ACall.pure (specOpFrom_c o hl) (by simp) ?_
  simp [fits3, c1, c2]

theorem specApply_c (o : List Part) (t : List Int) (hl : nL nPart o ≤ 2 ^ 40) (ht : t.length ≤ 2 ^ 40) : PureC Try.prog 93 [.c (.s (o.map Part.row)), .c (.s (t.map intR))] (.tup [.c (.s ((apply o t).1.map intR)) 1, .c (.v (.bool (apply o t).2)) 1]) := by
  refine PureC.intro' tt_ok Try.func93 (by kernel_rfl) rfl rfl rfl (Nat.le_of_ble_eq_true rfl) (fun w0 base => ?_)
  simp
  refine ACall.pure (l03Fits_c o t hl ht) (by simp) ?_
  by_cases hf : fits3 o t
  rotate_left
  · have e : dc (fits3 o t) = false := by rw [dc_no]; exact hf
    have e2 : apply o t = ([], false) := by unfold apply; rw [if_neg hf]
    simp [e, e2]
  have e : apply o t = ((apRun o t).1, true) := by unfold apply; rw [if_pos hf]
  have ho := hf.1.1.1
  have hlen := hf.1.1.2
  simp [hf, e]
  intro b
  refine LoopT.intro eok (fun x : Nat × Hd => x.1 ≤ o.length) (fun x => ⟨50, 0, [(17, .v (.int .i64 x.1)), (16, .v (.int .i64 o.length)), (15, .ro (o.map Part.row)), (7, .v (.int .i64 (apRun (o.take x.1) t).2)), (6, .sl 224 x.2 1 0 (apRun (o.take x.1) t).1.length), (1, .ro (t.map intR))], [(224, .rows x.2 1 ((apRun (o.take x.1) t).1.map intR) true)]⟩) (fun x => o.length - x.1) (0, some (b, 0, 0)) (by simp) (by simp [apRun]) (fun x hi => ?_)
  obtain ⟨i, H⟩ := x
  simp only at hi ⊢
  by_cases h : i < o.length
  · have hin := apRun_in hf h
    have hat := apRun_at (t := t) ho i hi
    have hb := (ho _ (List.getElem_mem h)).bounds
    have hs := apRun_suc (t := t) h
    generalize apRun (o.take i) t = s at hin hat hs
    obtain ⟨L, a⟩ := s
    simp only at hin hat hs
    obtain ⟨a', rfl⟩ : ∃ a' : Nat, a = a' := ⟨a.toNat, by omega⟩
    obtain ⟨n, hn⟩ : ∃ n : Nat, o[i].n = n := ⟨o[i].n.toNat, by omega⟩
    have e : Go.IntKind.i64.wrap ((i : Int) + 1) = ((i + 1 : Nat) : Int) := i64_suc (by omega)
    have ea : Go.IntKind.i64.wrap ((a' : Int) + n) = (a' : Int) + n := Go.IntWalk.i64_in _ (by omega)
    rw [hn] at hin
    simp [h, Part.row]
    intro b9
    by_cases k1 : o[i].kind = 1
    · have hle : a' + n ≤ t.length := by have := hin.2.1 (by omega); omega
      have hst : apStep t (L, (a' : Int)) o[i] = (L ++ (t.drop a').take n, (a' : Int) + n) := by simp [apStep, k1, hn]
      rw [hst] at hs
      obtain ⟨m, hm⟩ : ∃ m, (t.drop a').take n = m := ⟨_, rfl⟩
      have hcut : cut (t.map intR) a' n = m.map intR := by rw [cut_eq, ← hm]; simp
      have hlen2 : m.length = n := by rw [← hm]; simp; omega
      rw [hm] at hs
      simp [k1, hn, ea, hle, hcut]
      refine ⟨by omega, fun H2 => ⟨i + 1, by omega, by omega, H2, ?_⟩⟩
      rw [hs]
      simp [e]
    · by_cases k2 : o[i].kind = 2
      · have hst : apStep t (L, (a' : Int)) o[i] = (L ++ o[i].signs, (a' : Int)) := by simp [apStep, k2]
        rw [hst] at hs
        simp [k2]
        refine ⟨by omega, fun H2 => ⟨i + 1, by omega, by omega, H2, ?_⟩⟩
        rw [hs]
        simp [e]
      · have k3 : o[i].kind = 3 := by omega
        have hst : apStep t (L, (a' : Int)) o[i] = (L, (a' : Int) + n) := by simp [apStep, k3, hn]
        rw [hst] at hs
        simp [k1, k2, hn, ea]
        refine ⟨i + 1, by omega, by omega, H, ?_⟩
        rw [hs]
        simp [e]
  · have he : o.take i = o := List.take_of_length_le (by omega)
    rw [he]
    simp [h]

theorem apply_len (o : List Part) (t : List Int) : (apply o t).1.length ≤ 2 ^ 17 := by
  unfold apply
  split
  · rename_i h
    have h1 := (apRun_at (t := t) h.1.1.1 o.length (by omega)).2
    rw [List.take_length] at h1
    have := h.1.1.2
    simp only; omega
  · simp

abbrev partsR (o : List Part) : List CD := [.s (o.map Part.row)]
open Classical in
noncomputable def applyFrom : List (List Part) → List Int → Option (List Int)
  | [], t => some t
  | o :: l, t => if (apply o t).2 = true then applyFrom l (apply o t).1 else none
open Classical in
noncomputable def applyAll (l : List (List Part)) (t : List Int) : List Int × Bool :=
  if textOk t then match applyFrom l t with
    | some u => (u, true)
    | none => ([], false)
  else ([], false)

theorem applyFrom_drop {l : List (List Part)} {i : Nat} {u : List Int} (h : i < l.length) : applyFrom (l.drop i) u = if (apply l[i] u).2 = true then applyFrom (l.drop (i + 1)) (apply l[i] u).1 else none := by
  rw [List.drop_eq_getElem_cons h, applyFrom]

theorem implApplyAll_c (l : List (List Part)) (t : List Int) (hl : l.length ≤ 2 ^ 30) (hs : ∀ o ∈ l, nL nPart o ≤ 2 ^ 40) (ht : t.length ≤ 2 ^ 40) : PureC Try.prog 166 [.c (.s (l.map partsR)), .c (.s (t.map intR))] (.tup [.c (.s ((applyAll l t).1.map intR)) 1, .c (.v (.bool (applyAll l t).2)) 1]) := by
  refine PureC.intro' tt_ok Try.func166 (by kernel_rfl) rfl rfl rfl (Nat.le_of_ble_eq_true rfl) (fun w0 base => ?_)
  simp
  refine ACall.pure (implTextOk_c t ht) (by simp) ?_
  by_cases c2 : textOk t
  rotate_left
  · have e : dc (textOk t) = false := by rw [dc_no]; exact c2
    have e2 : applyAll l t = ([], false) := by unfold applyAll; rw [if_neg c2]
    simp [e, e2]
  obtain ⟨r, hr⟩ : ∃ r, applyAll l t = r := ⟨_, rfl⟩
  have hr' : (match applyFrom l t with | some u => (u, true) | none => ([], false)) = r := by rw [← hr]; unfold applyAll; rw [if_pos c2]
  rw [hr]
  simp [c2]
  refine ACall.pure (copyInts_c t ht) (by simp) ?_
  simp
  intro H0
  refine LoopT.intro eok (fun x : Nat × Nat × Hd × List Int => x.1 ≤ l.length ∧ x.2.2.2.length ≤ 2 ^ 40 ∧ (match applyFrom (l.drop x.1) x.2.2.2 with | some u => (u, true) | none => ([], false)) = r)
    (fun x => ⟨33, 0, [(18, .v (.int .i64 x.1)), (17, .v (.int .i64 l.length)), (16, .ro (l.map partsR)), (6, .sl x.2.1 x.2.2.1 1 0 x.2.2.2.length)], [(x.2.1, .rows x.2.2.1 1 (x.2.2.2.map intR) true)]⟩) (fun x => l.length - x.1) (0, 240, H0, t) (by simp [ht, hr']) (by simp) (fun x hi => ?_)
  obtain ⟨i, K, H, u⟩ := x
  simp only at hi ⊢
  obtain ⟨hi1, hi2, hi3⟩ := hi
  by_cases h : i < l.length
  · have e : Go.IntKind.i64.wrap ((i : Int) + 1) = ((i + 1 : Nat) : Int) := i64_suc (by omega)
    rw [applyFrom_drop h] at hi3
    have hlen := apply_len l[i] u
    simp [h]
    refine ACall.pure (implApply_c l[i] u (hs _ (List.getElem_mem h)) hi2) (by simp) ?_
    generalize apply l[i] u = q at hi3 hlen
    obtain ⟨v, ok⟩ := q
    simp only at hi3 hlen
    cases ok
    · simp at hi3
      simp [← hi3]
    · simp at hi3
      simp
      intro H2
      exact ⟨i + 1, 400, H2, v, ⟨by omega, by omega, hi3⟩, by omega, ⟨e, rfl, rfl, rfl⟩, .inl rfl⟩
  · have hd : l.drop i = [] := List.drop_eq_nil_of_le (by omega)
    rw [hd] at hi3
    simp [applyFrom] at hi3
    simp [h, ← hi3]

end Go.Proofs.Ytljhopjmmcmioaa
