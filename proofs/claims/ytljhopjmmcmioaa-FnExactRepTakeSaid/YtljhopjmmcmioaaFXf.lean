import Derived.Test.YtljhopjmmcmioaaFCmp
namespace Go.Proofs.Ytljhopjmmcmioaa
set_option maxRecDepth 20000

abbrev XR := (List Part × List Part) × List Part × List Part
/-- a round of Transform -/
def tstep (x y : List Part) : Option XR :=
  match nxt x with
  | p :: x' => if p.kind = 2 then some (([pcut p (psz p)], [⟨1, p.signs.length, []⟩]), pleft p (psz p) :: x', y) else match nxt y with
    | q :: y' => if q.kind = 2 then some (([⟨1, q.signs.length, []⟩], [pcut q (psz q)]), p :: x', pleft q (psz q) :: y') else
        some ((if q.kind = 1 then [pcut p (min (psz p) (psz q))] else [], if p.kind = 1 then [pcut q (min (psz p) (psz q))] else []), pleft p (min (psz p) (psz q)) :: x', pleft q (min (psz p) (psz q)) :: y')
    | [] => none
  | [] => match nxt y with
    | q :: y' => if q.kind = 2 then some (([⟨1, q.signs.length, []⟩], [pcut q (psz q)]), [], pleft q (psz q) :: y') else none
    | [] => none

structure TInv (x y : List Part) : Prop where
  px : ∀ p ∈ x, partOk p
  py : ∀ p ∈ y, partOk p
  b : frs x = frs y
structure TNext (x y : List Part) (r : XR) : Prop where
  inv : TInv r.2.1 r.2.2
  dec : tsz r.2.1 + tsz r.2.2 < tsz x + tsz y
  okx : ∀ p ∈ r.1.1, partOk p
  oky : ∀ p ∈ r.1.2, partOk p
  lenx : r.1.1.length ≤ 1
  leny : r.1.2.length ≤ 1
theorem keepOk {p : Part} (h : partOk p) : partOk ⟨1, p.signs.length, []⟩ := by
  have := h.bounds
  exact .inl ⟨.inl rfl, by simp only; omega, rfl⟩
theorem tstep_next {x y : List Part} (hi : TInv x y) {r : XR} (h : tstep x y = some r) : TNext x y r := by
  have hx := nxt_tsz x
  have hy := nxt_tsz y
  have hxt := nxt_frs x
  have hyf := nxt_frs y
  have hb := hi.b
  unfold tstep at h
  cases ex : nxt x with
  | nil =>
    rw [ex] at h hx hxt
    cases ey : nxt y with
    | nil => simp [ey] at h
    | cons q y' =>
      rw [ey] at hy hyf
      have hq := mem_nxt hi.py ey
      have hp := nxt_pos ey
      simp only [ey] at h
      split at h
      · rename_i k
        cases h
        have hs := pleft_sz hq.1 (Nat.le_refl _)
        refine ⟨⟨by simp, mem_pleft hi.py ey (Nat.le_refl _), ?_⟩, ?_, ?_, ?_, by simp, by simp⟩
        · simp [frs, k] at hxt hyf ⊢; omega
        · simp [tsz] at hx hy ⊢; omega
        · intro p hp; simp at hp; subst hp; exact keepOk hq.1
        · intro p hp; simp at hp; subst hp; exact pcut_ok hq.1 (Nat.le_refl _)
      · cases h
  | cons p x' =>
    rw [ex] at h hx hxt
    have hp := mem_nxt hi.px ex
    have hpp := nxt_pos ex
    simp only at h
    split at h
    · rename_i k
      cases h
      have hs := pleft_sz hp.1 (Nat.le_refl _)
      refine ⟨⟨mem_pleft hi.px ex (Nat.le_refl _), hi.py, ?_⟩, ?_, ?_, ?_, by simp, by simp⟩
      · simp [frs, k] at hxt ⊢; omega
      · simp [tsz] at hx ⊢; omega
      · intro q hq; simp at hq; subst hq; exact pcut_ok hp.1 (Nat.le_refl _)
      · intro q hq; simp at hq; subst hq; exact keepOk hp.1
    · rename_i k3
      cases ey : nxt y with
      | nil => simp [ey] at h
      | cons q y' =>
        rw [ey] at hy hyf
        have hq := mem_nxt hi.py ey
        have hqp := nxt_pos ey
        simp only [ey] at h
        split at h
        · rename_i k
          cases h
          have hs := pleft_sz hq.1 (Nat.le_refl _)
          refine ⟨⟨hp.2, mem_pleft hi.py ey (Nat.le_refl _), ?_⟩, ?_, ?_, ?_, by simp, by simp⟩
          · simp [frs, k, k3] at hxt hyf ⊢; omega
          · simp [tsz] at hx hy ⊢; omega
          · intro p hp; simp at hp; subst hp; exact keepOk hq.1
          · intro p hp; simp at hp; subst hp; exact pcut_ok hq.1 (Nat.le_refl _)
        · rename_i k2
          cases h
          have hn1 : min (psz p) (psz q) ≤ psz p := by omega
          have hn2 : min (psz p) (psz q) ≤ psz q := by omega
          have hs1 := pleft_sz hp.1 hn1
          have hs2 := pleft_sz hq.1 hn2
          refine ⟨⟨mem_pleft hi.px ex hn1, mem_pleft hi.py ey hn2, ?_⟩, ?_, ?_, ?_, ?_, ?_⟩
          · simp [frs, k2, k3] at hxt hyf ⊢; omega
          · simp [tsz] at hx hy ⊢; omega
          · intro r hr
            simp only at hr
            split at hr
            · simp at hr; subst hr; exact pcut_ok hp.1 hn1
            · simp at hr
          · intro r hr
            simp only at hr
            split at hr
            · simp at hr; subst hr; exact pcut_ok hq.1 hn2
            · simp at hr
          · simp only; split <;> simp
          · simp only; split <;> simp

noncomputable def xfK : Nat → List Part → List Part → List Part × List Part
  | 0, _, _ => ([], [])
  | k + 1, x, y => match tstep x y with
    | none => ([], [])
    | some r => (r.1.1 ++ (xfK k r.2.1 r.2.2).1, r.1.2 ++ (xfK k r.2.1 r.2.2).2)
noncomputable def xf (x y : List Part) : List Part × List Part := xfK (tsz x + tsz y) x y
theorem xfK_eq : ∀ (k m : Nat) {x y : List Part}, TInv x y → tsz x + tsz y ≤ k → tsz x + tsz y ≤ m → xfK k x y = xfK m x y
  | 0, 0, _, _, _, _, _ => rfl
  | k + 1, 0, x, y, hi, h, h2 => by
    rw [xfK, xfK]
    cases hs : tstep x y with
    | none => rfl
    | some r => have := (tstep_next hi hs).dec; omega
  | 0, m + 1, x, y, hi, h, h2 => by
    rw [xfK, xfK]
    cases hs : tstep x y with
    | none => rfl
    | some r => have := (tstep_next hi hs).dec; omega
  | k + 1, m + 1, x, y, hi, h, h2 => by
    rw [xfK, xfK]
    cases hs : tstep x y with
    | none => rfl
    | some r =>
      have hn := tstep_next hi hs
      have := hn.dec
      simp only
      rw [xfK_eq k m hn.inv (by omega) (by omega)]
theorem xf_none {x y : List Part} (h : tstep x y = none) : xf x y = ([], []) := by
  unfold xf
  cases tsz x + tsz y with
  | zero => rfl
  | succ k => rw [xfK, h]
theorem xf_some {x y : List Part} (hi : TInv x y) {r : XR} (h : tstep x y = some r) : xf x y = (r.1.1 ++ (xf r.2.1 r.2.2).1, r.1.2 ++ (xf r.2.1 r.2.2).2) := by
  have hn := tstep_next hi h
  have hd := hn.dec
  unfold xf
  obtain ⟨k, hk⟩ : ∃ k, tsz x + tsz y = k + 1 := ⟨tsz x + tsz y - 1, by omega⟩
  rw [hk, xfK, h]
  simp only
  rw [xfK_eq k (tsz r.2.1 + tsz r.2.2) hn.inv (by omega) (by omega)]

theorem frs_sum : ∀ {o : List Part}, (∀ p ∈ o, partOk p) → (frs o : Int) = sumI (fBut 2) o
  | [], _ => rfl
  | p :: o, h => by
    have ih := frs_sum (fun q hq => h q (List.mem_cons_of_mem _ hq))
    have hp := psz_int (h p (List.mem_cons_self ..))
    simp only [frs, sumI, fBut]
    split <;> simp <;> omega
theorem tos_sum : ∀ {o : List Part}, (∀ p ∈ o, partOk p) → (tos o : Int) = sumI (fBut 3) o
  | [], _ => rfl
  | p :: o, h => by
    have ih := tos_sum (fun q hq => h q (List.mem_cons_of_mem _ hq))
    have hp := psz_int (h p (List.mem_cons_self ..))
    simp only [tos, sumI, fBut]
    split <;> simp <;> omega
theorem frs_from {o : List Part} (h : opOk o) : (frs o : Int) = opFrom o := by
  rw [frs_sum h.1.1, sumI_congr (fun p hp => but2 (h.1.1 p hp)), sumI_add]
  unfold opFrom l02Sum
  rw [if_pos h.1]
theorem tos_to {o : List Part} (h : opOk o) : (tos o : Int) = opTo o := by
  rw [tos_sum h.1.1, sumI_congr (fun p hp => but3 (h.1.1 p hp)), sumI_add]
  unfold opTo l02Sum
  rw [if_pos h.1]
theorem tsz_le : ∀ (o : List Part), tsz o ≤ frs o + tos o
  | [] => by simp [tsz]
  | p :: o => by
    have := tsz_le o
    simp only [tsz, frs, tos]
    split <;> split <;> omega
theorem tsz_ok {o : List Part} (h : opOk o) : tsz o ≤ 400 := by
  have h1 := tsz_le o
  have h2 := frs_from h
  have h3 := tos_to h
  have := h.2
  omega
theorem cinv_of {a b : List Part} (ha : opOk a) (hb : opOk b) (h : opTo a = opFrom b) : CInv a b := by
  have h2 := frs_from hb
  have h3 := tos_to ha
  exact ⟨ha.1.1, hb.1.1, by omega⟩
theorem tinv_of {a b : List Part} (ha : opOk a) (hb : opOk b) (h : opFrom a = opFrom b) : TInv a b := by
  have h2 := frs_from hb
  have h3 := frs_from ha
  exact ⟨ha.1.1, hb.1.1, by omega⟩

open Classical in
noncomputable def fCompose (a b : List Part) : List Part × Bool :=
  if opOk a ∧ opOk b ∧ opTo a = opFrom b then (if opOk (normal (cmp a b)) then (normal (cmp a b), true) else ([], false)) else ([], false)
open Classical in
noncomputable def fTransform (a b : List Part) : List Part × List Part × Bool :=
  if opOk a ∧ opOk b ∧ opFrom a = opFrom b then (if opOk (normal (xf a b).1) ∧ opOk (normal (xf a b).2) then (normal (xf a b).1, normal (xf a b).2, true) else ([], [], false)) else ([], [], false)
end Go.Proofs.Ytljhopjmmcmioaa
