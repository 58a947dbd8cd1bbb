import Derived.Test.YtljhopjmmcmioaaFIdle
namespace Go.Proofs.Ytljhopjmmcmioaa
set_option maxRecDepth 20000

def psz (p : Part) : Nat := p.n.toNat + p.signs.length
def pcut (p : Part) (n : Nat) : Part := if p.kind = 2 then ⟨p.kind, p.n, p.signs.take n⟩ else ⟨p.kind, n, p.signs⟩
def pleft (p : Part) (n : Nat) : Part := if p.kind = 2 then ⟨p.kind, p.n, p.signs.drop n⟩ else ⟨p.kind, p.n - n, p.signs⟩

theorem psz_int {p : Part} (h : partOk p) : (psz p : Int) = p.n + p.signs.length ∧ psz p ≤ 200 := by
  have hb := h.bounds
  unfold psz
  by_cases hk : p.kind = 2
  · have := hb.2.2.2.2.1 hk
    omega
  · have := hb.2.2.2.2.2 hk
    rw [this]
    simp
    omega
@[simp] theorem pcut_kind {p : Part} {n : Nat} : (pcut p n).kind = p.kind := by unfold pcut; split <;> rfl
@[simp] theorem pleft_kind {p : Part} {n : Nat} : (pleft p n).kind = p.kind := by unfold pleft; split <;> rfl
theorem pcut_ok {p : Part} (h : partOk p) {n : Nat} (hn : n ≤ psz p) : partOk (pcut p n) := by
  have hp := psz_int h
  unfold pcut
  by_cases hk : p.kind = 2
  · rw [if_pos hk]
    rw [partOk_put hk] at h
    refine .inr ⟨hk, h.1, ?_, fun m hm => h.2.2 m (List.mem_of_mem_take hm)⟩
    simp
    omega
  · rw [if_neg hk]
    have hb := h.bounds
    have hk2 : p.kind = 1 ∨ p.kind = 3 := by omega
    have := hb.2.2.2.2.2 hk
    refine .inl ⟨hk2, ?_, this⟩
    simp only
    omega
theorem pleft_ok {p : Part} (h : partOk p) {n : Nat} (hn : n ≤ psz p) : partOk (pleft p n) := by
  have hp := psz_int h
  unfold pleft
  by_cases hk : p.kind = 2
  · rw [if_pos hk]
    rw [partOk_put hk] at h
    refine .inr ⟨hk, h.1, ?_, fun m hm => h.2.2 m (List.mem_of_mem_drop hm)⟩
    simp
    omega
  · rw [if_neg hk]
    have hb := h.bounds
    have hk2 : p.kind = 1 ∨ p.kind = 3 := by omega
    have := hb.2.2.2.2.2 hk
    refine .inl ⟨hk2, ?_, this⟩
    rw [this] at hp
    simp at hp
    simp only
    omega
theorem pleft_sz {p : Part} (h : partOk p) {n : Nat} (hn : n ≤ psz p) : psz (pleft p n) = psz p - n := by
  have hb := h.bounds
  unfold psz pleft at *
  by_cases hk : p.kind = 2
  · rw [if_pos hk]
    have := hb.2.2.2.2.1 hk
    simp only [this, List.length_drop] at hn ⊢
    omega
  · rw [if_neg hk]
    have := hb.2.2.2.2.2 hk
    simp only [this, List.length_nil] at hn ⊢
    omega
theorem pcut_whole {p : Part} (h : partOk p) : pcut p (psz p) = p := by
  have hb := h.bounds
  unfold psz pcut
  by_cases hk : p.kind = 2
  · rw [if_pos hk]
    have := hb.2.2.2.2.1 hk
    rw [List.take_of_length_le (by omega)]
  · rw [if_neg hk]
    have := hb.2.2.2.2.2 hk
    obtain ⟨k, n, s⟩ := p
    simp only at this hb
    subst this
    simp
    omega
theorem pleft_pleft {p : Part} {m n : Nat} : pleft (pleft p m) n = pleft p (m + n) := by
  unfold pleft
  by_cases hk : p.kind = 2
  · simp [hk, List.drop_drop]
  · simp [hk]
    omega
theorem pleft_zero {p : Part} : pleft p 0 = p := by unfold pleft; split <;> simp

/-- the parts from the first that isn't empty -/
def nxt : List Part → List Part
  | [] => []
  | p :: l => if psz p = 0 then nxt l else p :: l
def tsz : List Part → Nat
  | [] => 0
  | p :: l => psz p + tsz l
/-- what is read and what is written -/
def frs : List Part → Nat
  | [] => 0
  | p :: l => (if p.kind = 2 then 0 else psz p) + frs l
def tos : List Part → Nat
  | [] => 0
  | p :: l => (if p.kind = 3 then 0 else psz p) + tos l
theorem nxt_tsz : ∀ l : List Part, tsz (nxt l) = tsz l
  | [] => rfl
  | p :: l => by
    unfold nxt
    split
    · rename_i h; rw [nxt_tsz l]; simp [tsz, h]
    · rfl
theorem nxt_frs : ∀ l : List Part, frs (nxt l) = frs l
  | [] => rfl
  | p :: l => by
    unfold nxt
    split
    · rename_i h; rw [nxt_frs l]; simp [frs, h]
    · rfl
theorem nxt_tos : ∀ l : List Part, tos (nxt l) = tos l
  | [] => rfl
  | p :: l => by
    unfold nxt
    split
    · rename_i h; rw [nxt_tos l]; simp [tos, h]
    · rfl
theorem nxt_pos : ∀ {l : List Part} {p : Part} {l' : List Part}, nxt l = p :: l' → 0 < psz p
  | [], p, l', h => by simp [nxt] at h
  | q :: l, p, l', h => by
    unfold nxt at h
    split at h
    · exact nxt_pos h
    · simp at h; rw [← h.1]; omega
theorem nxt_nxt : ∀ l : List Part, nxt (nxt l) = nxt l
  | [] => rfl
  | p :: l => by
    by_cases h : psz p = 0
    · simp only [nxt, h, if_true]; exact nxt_nxt l
    · simp only [nxt, h, if_false]
theorem nxt_suffix : ∀ l : List Part, ∃ k, k ≤ l.length ∧ nxt l = l.drop k ∧ ∀ i, (h : i < l.length) → i < k → psz l[i] = 0
  | [] => ⟨0, by simp, rfl, fun i h => by simp at h⟩
  | p :: l => by
    by_cases h : psz p = 0
    · obtain ⟨k, h1, h2, h3⟩ := nxt_suffix l
      refine ⟨k + 1, by simp; omega, by simp [nxt, h, h2], fun i hi hk => ?_⟩
      cases i with
      | zero => simpa using h
      | succ i => simpa using h3 i (by simpa using hi) (by omega)
    · exact ⟨0, by simp, by simp [nxt, h], fun i _ hk => by omega⟩
theorem nxt_mem {l : List Part} {p : Part} (h : p ∈ nxt l) : p ∈ l := by
  obtain ⟨k, _, h2, _⟩ := nxt_suffix l
  rw [h2] at h
  exact List.mem_of_mem_drop h
theorem nxt_len (l : List Part) : (nxt l).length ≤ l.length := by
  obtain ⟨k, _, h2, _⟩ := nxt_suffix l
  rw [h2]; simp

/-- a round of Compose: what is told, what remains -/
def cstep (x y : List Part) : Option (List Part × List Part × List Part) :=
  match nxt x with
  | p :: x' => if p.kind = 3 then some ([pcut p (psz p)], pleft p (psz p) :: x', y) else match nxt y with
    | q :: y' => if q.kind = 2 then some ([pcut q (psz q)], p :: x', pleft q (psz q) :: y') else
        some (if q.kind = 1 then [pcut p (min (psz p) (psz q))] else if p.kind = 1 then [pcut q (min (psz p) (psz q))] else [], pleft p (min (psz p) (psz q)) :: x', pleft q (min (psz p) (psz q)) :: y')
    | [] => none
  | [] => match nxt y with
    | q :: y' => if q.kind = 2 then some ([pcut q (psz q)], [], pleft q (psz q) :: y') else none
    | [] => none

structure CInv (x y : List Part) : Prop where
  px : ∀ p ∈ x, partOk p
  py : ∀ p ∈ y, partOk p
  b : tos x = frs y
theorem mem_pleft {l l' : List Part} {p : Part} {n : Nat} (hl : ∀ q ∈ l, partOk q) (he : nxt l = p :: l') (hn : n ≤ psz p) : ∀ q ∈ pleft p n :: l', partOk q := by
  intro q hq
  rcases List.mem_cons.1 hq with rfl | hq
  · exact pleft_ok (hl p (nxt_mem (he ▸ List.mem_cons_self ..))) hn
  · exact hl q (nxt_mem (he ▸ List.mem_cons_of_mem _ hq))
theorem mem_nxt {l l' : List Part} {p : Part} (hl : ∀ q ∈ l, partOk q) (he : nxt l = p :: l') : partOk p ∧ ∀ q ∈ p :: l', partOk q :=
  ⟨hl p (nxt_mem (he ▸ List.mem_cons_self ..)), fun q hq => hl q (nxt_mem (he ▸ hq))⟩

structure CNext (x y : List Part) (r : List Part × List Part × List Part) : Prop where
  inv : CInv r.2.1 r.2.2
  dec : tsz r.2.1 + tsz r.2.2 < tsz x + tsz y
  ok : ∀ p ∈ r.1, partOk p
  len : r.1.length ≤ 1
theorem cstep_next {x y : List Part} (hi : CInv x y) {r : List Part × List Part × List Part} (h : cstep x y = some r) : CNext x y r := by
  have hx := nxt_tsz x
  have hy := nxt_tsz y
  have hxt := nxt_tos x
  have hyf := nxt_frs y
  have hb := hi.b
  unfold cstep at h
  cases ex : nxt x with
  | nil =>
    rw [ex] at h hx hxt
    cases ey : nxt y with
    | nil => simp [ey] at h
    | cons q y' =>
      rw [ey] at hy hyf
      have hq := mem_nxt hi.py ey
      have hp := nxt_pos ey
      simp only [ey] at h
      split at h
      · rename_i k
        cases h
        have hs := pleft_sz hq.1 (Nat.le_refl _)
        refine ⟨⟨by simp, mem_pleft hi.py ey (Nat.le_refl _), ?_⟩, ?_, ?_, by simp⟩
        · simp [tos, frs, k] at hxt hyf ⊢; omega
        · simp [tsz] at hx hy ⊢; omega
        · intro p hp; simp at hp; subst hp; exact pcut_ok hq.1 (Nat.le_refl _)
      · cases h
  | cons p x' =>
    rw [ex] at h hx hxt
    have hp := mem_nxt hi.px ex
    have hpp := nxt_pos ex
    simp only at h
    split at h
    · rename_i k
      cases h
      have hs := pleft_sz hp.1 (Nat.le_refl _)
      refine ⟨⟨mem_pleft hi.px ex (Nat.le_refl _), hi.py, ?_⟩, ?_, ?_, by simp⟩
      · simp [tos, k] at hxt ⊢; omega
      · simp [tsz] at hx ⊢; omega
      · intro q hq; simp at hq; subst hq; exact pcut_ok hp.1 (Nat.le_refl _)
    · rename_i k3
      cases ey : nxt y with
      | nil => simp [ey] at h
      | cons q y' =>
        rw [ey] at hy hyf
        have hq := mem_nxt hi.py ey
        have hqp := nxt_pos ey
        simp only [ey] at h
        split at h
        · rename_i k
          cases h
          have hs := pleft_sz hq.1 (Nat.le_refl _)
          refine ⟨⟨hp.2, mem_pleft hi.py ey (Nat.le_refl _), ?_⟩, ?_, ?_, by simp⟩
          · simp [tos, frs, k, k3] at hxt hyf ⊢; omega
          · simp [tsz] at hx hy ⊢; omega
          · intro p hp; simp at hp; subst hp; exact pcut_ok hq.1 (Nat.le_refl _)
        · rename_i k2
          cases h
          have hn1 : min (psz p) (psz q) ≤ psz p := by omega
          have hn2 : min (psz p) (psz q) ≤ psz q := by omega
          have hs1 := pleft_sz hp.1 hn1
          have hs2 := pleft_sz hq.1 hn2
          refine ⟨⟨mem_pleft hi.px ex hn1, mem_pleft hi.py ey hn2, ?_⟩, ?_, ?_, ?_⟩
          · simp [tos, frs, k2, k3] at hxt hyf ⊢; omega
          · simp [tsz] at hx hy ⊢; omega
          · intro r hr
            simp only at hr
            split at hr
            · simp at hr; subst hr; exact pcut_ok hp.1 hn1
            · split at hr
              · simp at hr; subst hr; exact pcut_ok hq.1 hn2
              · simp at hr
          · simp only; split <;> (try split) <;> simp

/-- what Compose tells, before it is brought into its normal form -/
noncomputable def cmpK : Nat → List Part → List Part → List Part
  | 0, _, _ => []
  | k + 1, x, y => match cstep x y with
    | none => []
    | some r => r.1 ++ cmpK k r.2.1 r.2.2
noncomputable def cmp (x y : List Part) : List Part := cmpK (tsz x + tsz y) x y
theorem cmpK_eq : ∀ (k m : Nat) {x y : List Part}, CInv x y → tsz x + tsz y ≤ k → tsz x + tsz y ≤ m → cmpK k x y = cmpK m x y
  | 0, 0, _, _, _, _, _ => rfl
  | k + 1, 0, x, y, hi, h, h2 => by
    rw [cmpK, cmpK]
    cases hs : cstep x y with
    | none => rfl
    | some r => have := (cstep_next hi hs).dec; omega
  | 0, m + 1, x, y, hi, h, h2 => by
    rw [cmpK, cmpK]
    cases hs : cstep x y with
    | none => rfl
    | some r => have := (cstep_next hi hs).dec; omega
  | k + 1, m + 1, x, y, hi, h, h2 => by
    rw [cmpK, cmpK]
    cases hs : cstep x y with
    | none => rfl
    | some r =>
      have hn := cstep_next hi hs
      have := hn.dec
      simp only
      rw [cmpK_eq k m hn.inv (by omega) (by omega)]
theorem cmp_none {x y : List Part} (h : cstep x y = none) : cmp x y = [] := by
  unfold cmp
  cases tsz x + tsz y with
  | zero => rfl
  | succ k => rw [cmpK, h]
theorem cmp_some {x y : List Part} (hi : CInv x y) {r : List Part × List Part × List Part} (h : cstep x y = some r) : cmp x y = r.1 ++ cmp r.2.1 r.2.2 := by
  have hn := cstep_next hi h
  have hd := hn.dec
  unfold cmp
  obtain ⟨k, hk⟩ : ∃ k, tsz x + tsz y = k + 1 := ⟨tsz x + tsz y - 1, by omega⟩
  rw [hk, cmpK, h]
  simp only
  rw [cmpK_eq k (tsz r.2.1 + tsz r.2.2) hn.inv (by omega) (by omega)]
end Go.Proofs.Ytljhopjmmcmioaa
