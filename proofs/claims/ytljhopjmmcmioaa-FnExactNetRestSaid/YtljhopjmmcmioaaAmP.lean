/-
  Regions that draw their order: operations that only compute, in whatever order; and behind them a chain of others.
-/
import Derived.Test.YtljhopjmmcmioaaAmO
namespace Go.AM
open Go.RowKit

def CPd {α : Type} (p : (α → Prop) → Prop) : Prop := ∀ K, p K → ∃ v, K v ∧ p (fun v' => v' = v)

theorem loadRow_det (ti : TI) (row : List CD) : CPd (loadRow ti row) := by
  intro K h
  unfold loadRow at h ⊢
  split at h
  · rename_i hg; exact ⟨_, h.2, by rw [if_pos hg]; exact ⟨h.1, rfl⟩⟩
  · rename_i hg
    cases row with
    | nil => exact h.elim
    | cons d r => exact ⟨_, h, by rw [if_neg hg]⟩

theorem elemT_det {E : Env} {T : Nat} {p : Nat → TI → (AV → Prop) → Prop} (hp : ∀ e te, CPd (p e te)) : CPd (fun K => elemT E T fun e te => p e te K) := by
  intro K h
  simp only [elemT] at h ⊢
  cases hT : E.T T with
  | none => simp [hT] at h
  | some ti =>
    simp only [hT] at h ⊢
    cases hs : ti.sl with
    | none => simp [hs] at h
    | some e =>
      simp only [hs] at h ⊢
      cases he : E.T e with
      | none => simp [he] at h
      | some te =>
        simp only [he] at h ⊢
        exact hp e te K h

theorem and_det {c : Prop} {p : (AV → Prop) → Prop} (hp : CPd p) : CPd (fun K => c ∧ p K) := by
  rintro K ⟨h1, h2⟩
  obtain ⟨v, h3, h4⟩ := hp K h2
  exact ⟨v, h3, h1, h4⟩

theorem pure_det (v : AV) : CPd (fun K => K v) := fun _ h => ⟨v, h, rfl⟩

theorem false_det : CPd (fun _ : AV → Prop => False) := fun _ h => h.elim

theorem row_det {rows : List (List CD)} {r : Nat} {p : List CD → (AV → Prop) → Prop} (hp : ∀ row, CPd (p row)) : CPd (fun K => r < rows.length ∧ ∀ row, rows[r]? = some row → p row K) := by
  rintro K ⟨h1, h2⟩
  have hrow := List.getElem?_eq_getElem h1
  obtain ⟨v, h3, h4⟩ := hp _ K (h2 _ hrow)
  refine ⟨v, h3, h1, fun row hr => ?_⟩
  rw [hrow] at hr
  cases hr
  exact h4

theorem loadAt_det (ti : TI) (h : AH) (x : AV) : CPd (loadAt ti h x) := by
  intro K hk
  unfold loadAt at hk ⊢
  cases x with
  | p k b c =>
    simp only at hk ⊢
    cases hg : h.get k with
    | vars b' T cells =>
      simp only [hg] at hk ⊢
      refine and_det (p := loadVars ti cells c) ?_ K hk
      intro K hk
      unfold loadVars at hk ⊢
      split at hk
      · rename_i hg; exact ⟨_, hk.2, by rw [if_pos hg]; exact ⟨hk.1, rfl⟩⟩
      · rename_i hg
        cases hc : cells[c]? with
        | none => simp [hc] at hk
        | some av => simp only [hc] at hk; exact ⟨av, hk, by rw [if_neg hg]⟩
    | dead => simp [hg] at hk
    | rows => simp [hg] at hk
  | e k H sz r c =>
    simp only at hk ⊢
    cases hg : h.get k with
    | rows H' sz' rows own =>
      simp only [hg] at hk ⊢
      exact and_det (and_det (row_det fun row => loadRow_det ti (row.drop c))) K hk
    | dead => simp [hg] at hk
    | vars => simp [hg] at hk
  | rp row => exact loadRow_det ti row K hk
  | _ => exact hk.elim

theorem bound_det {x : Option AV} {z : Nat} {p : Nat → (AV → Prop) → Prop} (hp : ∀ n, CPd (p n)) : CPd (fun K => bound x z fun n => p n K) := by
  intro K h
  unfold bound at h ⊢
  split at h
  · exact hp z K h
  · rename_i k n; exact and_det (hp n.toNat) K h
  · exact h.elim

theorem test_det {x : AV} {p : Bool → (AV → Prop) → Prop} (hp : ∀ b, CPd (p b)) : CPd (fun K => aTest x fun b => p b K) := by
  intro K h
  unfold aTest at h ⊢
  split at h
  · exact hp _ K h
  · exact h.elim

theorem two_det {x y : AV} {p : Value → Value → (AV → Prop) → Prop} (hp : ∀ a b, CPd (p a b)) : CPd (fun K => aTwo x y fun a b => p a b K) := by
  intro K h
  unfold aTwo at h ⊢
  split at h
  · exact hp _ _ K h
  · exact h.elim

theorem fill_det (fields : List (Nat × Nat)) : ∀ (parts : List (Nat × AV)) (cells : List AV) (K : List AV → Prop), fillA fields cells parts K → ∃ l, K l ∧ fillA fields cells parts (fun l' => l' = l)
  | [], cells, K, h => ⟨cells, h, rfl⟩
  | (i, v) :: rest, cells, K, h => by
    unfold fillA at h ⊢
    cases hf : fields[i]? with
    | none => simp [hf] at h
    | some p =>
      obtain ⟨off, n⟩ := p
      simp only [hf] at h ⊢
      obtain ⟨h1, h2, h3, h4⟩ := h
      obtain ⟨l, g1, g2⟩ := fill_det fields rest _ K h4
      exact ⟨l, g1, h1, h2, h3, g2⟩

theorem aPure_det (E : Env) (st : ASt) (op : Op) : CPd (aPure E st op) := by
  intro K h
  unfold aPure at h ⊢
  split at h
  · exact ⟨_, h, rfl⟩
  · exact ⟨_, h, rfl⟩
  · rename_i c a b
    refine test_det (p := fun t K => (t = true → K (st.ev a)) ∧ (t = false → K (st.ev b))) (fun t K h => ?_) K h
    cases t with
    | true => exact ⟨_, h.1 rfl, fun _ => rfl, (by intro h; cases h)⟩
    | false => exact ⟨_, h.2 rfl, (by intro h; cases h), fun _ => rfl⟩
  · unfold aBuild at h ⊢
    split at h
    · rename_i ti hti
      obtain ⟨h1, h2⟩ := h
      obtain ⟨l, g1, g2⟩ := fill_det _ _ _ _ h2
      refine ⟨_, g1, h1, ?_⟩
      have : (fun l' => AV.agg l' = AV.agg l) = (fun l' => l' = l) := by funext l'; simp
      rw [this]; exact g2
    · exact h.elim
  · unfold aLoad at h ⊢
    split at h
    · exact loadAt_det _ _ _ K h
    · exact h.elim
  · unfold aNil at h ⊢
    split at h <;> first | exact h.elim | exact ⟨_, h, rfl⟩
  · rename_i op T x y ty
    unfold aBin2 at h ⊢
    split at h
    · unfold aBin at h ⊢
      split at h <;> first
        | exact h.elim
        | exact ⟨_, h, rfl⟩
        | exact ⟨_, h.2, h.1, rfl⟩
        | exact ⟨_, h.2.2, h.1, h.2.1, rfl⟩
    · unfold aEqs at h ⊢
      split at h
      · obtain ⟨h1, h⟩ := h
        split at h
        · obtain ⟨h2, h3, h⟩ := h
          split at h <;> first
            | exact h.elim
            | exact ⟨_, h, h1, h2, h3, rfl⟩
        · exact h.elim
      · exact h.elim
    · exact h.elim
  · rename_i T x
    exact test_det (p := fun b K => K (.v (.bool (!b)))) (fun b => pure_det _) K h
  · unfold aConv at h ⊢
    obtain ⟨h1, h⟩ := h
    split at h
    · split at h
      · exact ⟨_, h, h1, rfl⟩
      · exact h.elim
    · exact h.elim
  · exact ⟨_, h.2, h.1, rfl⟩
  · rename_i T x lo hi
    unfold aSlice at h ⊢
    split at h
    · rename_i rows _
      exact elemT_det (p := fun _ te K => (∀ row ∈ rows, row.length = te.n) ∧ bound (hi.map st.ev) rows.length fun h => h ≤ rows.length ∧ bound (lo.map st.ev) 0 fun l => l ≤ h ∧ K (AV.ro (cut rows l (h - l))))
        (fun e te => and_det (bound_det fun n => and_det (bound_det fun m => and_det (pure_det _)))) K h
    · rename_i k Hd sz off len _
      exact elemT_det (p := fun _ te K => sz = te.n ∧ bound (hi.map st.ev) len fun h => h ≤ len ∧ bound (lo.map st.ev) 0 fun l => l ≤ h ∧ K (AV.sl k Hd sz (off + l) (h - l)))
        (fun e te => and_det (bound_det fun n => and_det (bound_det fun m => and_det (pure_det _)))) K h
    · exact and_det (bound_det fun n => and_det (bound_det fun m => and_det (pure_det _))) K h
    · exact h.elim
  · unfold aField at h ⊢
    split at h
    · unfold fieldAt at h ⊢
      split at h
      · split at h
        · exact ⟨_, h, rfl⟩
        · exact ⟨_, h, rfl⟩
        · exact ⟨_, h.2, h.1, rfl⟩
        · exact h.elim
      · exact h.elim
    · exact h.elim
  · rename_i T x i
    refine elemT_det (p := fun _ te => indexAt te (st.ev x) (st.ev i)) (fun e te K h => ?_) K h
    unfold indexAt at h ⊢
    split at h
    · obtain ⟨h0, h1, h2⟩ := h
      rename_i rows k n _ _
      have hlt : n.toNat < rows.length := by omega
      have hrow := List.getElem?_eq_getElem hlt
      refine ⟨_, (h2 _ hrow).2, h0, h1, fun row hr => ?_⟩
      rw [hrow] at hr
      cases hr
      exact ⟨(h2 _ hrow).1, rfl⟩
    · exact ⟨_, h.2.2.2, h.1, h.2.1, h.2.2.1, rfl⟩
    · exact ⟨_, h.2.2.2, h.1, h.2.1, h.2.2.1, rfl⟩
    · exact h.elim
  · unfold aIdx at h ⊢
    split at h
    · obtain ⟨h1, h2, h3, h4⟩ := h; exact ⟨_, h4, h1, h2, h3, rfl⟩
    · exact h.elim
  · unfold aExtract at h ⊢
    split at h
    · split at h
      · exact ⟨_, h, rfl⟩
      · exact h.elim
    · exact h.elim
  · exact h.elim

end Go.AM
