import Derived.Test.YthcdlllclbdbmaaFr
namespace Go.Proofs.Ythcdlllclbdbmaa
open Go.AM Go.ChangeShapes Go.WideShapes Go.ChangeAt Go.RowKit
set_option maxRecDepth 20000
theorem cells3 : Try.prog.cellsOf 3 = 1 := by kernel_rfl
theorem cells4 : Try.prog.cellsOf 4 = 1 := by kernel_rfl
theorem cells31 : Try.prog.cellsOf 31 = 1 := by kernel_rfl
theorem cells32 : Try.prog.cellsOf 32 = 1 := by kernel_rfl
theorem cells34 : Try.prog.cellsOf 34 = 7 := by kernel_rfl
theorem cells106 : Try.prog.cellsOf 106 = 3 := by kernel_rfl
theorem fits_ints {D : Nat} {ds : List CD} (h : Fits Try.prog D 31 ds) : ∃ l : List Int, ds = [.s (l.map intR)] ∧ l.length ≤ 9223372036854775807 := by
  obtain ⟨rows, rfl, h1, D', h2⟩ := fits_slice Try.underlying31 h
  obtain ⟨l, rfl, -⟩ := rows_map (f := intR) (ok := fun _ => True) rows (fun row hrow => by
    obtain ⟨n, h3, -⟩ := fits_int Try.underlying3 (h2 row hrow).2
    exact ⟨n, h3, trivial⟩)
  have : maxLen = 9223372036854775807 := rfl
  exact ⟨l, rfl, by simpa [this] using h1⟩
theorem len3 {α : Type} {l : List α} (h : l.length = 3) : ∃ a b c, l = [a, b, c] := by
  match l, h with
  | [a, b, c], _ => exact ⟨a, b, c, rfl⟩
theorem len7 {α : Type} {l : List α} (h : l.length = 7) : ∃ a b c d e f g, l = [a, b, c, d, e, f, g] := by
  match l, h with
  | [a, b, c, d, e, f, g], _ => exact ⟨a, b, c, d, e, f, g, rfl⟩
theorem fits_part {D : Nat} {ds : List CD} (h : Fits Try.prog D 106 ds) : ∃ p : Part, ds = p.row ∧ p.signs.length ≤ 9223372036854775807 := by
  obtain ⟨hl, D', hf⟩ := fits_struct Try.underlying106 h
  rw [cells106] at hl
  obtain ⟨d0, d1, d2, rfl⟩ := len3 hl
  simp [cells3, cells31] at hf
  obtain ⟨h0, h1, h2⟩ := hf
  obtain ⟨n0, e0, -⟩ := fits_int Try.underlying3 h0
  obtain ⟨n1, e1, -⟩ := fits_int Try.underlying3 h1
  obtain ⟨l, e2, h3⟩ := fits_ints h2
  simp at e0 e1 e2
  subst e0 e1 e2
  exact ⟨⟨n0, n1, l⟩, rfl, h3⟩
theorem fits_parts {D : Nat} {ds : List CD} (h : Fits Try.prog D 32 ds) : ∃ l : List Part, ds = [.s (l.map Part.row)] ∧ partsOk l := by
  obtain ⟨rows, rfl, h1, D', h2⟩ := fits_slice Try.underlying32 h
  obtain ⟨l, rfl, hl⟩ := rows_map (f := Part.row) (ok := fun p => p.signs.length ≤ 9223372036854775807) rows (fun row hrow => fits_part (h2 row hrow).2)
  have : maxLen = 9223372036854775807 := rfl
  exact ⟨l, rfl, by simpa [this] using h1, hl⟩
theorem fits_rep {D : Nat} {ds : List CD} (h : Fits Try.prog D 34 ds) : ∃ r : Rep, ds = r.row ∧ r.fits := by
  obtain ⟨hl, D', hf⟩ := fits_struct Try.underlying34 h
  rw [cells34] at hl
  obtain ⟨d0, d1, d2, d3, d4, d5, d6, rfl⟩ := len7 hl
  simp [cells3, cells31, cells4, cells32] at hf
  obtain ⟨h0, h1, h2, h3, h4, h5, h6⟩ := hf
  obtain ⟨n0, e0, -⟩ := fits_int Try.underlying3 h0
  obtain ⟨n1, e1, -⟩ := fits_int Try.underlying3 h1
  obtain ⟨n2, e2, -⟩ := fits_int Try.underlying3 h2
  obtain ⟨l3, e3, k3⟩ := fits_ints h3
  obtain ⟨b4, e4⟩ := fits_bool Try.underlying4 h4
  obtain ⟨l5, e5, k5⟩ := fits_parts h5
  obtain ⟨l6, e6, k6⟩ := fits_parts h6
  simp at e0 e1 e2 e3 e4 e5 e6
  subst e0 e1 e2 e3 e4 e5 e6
  exact ⟨⟨n0, n1, n2, l3, b4, l5, l6⟩, rfl, k3, k5, k6⟩
theorem fitsV_struct {D : Nat} {t : TypeId} {vd : VD} {fs : Array Field} (hu : Try.prog.underlying t = some (.struct fs)) (hc : Try.prog.cellsOf t ≠ 1) (h : FitsV Try.prog D t vd) : ∃ ds, vd = .agg ds ∧ Fits Try.prog D t ds := by
  cases vd with
  | c d =>
    have := (fits_struct hu h).1
    exact absurd this.symm hc
  | agg ds => exact ⟨ds, rfl, h.2⟩
end Go.Proofs.Ythcdlllclbdbmaa
