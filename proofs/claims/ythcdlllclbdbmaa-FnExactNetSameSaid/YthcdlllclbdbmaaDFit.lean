import Derived.Test.YthcdlllclbdbmaaDT
import Derived.Test.YthcdlllclbdbmaaBri
import Derived.Test.YthcdlllclbdbmaaDat
namespace Go.Proofs.Ythcdlllclbdbmaa
open Go.AM Go.ChangeShapes Go.WideShapes Go.ChangeAt Go.RowKit
set_option maxRecDepth 20000

theorem own : ownKnob Try.prog.godebug = none := by kernel_rfl
theorem laid : laidOutB Try.prog = true := by kernel_rfl
theorem fits_i64 {D : Nat} {ds : List CD} (h : Fits Try.prog D 3 ds) : ∃ n : Int, ds = [vi n] ∧ i64r n := by
  obtain ⟨n, h1, h2⟩ := fits_int Try.underlying3 h
  exact ⟨n, h1, wf_i64 h2⟩
theorem mL : maxLen = 9223372036854775807 := rfl
theorem fits_ints {D : Nat} {ds : List CD} (h : Fits Try.prog D 31 ds) : ∃ l : List Int, ds = [.s (l.map intR)] ∧ l.length ≤ 9223372036854775807 ∧ ∀ n ∈ l, i64r n := by
  obtain ⟨rows, rfl, h1, D', h2⟩ := fits_slice Try.underlying31 h
  obtain ⟨l, rfl, hl⟩ := rows_map (f := intR) (ok := i64r) rows (fun row hrow => fits_i64 (h2 row hrow).2)
  exact ⟨l, rfl, by simpa [mL] using h1, hl⟩
theorem cells106 : Try.prog.cellsOf 106 = 3 := by kernel_rfl
theorem len3 {α : Type} {l : List α} (h : l.length = 3) : ∃ x0 x1 x2, l = [x0, x1, x2] := by
  match l, h with
  | [x0, x1, x2], _ => exact ⟨x0, x1, x2, rfl⟩
theorem cells3 : Try.prog.cellsOf 3 = 1 := by kernel_rfl
theorem cells31 : Try.prog.cellsOf 31 = 1 := by kernel_rfl
theorem fits_Part {D : Nat} {ds : List CD} (h : Fits Try.prog D 106 ds) : ∃ x : Part, ds = x.row ∧ x.fits := by
  obtain ⟨hl, D', hf⟩ := fits_struct Try.underlying106 h
  rw [cells106] at hl
  obtain ⟨d0, d1, d2, rfl⟩ := len3 hl
  simp [cells3, cells31] at hf
  obtain ⟨h0, h1, h2⟩ := hf
  obtain ⟨n0, e0, k0⟩ := fits_i64 h0
  simp at e0
  subst e0
  obtain ⟨n1, e1, k1⟩ := fits_i64 h1
  simp at e1
  subst e1
  obtain ⟨n2, e2, k2⟩ := fits_ints h2
  simp at e2
  subst e2
  exact ⟨⟨n0, n1, n2⟩, rfl, k0, k1, k2⟩
theorem fits_PartS {D : Nat} {ds : List CD} (h : Fits Try.prog D 32 ds) : ∃ l : List Part, ds = [.s (l.map Part.row)] ∧ l.length ≤ 9223372036854775807 ∧ ∀ y ∈ l, y.fits := by
  obtain ⟨rows, rfl, h1, D', h2⟩ := fits_slice Try.underlying32 h
  obtain ⟨l, rfl, hl⟩ := rows_map (f := Part.row) (ok := Part.fits) rows (fun row hrow => fits_Part (h2 row hrow).2)
  exact ⟨l, rfl, by simpa [mL] using h1, hl⟩
theorem cells167 : Try.prog.cellsOf 167 = 3 := by kernel_rfl
theorem cells32 : Try.prog.cellsOf 32 = 1 := by kernel_rfl
theorem fits_Entry {D : Nat} {ds : List CD} (h : Fits Try.prog D 167 ds) : ∃ x : Entry, ds = x.row ∧ x.fits := by
  obtain ⟨hl, D', hf⟩ := fits_struct Try.underlying167 h
  rw [cells167] at hl
  obtain ⟨d0, d1, d2, rfl⟩ := len3 hl
  simp [cells3, cells32] at hf
  obtain ⟨h0, h1, h2⟩ := hf
  obtain ⟨n0, e0, k0⟩ := fits_i64 h0
  simp at e0
  subst e0
  obtain ⟨n1, e1, k1⟩ := fits_i64 h1
  simp at e1
  subst e1
  obtain ⟨n2, e2, k2⟩ := fits_PartS h2
  simp at e2
  subst e2
  exact ⟨⟨n0, n1, n2⟩, rfl, k0, k1, k2⟩
theorem fits_EntryS {D : Nat} {ds : List CD} (h : Fits Try.prog D 44 ds) : ∃ l : List Entry, ds = [.s (l.map Entry.row)] ∧ l.length ≤ 9223372036854775807 ∧ ∀ y ∈ l, y.fits := by
  obtain ⟨rows, rfl, h1, D', h2⟩ := fits_slice Try.underlying44 h
  obtain ⟨l, rfl, hl⟩ := rows_map (f := Entry.row) (ok := Entry.fits) rows (fun row hrow => fits_Entry (h2 row hrow).2)
  exact ⟨l, rfl, by simpa [mL] using h1, hl⟩
theorem cells173 : Try.prog.cellsOf 173 = 3 := by kernel_rfl
theorem fits_Seen {D : Nat} {ds : List CD} (h : Fits Try.prog D 173 ds) : ∃ x : Seen, ds = x.row ∧ x.fits := by
  obtain ⟨hl, D', hf⟩ := fits_struct Try.underlying173 h
  rw [cells173] at hl
  obtain ⟨d0, d1, d2, rfl⟩ := len3 hl
  simp [cells3] at hf
  obtain ⟨h0, h1, h2⟩ := hf
  obtain ⟨n0, e0, k0⟩ := fits_i64 h0
  simp at e0
  subst e0
  obtain ⟨n1, e1, k1⟩ := fits_i64 h1
  simp at e1
  subst e1
  obtain ⟨n2, e2, k2⟩ := fits_i64 h2
  simp at e2
  subst e2
  exact ⟨⟨n0, n1, n2⟩, rfl, k0, k1, k2⟩
theorem fits_SeenS {D : Nat} {ds : List CD} (h : Fits Try.prog D 68 ds) : ∃ l : List Seen, ds = [.s (l.map Seen.row)] ∧ l.length ≤ 9223372036854775807 ∧ ∀ y ∈ l, y.fits := by
  obtain ⟨rows, rfl, h1, D', h2⟩ := fits_slice Try.underlying68 h
  obtain ⟨l, rfl, hl⟩ := rows_map (f := Seen.row) (ok := Seen.fits) rows (fun row hrow => fits_Seen (h2 row hrow).2)
  exact ⟨l, rfl, by simpa [mL] using h1, hl⟩
theorem cells70 : Try.prog.cellsOf 70 = 5 := by kernel_rfl
theorem len5 {α : Type} {l : List α} (h : l.length = 5) : ∃ x0 x1 x2 x3 x4, l = [x0, x1, x2, x3, x4] := by
  match l, h with
  | [x0, x1, x2, x3, x4], _ => exact ⟨x0, x1, x2, x3, x4, rfl⟩
theorem cells9 : Try.prog.cellsOf 9 = 1 := by kernel_rfl
theorem cells44 : Try.prog.cellsOf 44 = 1 := by kernel_rfl
theorem cells68 : Try.prog.cellsOf 68 = 1 := by kernel_rfl
theorem fits_Doc {D : Nat} {ds : List CD} (h : Fits Try.prog D 70 ds) : ∃ x : Doc, ds = x.row ∧ x.fits := by
  obtain ⟨hl, D', hf⟩ := fits_struct Try.underlying70 h
  rw [cells70] at hl
  obtain ⟨d0, d1, d2, d3, d4, rfl⟩ := len5 hl
  simp [cells3, cells9, cells31, cells44, cells68] at hf
  obtain ⟨h0, h1, h2, h3, h4⟩ := hf
  obtain ⟨n0, e0, k0⟩ := fits_string Try.underlying9 h0
  simp at e0
  subst e0
  obtain ⟨n1, e1, k1⟩ := fits_i64 h1
  simp at e1
  subst e1
  obtain ⟨n2, e2, k2⟩ := fits_ints h2
  simp at e2
  subst e2
  obtain ⟨n3, e3, k3⟩ := fits_EntryS h3
  simp at e3
  subst e3
  obtain ⟨n4, e4, k4⟩ := fits_SeenS h4
  simp at e4
  subst e4
  exact ⟨⟨n0, n1, n2, n3, n4⟩, rfl, (by rw [mL] at k0; exact k0), k1, k2, k3, k4⟩
theorem cells43 : Try.prog.cellsOf 43 = 7 := by kernel_rfl
theorem len7 {α : Type} {l : List α} (h : l.length = 7) : ∃ x0 x1 x2 x3 x4 x5 x6, l = [x0, x1, x2, x3, x4, x5, x6] := by
  match l, h with
  | [x0, x1, x2, x3, x4, x5, x6], _ => exact ⟨x0, x1, x2, x3, x4, x5, x6, rfl⟩
theorem fits_Call {D : Nat} {ds : List CD} (h : Fits Try.prog D 43 ds) : ∃ x : Call, ds = x.row ∧ x.fits := by
  obtain ⟨hl, D', hf⟩ := fits_struct Try.underlying43 h
  rw [cells43] at hl
  obtain ⟨d0, d1, d2, d3, d4, d5, d6, rfl⟩ := len7 hl
  simp [cells3, cells9, cells31, cells32] at hf
  obtain ⟨h0, h1, h2, h3, h4, h5, h6⟩ := hf
  obtain ⟨n0, e0, k0⟩ := fits_i64 h0
  simp at e0
  subst e0
  obtain ⟨n1, e1, k1⟩ := fits_string Try.underlying9 h1
  simp at e1
  subst e1
  obtain ⟨n2, e2, k2⟩ := fits_i64 h2
  simp at e2
  subst e2
  obtain ⟨n3, e3, k3⟩ := fits_i64 h3
  simp at e3
  subst e3
  obtain ⟨n4, e4, k4⟩ := fits_i64 h4
  simp at e4
  subst e4
  obtain ⟨n5, e5, k5⟩ := fits_PartS h5
  simp at e5
  subst e5
  obtain ⟨n6, e6, k6⟩ := fits_ints h6
  simp at e6
  subst e6
  exact ⟨⟨n0, n1, n2, n3, n4, n5, n6⟩, rfl, k0, (by rw [mL] at k1; exact k1), k2, k3, k4, k5, k6⟩
theorem cells46 : Try.prog.cellsOf 46 = 4 := by kernel_rfl
theorem len4 {α : Type} {l : List α} (h : l.length = 4) : ∃ x0 x1 x2 x3, l = [x0, x1, x2, x3] := by
  match l, h with
  | [x0, x1, x2, x3], _ => exact ⟨x0, x1, x2, x3, rfl⟩
theorem fits_Answer {D : Nat} {ds : List CD} (h : Fits Try.prog D 46 ds) : ∃ x : Answer, ds = x.row ∧ x.fits := by
  obtain ⟨hl, D', hf⟩ := fits_struct Try.underlying46 h
  rw [cells46] at hl
  obtain ⟨d0, d1, d2, d3, rfl⟩ := len4 hl
  simp [cells3, cells31, cells44] at hf
  obtain ⟨h0, h1, h2, h3⟩ := hf
  obtain ⟨n0, e0, k0⟩ := fits_i64 h0
  simp at e0
  subst e0
  obtain ⟨n1, e1, k1⟩ := fits_i64 h1
  simp at e1
  subst e1
  obtain ⟨n2, e2, k2⟩ := fits_ints h2
  simp at e2
  subst e2
  obtain ⟨n3, e3, k3⟩ := fits_EntryS h3
  simp at e3
  subst e3
  exact ⟨⟨n0, n1, n2, n3⟩, rfl, k0, k1, k2, k3⟩
theorem cells48 : Try.prog.cellsOf 48 = 15 := by kernel_rfl
theorem len15 {α : Type} {l : List α} (h : l.length = 15) : ∃ x0 x1 x2 x3 x4 x5 x6 x7 x8 x9 x10 x11 x12 x13 x14, l = [x0, x1, x2, x3, x4, x5, x6, x7, x8, x9, x10, x11, x12, x13, x14] := by
  match l, h with
  | [x0, x1, x2, x3, x4, x5, x6, x7, x8, x9, x10, x11, x12, x13, x14], _ => exact ⟨x0, x1, x2, x3, x4, x5, x6, x7, x8, x9, x10, x11, x12, x13, x14, rfl⟩
theorem fits_Task {D : Nat} {ds : List CD} (h : Fits Try.prog D 48 ds) : ∃ x : Task, ds = x.row ∧ x.fits := by
  obtain ⟨hl, D', hf⟩ := fits_struct Try.underlying48 h
  rw [cells48] at hl
  obtain ⟨d0, d1, d2, d3, d4, d5, d6, d7, d8, d9, d10, d11, d12, d13, d14, rfl⟩ := len15 hl
  simp [cells3, cells43, cells46] at hf
  obtain ⟨h0, h1, h2, h3, h4, h5⟩ := hf
  obtain ⟨n0, e0, k0⟩ := fits_Call h0
  simp [Call.row] at e0
  obtain ⟨e0_0, e0_1, e0_2, e0_3, e0_4, e0_5, e0_6⟩ := e0
  subst e0_0 e0_1 e0_2 e0_3 e0_4 e0_5 e0_6
  obtain ⟨n1, e1, k1⟩ := fits_i64 h1
  simp at e1
  subst e1
  obtain ⟨n2, e2, k2⟩ := fits_i64 h2
  simp at e2
  subst e2
  obtain ⟨n3, e3, k3⟩ := fits_i64 h3
  simp at e3
  subst e3
  obtain ⟨n4, e4, k4⟩ := fits_i64 h4
  simp at e4
  subst e4
  obtain ⟨n5, e5, k5⟩ := fits_Answer h5
  simp [Answer.row] at e5
  obtain ⟨e5_0, e5_1, e5_2, e5_3⟩ := e5
  subst e5_0 e5_1 e5_2 e5_3
  exact ⟨⟨n0, n1, n2, n3, n4, n5⟩, rfl, k0, k1, k2, k3, k4, k5⟩
theorem cells34 : Try.prog.cellsOf 34 = 7 := by kernel_rfl
theorem cells4 : Try.prog.cellsOf 4 = 1 := by kernel_rfl
theorem fits_Rep {D : Nat} {ds : List CD} (h : Fits Try.prog D 34 ds) : ∃ x : Rep, ds = x.row ∧ x.fits := by
  obtain ⟨hl, D', hf⟩ := fits_struct Try.underlying34 h
  rw [cells34] at hl
  obtain ⟨d0, d1, d2, d3, d4, d5, d6, rfl⟩ := len7 hl
  simp [cells3, cells4, cells31, cells32] at hf
  obtain ⟨h0, h1, h2, h3, h4, h5, h6⟩ := hf
  obtain ⟨n0, e0, k0⟩ := fits_i64 h0
  simp at e0
  subst e0
  obtain ⟨n1, e1, k1⟩ := fits_i64 h1
  simp at e1
  subst e1
  obtain ⟨n2, e2, k2⟩ := fits_i64 h2
  simp at e2
  subst e2
  obtain ⟨n3, e3, k3⟩ := fits_ints h3
  simp at e3
  subst e3
  obtain ⟨n4, e4⟩ := fits_bool Try.underlying4 h4
  simp at e4
  subst e4
  obtain ⟨n5, e5, k5⟩ := fits_PartS h5
  simp at e5
  subst e5
  obtain ⟨n6, e6, k6⟩ := fits_PartS h6
  simp at e6
  subst e6
  exact ⟨⟨n0, n1, n2, n3, n4, n5, n6⟩, rfl, k0, k1, k2, k3, trivial, k5, k6⟩
theorem fits_RepS {D : Nat} {ds : List CD} (h : Fits Try.prog D 71 ds) : ∃ l : List Rep, ds = [.s (l.map Rep.row)] ∧ l.length ≤ 9223372036854775807 ∧ ∀ y ∈ l, y.fits := by
  obtain ⟨rows, rfl, h1, D', h2⟩ := fits_slice Try.underlying71 h
  obtain ⟨l, rfl, hl⟩ := rows_map (f := Rep.row) (ok := Rep.fits) rows (fun row hrow => fits_Rep (h2 row hrow).2)
  exact ⟨l, rfl, by simpa [mL] using h1, hl⟩
theorem cells73 : Try.prog.cellsOf 73 = 6 := by kernel_rfl
theorem len6 {α : Type} {l : List α} (h : l.length = 6) : ∃ x0 x1 x2 x3 x4 x5, l = [x0, x1, x2, x3, x4, x5] := by
  match l, h with
  | [x0, x1, x2, x3, x4, x5], _ => exact ⟨x0, x1, x2, x3, x4, x5, rfl⟩
theorem cells71 : Try.prog.cellsOf 71 = 1 := by kernel_rfl
theorem fits_Net {D : Nat} {ds : List CD} (h : Fits Try.prog D 73 ds) : ∃ x : Net, ds = x.row ∧ x.fits := by
  obtain ⟨hl, D', hf⟩ := fits_struct Try.underlying73 h
  rw [cells73] at hl
  obtain ⟨d0, d1, d2, d3, d4, d5, rfl⟩ := len6 hl
  simp [cells70, cells71] at hf
  obtain ⟨h0, h1⟩ := hf
  obtain ⟨n0, e0, k0⟩ := fits_Doc h0
  simp [Doc.row] at e0
  obtain ⟨e0_0, e0_1, e0_2, e0_3, e0_4⟩ := e0
  subst e0_0 e0_1 e0_2 e0_3 e0_4
  obtain ⟨n1, e1, k1⟩ := fits_RepS h1
  simp at e1
  subst e1
  exact ⟨⟨n0, n1⟩, rfl, k0, k1⟩
theorem fitsV_struct {D : Nat} {t : TypeId} {vd : VD} {fs : Array Field} (hu : Try.prog.underlying t = some (.struct fs)) (hc : Try.prog.cellsOf t ≠ 1) (h : FitsV Try.prog D t vd) : ∃ ds, vd = .agg ds ∧ Fits Try.prog D t ds := by
  cases vd with
  | c d =>
    have := (fits_struct hu h).1
    exact absurd this.symm hc
  | agg ds => exact ⟨ds, rfl, h.2⟩
theorem fitsV_sl {D : Nat} {t e : TypeId} {vd : VD} (hu : Try.prog.underlying t = some (.slice e)) (h : FitsV Try.prog D t vd) : ∃ d, vd = .c d ∧ Fits Try.prog D t [d] := fitsV_c hu (by simp) h
end Go.Proofs.Ythcdlllclbdbmaa
