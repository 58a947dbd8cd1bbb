import Derived.Test.YtljhopjmmcmioaaDT
import Derived.Test.YtljhopjmmcmioaaBri
import Derived.Test.YtljhopjmmcmioaaDat
namespace Go.Proofs.Ytljhopjmmcmioaa
open Go.AM Go.ChangeShapes Go.WideShapes Go.ChangeAt Go.RowKit
set_option maxRecDepth 20000

theorem own : ownKnob Try.prog.godebug = none := by kernel_rfl
theorem laid : laidOutB Try.prog = true := by kernel_rfl
theorem fits_i64 {D : Nat} {ds : List CD} (h : Fits Try.prog D 3 ds) : ∃ n : Int, ds = [vi n] ∧ i64r n := by
  obtain ⟨n, h1, h2⟩ := fits_int Try.underlying3 h
  exact ⟨n, h1, wf_i64 h2⟩
theorem mL : maxLen = 9223372036854775807 := rfl
theorem fits_ints {D : Nat} {ds : List CD} (h : Fits Try.prog D 22 ds) : ∃ l : List Int, ds = [.s (l.map intR)] ∧ l.length ≤ 9223372036854775807 ∧ ∀ n ∈ l, i64r n := by
  obtain ⟨rows, rfl, h1, D', h2⟩ := fits_slice Try.underlying22 h
  obtain ⟨l, rfl, hl⟩ := rows_map (f := intR) (ok := i64r) rows (fun row hrow => fits_i64 (h2 row hrow).2)
  exact ⟨l, rfl, by simpa [mL] using h1, hl⟩
theorem cells126 : Try.prog.cellsOf 126 = 3 := by kernel_rfl
theorem len3 {α : Type} {l : List α} (h : l.length = 3) : ∃ x0 x1 x2, l = [x0, x1, x2] := by
  match l, h with
  | [x0, x1, x2], _ => exact ⟨x0, x1, x2, rfl⟩
theorem cells3 : Try.prog.cellsOf 3 = 1 := by kernel_rfl
theorem cells22 : Try.prog.cellsOf 22 = 1 := by kernel_rfl
theorem fits_Part {D : Nat} {ds : List CD} (h : Fits Try.prog D 126 ds) : ∃ x : Part, ds = x.row ∧ x.fits := by
  obtain ⟨hl, D', hf⟩ := fits_struct Try.underlying126 h
  rw [cells126] at hl
  obtain ⟨d0, d1, d2, rfl⟩ := len3 hl
  simp [cells3, cells22] at hf
  obtain ⟨h0, h1, h2⟩ := hf
  obtain ⟨n0, e0, k0⟩ := fits_i64 h0
  simp at e0
  subst e0
  obtain ⟨n1, e1, k1⟩ := fits_i64 h1
  simp at e1
  subst e1
  obtain ⟨n2, e2, k2⟩ := fits_ints h2
  simp at e2
  subst e2
  exact ⟨⟨n0, n1, n2⟩, rfl, k0, k1, k2⟩
theorem fits_PartS {D : Nat} {ds : List CD} (h : Fits Try.prog D 23 ds) : ∃ l : List Part, ds = [.s (l.map Part.row)] ∧ l.length ≤ 9223372036854775807 ∧ ∀ y ∈ l, y.fits := by
  obtain ⟨rows, rfl, h1, D', h2⟩ := fits_slice Try.underlying23 h
  obtain ⟨l, rfl, hl⟩ := rows_map (f := Part.row) (ok := Part.fits) rows (fun row hrow => fits_Part (h2 row hrow).2)
  exact ⟨l, rfl, by simpa [mL] using h1, hl⟩
theorem cells67 : Try.prog.cellsOf 67 = 3 := by kernel_rfl
theorem cells23 : Try.prog.cellsOf 23 = 1 := by kernel_rfl
theorem fits_Entry {D : Nat} {ds : List CD} (h : Fits Try.prog D 67 ds) : ∃ x : Entry, ds = x.row ∧ x.fits := by
  obtain ⟨hl, D', hf⟩ := fits_struct Try.underlying67 h
  rw [cells67] at hl
  obtain ⟨d0, d1, d2, rfl⟩ := len3 hl
  simp [cells3, cells23] at hf
  obtain ⟨h0, h1, h2⟩ := hf
  obtain ⟨n0, e0, k0⟩ := fits_i64 h0
  simp at e0
  subst e0
  obtain ⟨n1, e1, k1⟩ := fits_i64 h1
  simp at e1
  subst e1
  obtain ⟨n2, e2, k2⟩ := fits_PartS h2
  simp at e2
  subst e2
  exact ⟨⟨n0, n1, n2⟩, rfl, k0, k1, k2⟩
theorem fits_EntryS {D : Nat} {ds : List CD} (h : Fits Try.prog D 40 ds) : ∃ l : List Entry, ds = [.s (l.map Entry.row)] ∧ l.length ≤ 9223372036854775807 ∧ ∀ y ∈ l, y.fits := by
  obtain ⟨rows, rfl, h1, D', h2⟩ := fits_slice Try.underlying40 h
  obtain ⟨l, rfl, hl⟩ := rows_map (f := Entry.row) (ok := Entry.fits) rows (fun row hrow => fits_Entry (h2 row hrow).2)
  exact ⟨l, rfl, by simpa [mL] using h1, hl⟩
theorem cells216 : Try.prog.cellsOf 216 = 3 := by kernel_rfl
theorem fits_Seen {D : Nat} {ds : List CD} (h : Fits Try.prog D 216 ds) : ∃ x : Seen, ds = x.row ∧ x.fits := by
  obtain ⟨hl, D', hf⟩ := fits_struct Try.underlying216 h
  rw [cells216] at hl
  obtain ⟨d0, d1, d2, rfl⟩ := len3 hl
  simp [cells3] at hf
  obtain ⟨h0, h1, h2⟩ := hf
  obtain ⟨n0, e0, k0⟩ := fits_i64 h0
  simp at e0
  subst e0
  obtain ⟨n1, e1, k1⟩ := fits_i64 h1
  simp at e1
  subst e1
  obtain ⟨n2, e2, k2⟩ := fits_i64 h2
  simp at e2
  subst e2
  exact ⟨⟨n0, n1, n2⟩, rfl, k0, k1, k2⟩
theorem fits_SeenS {D : Nat} {ds : List CD} (h : Fits Try.prog D 41 ds) : ∃ l : List Seen, ds = [.s (l.map Seen.row)] ∧ l.length ≤ 9223372036854775807 ∧ ∀ y ∈ l, y.fits := by
  obtain ⟨rows, rfl, h1, D', h2⟩ := fits_slice Try.underlying41 h
  obtain ⟨l, rfl, hl⟩ := rows_map (f := Seen.row) (ok := Seen.fits) rows (fun row hrow => fits_Seen (h2 row hrow).2)
  exact ⟨l, rfl, by simpa [mL] using h1, hl⟩
theorem cells43 : Try.prog.cellsOf 43 = 5 := by kernel_rfl
theorem len5 {α : Type} {l : List α} (h : l.length = 5) : ∃ x0 x1 x2 x3 x4, l = [x0, x1, x2, x3, x4] := by
  match l, h with
  | [x0, x1, x2, x3, x4], _ => exact ⟨x0, x1, x2, x3, x4, rfl⟩
theorem cells9 : Try.prog.cellsOf 9 = 1 := by kernel_rfl
theorem cells40 : Try.prog.cellsOf 40 = 1 := by kernel_rfl
theorem cells41 : Try.prog.cellsOf 41 = 1 := by kernel_rfl
theorem fits_Doc {D : Nat} {ds : List CD} (h : Fits Try.prog D 43 ds) : ∃ x : Doc, ds = x.row ∧ x.fits := by
  obtain ⟨hl, D', hf⟩ := fits_struct Try.underlying43 h
  rw [cells43] at hl
  obtain ⟨d0, d1, d2, d3, d4, rfl⟩ := len5 hl
  simp [cells3, cells9, cells22, cells40, cells41] at hf
  obtain ⟨h0, h1, h2, h3, h4⟩ := hf
  obtain ⟨n0, e0, k0⟩ := fits_string Try.underlying9 h0
  simp at e0
  subst e0
  obtain ⟨n1, e1, k1⟩ := fits_i64 h1
  simp at e1
  subst e1
  obtain ⟨n2, e2, k2⟩ := fits_ints h2
  simp at e2
  subst e2
  obtain ⟨n3, e3, k3⟩ := fits_EntryS h3
  simp at e3
  subst e3
  obtain ⟨n4, e4, k4⟩ := fits_SeenS h4
  simp at e4
  subst e4
  exact ⟨⟨n0, n1, n2, n3, n4⟩, rfl, (by rw [mL] at k0; exact k0), k1, k2, k3, k4⟩
theorem fits_DocS {D : Nat} {ds : List CD} (h : Fits Try.prog D 89 ds) : ∃ l : List Doc, ds = [.s (l.map Doc.row)] ∧ l.length ≤ 9223372036854775807 ∧ ∀ y ∈ l, y.fits := by
  obtain ⟨rows, rfl, h1, D', h2⟩ := fits_slice Try.underlying89 h
  obtain ⟨l, rfl, hl⟩ := rows_map (f := Doc.row) (ok := Doc.fits) rows (fun row hrow => fits_Doc (h2 row hrow).2)
  exact ⟨l, rfl, by simpa [mL] using h1, hl⟩
theorem cells221 : Try.prog.cellsOf 221 = 4 := by kernel_rfl
theorem len4 {α : Type} {l : List α} (h : l.length = 4) : ∃ x0 x1 x2 x3, l = [x0, x1, x2, x3] := by
  match l, h with
  | [x0, x1, x2, x3], _ => exact ⟨x0, x1, x2, x3, rfl⟩
theorem cells4 : Try.prog.cellsOf 4 = 1 := by kernel_rfl
theorem fits_Ring {D : Nat} {ds : List CD} (h : Fits Try.prog D 221 ds) : ∃ x : Ring, ds = x.row ∧ x.fits := by
  obtain ⟨hl, D', hf⟩ := fits_struct Try.underlying221 h
  rw [cells221] at hl
  obtain ⟨d0, d1, d2, d3, rfl⟩ := len4 hl
  simp [cells3, cells4, cells40] at hf
  obtain ⟨h0, h1, h2, h3⟩ := hf
  obtain ⟨n0, e0, k0⟩ := fits_i64 h0
  simp at e0
  subst e0
  obtain ⟨n1, e1, k1⟩ := fits_i64 h1
  simp at e1
  subst e1
  obtain ⟨n2, e2⟩ := fits_bool Try.underlying4 h2
  simp at e2
  subst e2
  obtain ⟨n3, e3, k3⟩ := fits_EntryS h3
  simp at e3
  subst e3
  exact ⟨⟨n0, n1, n2, n3⟩, rfl, k0, k1, trivial, k3⟩
theorem cells223 : Try.prog.cellsOf 223 = 6 := by kernel_rfl
theorem len6 {α : Type} {l : List α} (h : l.length = 6) : ∃ x0 x1 x2 x3 x4 x5, l = [x0, x1, x2, x3, x4, x5] := by
  match l, h with
  | [x0, x1, x2, x3, x4, x5], _ => exact ⟨x0, x1, x2, x3, x4, x5, rfl⟩
theorem fits_Sub {D : Nat} {ds : List CD} (h : Fits Try.prog D 223 ds) : ∃ x : Sub, ds = x.row ∧ x.fits := by
  obtain ⟨hl, D', hf⟩ := fits_struct Try.underlying223 h
  rw [cells223] at hl
  obtain ⟨d0, d1, d2, d3, d4, d5, rfl⟩ := len6 hl
  simp [cells3, cells9, cells221] at hf
  obtain ⟨h0, h1, h2⟩ := hf
  obtain ⟨n0, e0, k0⟩ := fits_i64 h0
  simp at e0
  subst e0
  obtain ⟨n1, e1, k1⟩ := fits_string Try.underlying9 h1
  simp at e1
  subst e1
  obtain ⟨n2, e2, k2⟩ := fits_Ring h2
  simp [Ring.row] at e2
  obtain ⟨e2_0, e2_1, e2_2, e2_3⟩ := e2
  subst e2_0 e2_1 e2_2 e2_3
  exact ⟨⟨n0, n1, n2⟩, rfl, k0, (by rw [mL] at k1; exact k1), k2⟩
theorem fits_SubS {D : Nat} {ds : List CD} (h : Fits Try.prog D 90 ds) : ∃ l : List Sub, ds = [.s (l.map Sub.row)] ∧ l.length ≤ 9223372036854775807 ∧ ∀ y ∈ l, y.fits := by
  obtain ⟨rows, rfl, h1, D', h2⟩ := fits_slice Try.underlying90 h
  obtain ⟨l, rfl, hl⟩ := rows_map (f := Sub.row) (ok := Sub.fits) rows (fun row hrow => fits_Sub (h2 row hrow).2)
  exact ⟨l, rfl, by simpa [mL] using h1, hl⟩
theorem cells92 : Try.prog.cellsOf 92 = 4 := by kernel_rfl
theorem cells89 : Try.prog.cellsOf 89 = 1 := by kernel_rfl
theorem cells90 : Try.prog.cellsOf 90 = 1 := by kernel_rfl
theorem fits_Hub {D : Nat} {ds : List CD} (h : Fits Try.prog D 92 ds) : ∃ x : Hub, ds = x.row ∧ x.fits := by
  obtain ⟨hl, D', hf⟩ := fits_struct Try.underlying92 h
  rw [cells92] at hl
  obtain ⟨d0, d1, d2, d3, rfl⟩ := len4 hl
  simp [cells3, cells4, cells89, cells90] at hf
  obtain ⟨h0, h1, h2, h3⟩ := hf
  obtain ⟨n0, e0⟩ := fits_bool Try.underlying4 h0
  simp at e0
  subst e0
  obtain ⟨n1, e1, k1⟩ := fits_DocS h1
  simp at e1
  subst e1
  obtain ⟨n2, e2, k2⟩ := fits_SubS h2
  simp at e2
  subst e2
  obtain ⟨n3, e3, k3⟩ := fits_i64 h3
  simp at e3
  subst e3
  exact ⟨⟨n0, n1, n2, n3⟩, rfl, trivial, k1, k2, k3⟩
theorem cells201 : Try.prog.cellsOf 201 = 7 := by kernel_rfl
theorem len7 {α : Type} {l : List α} (h : l.length = 7) : ∃ x0 x1 x2 x3 x4 x5 x6, l = [x0, x1, x2, x3, x4, x5, x6] := by
  match l, h with
  | [x0, x1, x2, x3, x4, x5, x6], _ => exact ⟨x0, x1, x2, x3, x4, x5, x6, rfl⟩
theorem fits_Call {D : Nat} {ds : List CD} (h : Fits Try.prog D 201 ds) : ∃ x : Call, ds = x.row ∧ x.fits := by
  obtain ⟨hl, D', hf⟩ := fits_struct Try.underlying201 h
  rw [cells201] at hl
  obtain ⟨d0, d1, d2, d3, d4, d5, d6, rfl⟩ := len7 hl
  simp [cells3, cells9, cells22, cells23] at hf
  obtain ⟨h0, h1, h2, h3, h4, h5, h6⟩ := hf
  obtain ⟨n0, e0, k0⟩ := fits_i64 h0
  simp at e0
  subst e0
  obtain ⟨n1, e1, k1⟩ := fits_string Try.underlying9 h1
  simp at e1
  subst e1
  obtain ⟨n2, e2, k2⟩ := fits_i64 h2
  simp at e2
  subst e2
  obtain ⟨n3, e3, k3⟩ := fits_i64 h3
  simp at e3
  subst e3
  obtain ⟨n4, e4, k4⟩ := fits_i64 h4
  simp at e4
  subst e4
  obtain ⟨n5, e5, k5⟩ := fits_PartS h5
  simp at e5
  subst e5
  obtain ⟨n6, e6, k6⟩ := fits_ints h6
  simp at e6
  subst e6
  exact ⟨⟨n0, n1, n2, n3, n4, n5, n6⟩, rfl, k0, (by rw [mL] at k1; exact k1), k2, k3, k4, k5, k6⟩
theorem cells203 : Try.prog.cellsOf 203 = 4 := by kernel_rfl
theorem fits_Answer {D : Nat} {ds : List CD} (h : Fits Try.prog D 203 ds) : ∃ x : Answer, ds = x.row ∧ x.fits := by
  obtain ⟨hl, D', hf⟩ := fits_struct Try.underlying203 h
  rw [cells203] at hl
  obtain ⟨d0, d1, d2, d3, rfl⟩ := len4 hl
  simp [cells3, cells22, cells40] at hf
  obtain ⟨h0, h1, h2, h3⟩ := hf
  obtain ⟨n0, e0, k0⟩ := fits_i64 h0
  simp at e0
  subst e0
  obtain ⟨n1, e1, k1⟩ := fits_i64 h1
  simp at e1
  subst e1
  obtain ⟨n2, e2, k2⟩ := fits_ints h2
  simp at e2
  subst e2
  obtain ⟨n3, e3, k3⟩ := fits_EntryS h3
  simp at e3
  subst e3
  exact ⟨⟨n0, n1, n2, n3⟩, rfl, k0, k1, k2, k3⟩
theorem cells205 : Try.prog.cellsOf 205 = 15 := by kernel_rfl
theorem len15 {α : Type} {l : List α} (h : l.length = 15) : ∃ x0 x1 x2 x3 x4 x5 x6 x7 x8 x9 x10 x11 x12 x13 x14, l = [x0, x1, x2, x3, x4, x5, x6, x7, x8, x9, x10, x11, x12, x13, x14] := by
  match l, h with
  | [x0, x1, x2, x3, x4, x5, x6, x7, x8, x9, x10, x11, x12, x13, x14], _ => exact ⟨x0, x1, x2, x3, x4, x5, x6, x7, x8, x9, x10, x11, x12, x13, x14, rfl⟩
theorem fits_Task {D : Nat} {ds : List CD} (h : Fits Try.prog D 205 ds) : ∃ x : Task, ds = x.row ∧ x.fits := by
  obtain ⟨hl, D', hf⟩ := fits_struct Try.underlying205 h
  rw [cells205] at hl
  obtain ⟨d0, d1, d2, d3, d4, d5, d6, d7, d8, d9, d10, d11, d12, d13, d14, rfl⟩ := len15 hl
  simp [cells3, cells201, cells203] at hf
  obtain ⟨h0, h1, h2, h3, h4, h5⟩ := hf
  obtain ⟨n0, e0, k0⟩ := fits_Call h0
  simp [Call.row] at e0
  obtain ⟨e0_0, e0_1, e0_2, e0_3, e0_4, e0_5, e0_6⟩ := e0
  subst e0_0 e0_1 e0_2 e0_3 e0_4 e0_5 e0_6
  obtain ⟨n1, e1, k1⟩ := fits_i64 h1
  simp at e1
  subst e1
  obtain ⟨n2, e2, k2⟩ := fits_i64 h2
  simp at e2
  subst e2
  obtain ⟨n3, e3, k3⟩ := fits_i64 h3
  simp at e3
  subst e3
  obtain ⟨n4, e4, k4⟩ := fits_i64 h4
  simp at e4
  subst e4
  obtain ⟨n5, e5, k5⟩ := fits_Answer h5
  simp [Answer.row] at e5
  obtain ⟨e5_0, e5_1, e5_2, e5_3⟩ := e5
  subst e5_0 e5_1 e5_2 e5_3
  exact ⟨⟨n0, n1, n2, n3, n4, n5⟩, rfl, k0, k1, k2, k3, k4, k5⟩
theorem fits_TaskS {D : Nat} {ds : List CD} (h : Fits Try.prog D 94 ds) : ∃ l : List Task, ds = [.s (l.map Task.row)] ∧ l.length ≤ 9223372036854775807 ∧ ∀ y ∈ l, y.fits := by
  obtain ⟨rows, rfl, h1, D', h2⟩ := fits_slice Try.underlying94 h
  obtain ⟨l, rfl, hl⟩ := rows_map (f := Task.row) (ok := Task.fits) rows (fun row hrow => fits_Task (h2 row hrow).2)
  exact ⟨l, rfl, by simpa [mL] using h1, hl⟩
theorem cells198 : Try.prog.cellsOf 198 = 2 := by kernel_rfl
theorem len2 {α : Type} {l : List α} (h : l.length = 2) : ∃ x0 x1, l = [x0, x1] := by
  match l, h with
  | [x0, x1], _ => exact ⟨x0, x1, rfl⟩
theorem fits_Queue {D : Nat} {ds : List CD} (h : Fits Try.prog D 198 ds) : ∃ x : Queue, ds = x.row ∧ x.fits := by
  obtain ⟨hl, D', hf⟩ := fits_struct Try.underlying198 h
  rw [cells198] at hl
  obtain ⟨d0, d1, rfl⟩ := len2 hl
  simp [cells9, cells22] at hf
  obtain ⟨h0, h1⟩ := hf
  obtain ⟨n0, e0, k0⟩ := fits_string Try.underlying9 h0
  simp at e0
  subst e0
  obtain ⟨n1, e1, k1⟩ := fits_ints h1
  simp at e1
  subst e1
  exact ⟨⟨n0, n1⟩, rfl, (by rw [mL] at k0; exact k0), k1⟩
theorem fits_QueueS {D : Nat} {ds : List CD} (h : Fits Try.prog D 93 ds) : ∃ l : List Queue, ds = [.s (l.map Queue.row)] ∧ l.length ≤ 9223372036854775807 ∧ ∀ y ∈ l, y.fits := by
  obtain ⟨rows, rfl, h1, D', h2⟩ := fits_slice Try.underlying93 h
  obtain ⟨l, rfl, hl⟩ := rows_map (f := Queue.row) (ok := Queue.fits) rows (fun row hrow => fits_Queue (h2 row hrow).2)
  exact ⟨l, rfl, by simpa [mL] using h1, hl⟩
theorem cells96 : Try.prog.cellsOf 96 = 8 := by kernel_rfl
theorem len8 {α : Type} {l : List α} (h : l.length = 8) : ∃ x0 x1 x2 x3 x4 x5 x6 x7, l = [x0, x1, x2, x3, x4, x5, x6, x7] := by
  match l, h with
  | [x0, x1, x2, x3, x4, x5, x6, x7], _ => exact ⟨x0, x1, x2, x3, x4, x5, x6, x7, rfl⟩
theorem cells93 : Try.prog.cellsOf 93 = 1 := by kernel_rfl
theorem cells94 : Try.prog.cellsOf 94 = 1 := by kernel_rfl
theorem fits_World {D : Nat} {ds : List CD} (h : Fits Try.prog D 96 ds) : ∃ x : Wld, ds = x.row ∧ x.fits := by
  obtain ⟨hl, D', hf⟩ := fits_struct Try.underlying96 h
  rw [cells96] at hl
  obtain ⟨d0, d1, d2, d3, d4, d5, d6, d7, rfl⟩ := len8 hl
  simp [cells3, cells22, cells92, cells93, cells94] at hf
  obtain ⟨h0, h1, h2, h3, h4⟩ := hf
  obtain ⟨n0, e0, k0⟩ := fits_Hub h0
  simp [Hub.row] at e0
  obtain ⟨e0_0, e0_1, e0_2, e0_3⟩ := e0
  subst e0_0 e0_1 e0_2 e0_3
  obtain ⟨n1, e1, k1⟩ := fits_ints h1
  simp at e1
  subst e1
  obtain ⟨n2, e2, k2⟩ := fits_QueueS h2
  simp at e2
  subst e2
  obtain ⟨n3, e3, k3⟩ := fits_TaskS h3
  simp at e3
  subst e3
  obtain ⟨n4, e4, k4⟩ := fits_i64 h4
  simp at e4
  subst e4
  exact ⟨⟨n0, n1, n2, n3, n4⟩, rfl, k0, k1, k2, k3, k4⟩
theorem cells25 : Try.prog.cellsOf 25 = 7 := by kernel_rfl
theorem fits_Rep {D : Nat} {ds : List CD} (h : Fits Try.prog D 25 ds) : ∃ x : Rep, ds = x.row ∧ x.fits := by
  obtain ⟨hl, D', hf⟩ := fits_struct Try.underlying25 h
  rw [cells25] at hl
  obtain ⟨d0, d1, d2, d3, d4, d5, d6, rfl⟩ := len7 hl
  simp [cells3, cells4, cells22, cells23] at hf
  obtain ⟨h0, h1, h2, h3, h4, h5, h6⟩ := hf
  obtain ⟨n0, e0, k0⟩ := fits_i64 h0
  simp at e0
  subst e0
  obtain ⟨n1, e1, k1⟩ := fits_i64 h1
  simp at e1
  subst e1
  obtain ⟨n2, e2, k2⟩ := fits_i64 h2
  simp at e2
  subst e2
  obtain ⟨n3, e3, k3⟩ := fits_ints h3
  simp at e3
  subst e3
  obtain ⟨n4, e4⟩ := fits_bool Try.underlying4 h4
  simp at e4
  subst e4
  obtain ⟨n5, e5, k5⟩ := fits_PartS h5
  simp at e5
  subst e5
  obtain ⟨n6, e6, k6⟩ := fits_PartS h6
  simp at e6
  subst e6
  exact ⟨⟨n0, n1, n2, n3, n4, n5, n6⟩, rfl, k0, k1, k2, k3, trivial, k5, k6⟩
theorem fits_RepS {D : Nat} {ds : List CD} (h : Fits Try.prog D 44 ds) : ∃ l : List Rep, ds = [.s (l.map Rep.row)] ∧ l.length ≤ 9223372036854775807 ∧ ∀ y ∈ l, y.fits := by
  obtain ⟨rows, rfl, h1, D', h2⟩ := fits_slice Try.underlying44 h
  obtain ⟨l, rfl, hl⟩ := rows_map (f := Rep.row) (ok := Rep.fits) rows (fun row hrow => fits_Rep (h2 row hrow).2)
  exact ⟨l, rfl, by simpa [mL] using h1, hl⟩
theorem cells46 : Try.prog.cellsOf 46 = 6 := by kernel_rfl
theorem cells44 : Try.prog.cellsOf 44 = 1 := by kernel_rfl
theorem fits_Net {D : Nat} {ds : List CD} (h : Fits Try.prog D 46 ds) : ∃ x : Net, ds = x.row ∧ x.fits := by
  obtain ⟨hl, D', hf⟩ := fits_struct Try.underlying46 h
  rw [cells46] at hl
  obtain ⟨d0, d1, d2, d3, d4, d5, rfl⟩ := len6 hl
  simp [cells43, cells44] at hf
  obtain ⟨h0, h1⟩ := hf
  obtain ⟨n0, e0, k0⟩ := fits_Doc h0
  simp [Doc.row] at e0
  obtain ⟨e0_0, e0_1, e0_2, e0_3, e0_4⟩ := e0
  subst e0_0 e0_1 e0_2 e0_3 e0_4
  obtain ⟨n1, e1, k1⟩ := fits_RepS h1
  simp at e1
  subst e1
  exact ⟨⟨n0, n1⟩, rfl, k0, k1⟩
theorem fitsV_struct {D : Nat} {t : TypeId} {vd : VD} {fs : Array Field} (hu : Try.prog.underlying t = some (.struct fs)) (hc : Try.prog.cellsOf t ≠ 1) (h : FitsV Try.prog D t vd) : ∃ ds, vd = .agg ds ∧ Fits Try.prog D t ds := by
  cases vd with
  | c d =>
    have := (fits_struct hu h).1
    exact absurd this.symm hc
  | agg ds => exact ⟨ds, rfl, h.2⟩
theorem fitsV_sl {D : Nat} {t e : TypeId} {vd : VD} (hu : Try.prog.underlying t = some (.slice e)) (h : FitsV Try.prog D t vd) : ∃ d, vd = .c d ∧ Fits Try.prog D t [d] := fitsV_c hu (by simp) h
end Go.Proofs.Ytljhopjmmcmioaa
