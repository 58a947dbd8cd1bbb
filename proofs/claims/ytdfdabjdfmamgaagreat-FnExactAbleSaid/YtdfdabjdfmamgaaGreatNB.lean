import Derived.Test.YtdfdabjdfmamgaaGreatNA
import Derived.Test.YtdfdabjdfmamgaaGreatMG
namespace Go.Proofs.YtdfdabjdfmamgaaGreat
open Go.AM
set_option maxRecDepth 20000
theorem toWorld_c (x : Wld) (h : nWorld x ≤ 2 ^ 36) : PureC Tryz.prog 31 [.agg x.row] (.one (.agg x.res)) := by
  refine PureC.intro' tt_ok Tryz.func31 (by kernel_rfl) rfl rfl rfl (Nat.le_of_ble_eq_true rfl) (fun w0 base => ?_); unfold nWorld at h; simp [Wld.row, Wld.res]
  try intros
  refine ACall.pure (toHub_c x.h (by omega)) (by simp [Hub.row]) ?_; simp [Hub.res]
  try intros
  refine ACall.pure (toIntS_c x.locks (by omega)) (by simp) ?_; simp
  try intros
  refine ACall.pure (toQueueS_c x.queues (by omega)) (by simp) ?_; simp
  try intros
  refine ACall.pure (toTaskS_c x.tasks (by omega)) (by simp) ?_; simp
  try intros
theorem eqWorld_c (x y : Wld) (h : nWorld x ≤ 2 ^ 36) : PureC Tryz.prog 33 [.agg x.row, .agg y.row] (.one (.c (vb (x = y)) 1)) := by
  refine PureC.intro' tt_ok Tryz.func33 (by kernel_rfl) rfl rfl rfl (Nat.le_of_ble_eq_true rfl) (fun w0 base => ?_); unfold nWorld at h; obtain ⟨a0, a1, a2, a3, a4⟩ := x; obtain ⟨b0, b1, b2, b3, b4⟩ := y; simp only at h; simp [Wld.row]
  try intros
  refine ACall.pure (eqHub_c a0 b0 (by omega)) (by simp [Hub.row]) ?_; simp; by_cases h0 : a0 = b0
  rotate_left
  · simp [h0]
  subst h0
  try simp
  refine ACall.pure (eqIntS_c a1 b1 (by omega)) (by simp) ?_; simp; by_cases h1 : a1 = b1
  rotate_left
  · simp [h1]
  subst h1
  try simp
  refine ACall.pure (eqQueueS_c a2 b2 (by omega)) (by simp) ?_; simp; by_cases h2 : a2 = b2
  rotate_left
  · simp [h2]
  subst h2
  try simp
  refine ACall.pure (eqTaskS_c a3 b3 (by omega)) (by simp) ?_; simp; by_cases h3 : a3 = b3
  rotate_left
  · simp [h3]
  subst h3
  try simp
  by_cases h4 : a4 = b4
  rotate_left
  · simp [h4]
  subst h4
  try simp
theorem szWorld_c (x : Wld) (h : x.fits) (left : Nat) (hf : left ≤ 2 ^ 20) : PureC Tryz.prog 29 [.agg x.row, .c (vi left)] (.one (.c (vi (szR (nWorld x) left)) 1)) := by
  refine PureC.intro' tt_ok Tryz.func29 (by kernel_rfl) rfl rfl rfl (Nat.le_of_ble_eq_true rfl) (fun w0 base => ?_); obtain ⟨f0, f1, f2, f3, f4⟩ := h; obtain ⟨r, hr⟩ : ∃ r, szR (nWorld x) left = r := ⟨_, rfl⟩; rw [hr]; have hn : nWorld x = nHub x.h + (x.locks.length + (nL nQueue x.queues + (nL nTask x.tasks))) := rfl; simp [Wld.row]
  try intros
  refine ACall.pure (szHub_c x.h f0 left (by omega)) (by simp [Hub.row]) ?_; by_cases k0 : nHub x.h ≤ left
  rotate_left
  · have : r = -1 := by rw [← hr]; exact szR_no (by omega)
    rw [szR_no k0]; simp [this]
  rw [szR_ok k0]; obtain ⟨m0, hm0⟩ : ∃ m, left - nHub x.h = m := ⟨_, rfl⟩; rw [hm0]; simp; refine ACall.pure (szIntS_c x.locks f1.1 m0 (by omega)) (by simp) ?_; by_cases k1 : x.locks.length ≤ m0
  rotate_left
  · have : r = -1 := by rw [← hr]; exact szR_no (by omega)
    rw [szR_no k1]; simp [this]
  rw [szR_ok k1]; obtain ⟨m1, hm1⟩ : ∃ m, m0 - x.locks.length = m := ⟨_, rfl⟩; rw [hm1]; simp; refine ACall.pure (szQueueS_c x.queues f2.1 f2.2 m1 (by omega)) (by simp) ?_; by_cases k2 : nL nQueue x.queues ≤ m1
  rotate_left
  · have : r = -1 := by rw [← hr]; exact szR_no (by omega)
    rw [szR_no k2]; simp [this]
  rw [szR_ok k2]; obtain ⟨m2, hm2⟩ : ∃ m, m1 - nL nQueue x.queues = m := ⟨_, rfl⟩; rw [hm2]; simp; refine ACall.pure (szTaskS_c x.tasks f3.1 f3.2 m2 (by omega)) (by simp) ?_; by_cases k3 : nL nTask x.tasks ≤ m2
  rotate_left
  · have : r = -1 := by rw [← hr]; exact szR_no (by omega)
    rw [szR_no k3]; simp [this]
  rw [szR_ok k3]; obtain ⟨m3, hm3⟩ : ∃ m, m2 - nL nTask x.tasks = m := ⟨_, rfl⟩; rw [hm3]; have : r = (m3 : Int) := by rw [← hr, szR_ok (by omega)]; omega
  simp [this]
theorem markWorld_c (x : Wld) (k : Int) (h0 : 0 ≤ k) (hk : k + x.cntT ≤ 4611686018427387904) (hl : nWorld x ≤ 2 ^ 36) : MarkC Tryz.prog 40 (.agg x.res) k (k + x.cntT) (.agg (x.markT k).res) := by
  refine MarkC.intro tt_ok Tryz.func40 (by kernel_rfl) rfl rfl rfl (by decide) (fun w0 base => ?_); simp only [Wld.cntT] at hk; unfold nWorld at hl; have hs_h : x.h.cntT = cntL Doc.cnt x.h.docs + (cntL Sub.cnt x.h.subs) := rfl; simp [Wld.res]
  try intros
  refine ACall.mark (markHub_c x.h (k) (by omega) (by omega) (by omega)) rfl (fun _ h => h) (by simp) ?_; simp [Hub.res, Hub.markT]; refine ACall.mark (markIntS_c x.locks (k + ((x.h.cntT : Nat) : Int)) (by omega) (by omega)) rfl (fun _ h => h) (by simp) ?_; simp; refine ACall.mark (markQueueS_c x.queues (k + ((x.h.cntT : Nat) : Int) + ((x.locks.length : Nat) : Int)) (by omega) (by omega) (by omega)) rfl (fun _ h => h) (by simp) ?_; simp; refine ACall.mark (markTaskS_c x.tasks (k + ((x.h.cntT : Nat) : Int) + ((x.locks.length : Nat) : Int) + ((cntL Queue.cnt x.queues : Nat) : Int)) (by omega) (by omega) (by omega)) rfl (fun _ h => h) (by simp) ?_; simp; simp [Wld.markT, Wld.cntT, markL_length, Hub.cntT, Int.add_assoc]
  try omega
end Go.Proofs.YtdfdabjdfmamgaaGreat

namespace Go.Proofs.YtdfdabjdfmamgaaGreat
open Go.AM
set_option maxRecDepth 20000
end Go.Proofs.YtdfdabjdfmamgaaGreat

namespace Go.Proofs.YtdfdabjdfmamgaaGreat
open Go.AM Go.ChangeShapes Go.WideShapes Go.ChangeAt Go.RowKit
set_option maxRecDepth 20000
theorem own : ownKnob Tryz.prog.godebug = none := by kernel_rfl
theorem laid : laidOutB Tryz.prog = true := by kernel_rfl
theorem fits_i64 {D : Nat} {ds : List CD} (h : Fits Tryz.prog D 3 ds) : ∃ n : Int, ds = [vi n] ∧ i64r n := by
  obtain ⟨n, h1, h2⟩ := fits_int Tryz.underlying3 h; exact ⟨n, h1, wf_i64 h2⟩
theorem mL : maxLen = 9223372036854775807 := rfl
theorem fits_ints {D : Nat} {ds : List CD} (h : Fits Tryz.prog D 22 ds) : ∃ l : List Int, ds = [.s (l.map intR)] ∧ l.length ≤ 9223372036854775807 ∧ ∀ n ∈ l, i64r n := by
  obtain ⟨rows, rfl, h1, D', h2⟩ := fits_slice Tryz.underlying22 h; obtain ⟨l, rfl, hl⟩ := rows_map (f := intR) (ok := i64r) rows (fun row hrow => fits_i64 (h2 row hrow).2); exact ⟨l, rfl, by simpa [mL] using h1, hl⟩
theorem cells254 : Tryz.prog.cellsOf 254 = 3 := by kernel_rfl
theorem lenF3 {α : Type} {l : List α} (h : l.length = 3) : ∃ x0 x1 x2, l = [x0, x1, x2] := by
  match l, h with
  | [x0, x1, x2], _ => exact ⟨x0, x1, x2, rfl⟩
theorem cells3 : Tryz.prog.cellsOf 3 = 1 := by kernel_rfl
theorem cells22 : Tryz.prog.cellsOf 22 = 1 := by kernel_rfl
theorem fits_Part {D : Nat} {ds : List CD} (h : Fits Tryz.prog D 254 ds) : ∃ x : Part, ds = x.row ∧ x.fits := by
  obtain ⟨hl, D', hf⟩ := fits_struct Tryz.underlying254 h; rw [cells254] at hl; obtain ⟨d0, d1, d2, rfl⟩ := lenF3 hl; simp [cells3, cells22] at hf; obtain ⟨h0, h1, h2⟩ := hf; obtain ⟨n0, e0, k0⟩ := fits_i64 h0; simp at e0; subst e0; obtain ⟨n1, e1, k1⟩ := fits_i64 h1; simp at e1; subst e1; obtain ⟨n2, e2, k2⟩ := fits_ints h2; simp at e2; subst e2; exact ⟨⟨n0, n1, n2⟩, rfl, k0, k1, k2⟩
theorem fits_PartS {D : Nat} {ds : List CD} (h : Fits Tryz.prog D 88 ds) : ∃ l : List Part, ds = [.s (l.map Part.row)] ∧ l.length ≤ 9223372036854775807 ∧ ∀ y ∈ l, y.fits := by
  obtain ⟨rows, rfl, h1, D', h2⟩ := fits_slice Tryz.underlying88 h; obtain ⟨l, rfl, hl⟩ := rows_map (f := Part.row) (ok := Part.fits) rows (fun row hrow => fits_Part (h2 row hrow).2); exact ⟨l, rfl, by simpa [mL] using h1, hl⟩
theorem cells280 : Tryz.prog.cellsOf 280 = 3 := by kernel_rfl
theorem cells88 : Tryz.prog.cellsOf 88 = 1 := by kernel_rfl
theorem fits_Entry {D : Nat} {ds : List CD} (h : Fits Tryz.prog D 280 ds) : ∃ x : Entry, ds = x.row ∧ x.fits := by
  obtain ⟨hl, D', hf⟩ := fits_struct Tryz.underlying280 h; rw [cells280] at hl; obtain ⟨d0, d1, d2, rfl⟩ := lenF3 hl; simp [cells3, cells88] at hf; obtain ⟨h0, h1, h2⟩ := hf; obtain ⟨n0, e0, k0⟩ := fits_i64 h0; simp at e0; subst e0; obtain ⟨n1, e1, k1⟩ := fits_i64 h1; simp at e1; subst e1; obtain ⟨n2, e2, k2⟩ := fits_PartS h2; simp at e2; subst e2; exact ⟨⟨n0, n1, n2⟩, rfl, k0, k1, k2⟩
theorem fits_EntryS {D : Nat} {ds : List CD} (h : Fits Tryz.prog D 23 ds) : ∃ l : List Entry, ds = [.s (l.map Entry.row)] ∧ l.length ≤ 9223372036854775807 ∧ ∀ y ∈ l, y.fits := by
  obtain ⟨rows, rfl, h1, D', h2⟩ := fits_slice Tryz.underlying23 h; obtain ⟨l, rfl, hl⟩ := rows_map (f := Entry.row) (ok := Entry.fits) rows (fun row hrow => fits_Entry (h2 row hrow).2); exact ⟨l, rfl, by simpa [mL] using h1, hl⟩
theorem cells286 : Tryz.prog.cellsOf 286 = 3 := by kernel_rfl
theorem fits_Seen {D : Nat} {ds : List CD} (h : Fits Tryz.prog D 286 ds) : ∃ x : Seen, ds = x.row ∧ x.fits := by
  obtain ⟨hl, D', hf⟩ := fits_struct Tryz.underlying286 h; rw [cells286] at hl; obtain ⟨d0, d1, d2, rfl⟩ := lenF3 hl; simp [cells3] at hf; obtain ⟨h0, h1, h2⟩ := hf; obtain ⟨n0, e0, k0⟩ := fits_i64 h0; simp at e0; subst e0; obtain ⟨n1, e1, k1⟩ := fits_i64 h1; simp at e1; subst e1; obtain ⟨n2, e2, k2⟩ := fits_i64 h2; simp at e2; subst e2; exact ⟨⟨n0, n1, n2⟩, rfl, k0, k1, k2⟩
theorem fits_SeenS {D : Nat} {ds : List CD} (h : Fits Tryz.prog D 24 ds) : ∃ l : List Seen, ds = [.s (l.map Seen.row)] ∧ l.length ≤ 9223372036854775807 ∧ ∀ y ∈ l, y.fits := by
  obtain ⟨rows, rfl, h1, D', h2⟩ := fits_slice Tryz.underlying24 h; obtain ⟨l, rfl, hl⟩ := rows_map (f := Seen.row) (ok := Seen.fits) rows (fun row hrow => fits_Seen (h2 row hrow).2); exact ⟨l, rfl, by simpa [mL] using h1, hl⟩
theorem cells26 : Tryz.prog.cellsOf 26 = 5 := by kernel_rfl
theorem lenF5 {α : Type} {l : List α} (h : l.length = 5) : ∃ x0 x1 x2 x3 x4, l = [x0, x1, x2, x3, x4] := by
  match l, h with
  | [x0, x1, x2, x3, x4], _ => exact ⟨x0, x1, x2, x3, x4, rfl⟩
theorem cells9 : Tryz.prog.cellsOf 9 = 1 := by kernel_rfl
theorem cells23 : Tryz.prog.cellsOf 23 = 1 := by kernel_rfl
theorem cells24 : Tryz.prog.cellsOf 24 = 1 := by kernel_rfl
theorem fits_Doc {D : Nat} {ds : List CD} (h : Fits Tryz.prog D 26 ds) : ∃ x : Doc, ds = x.row ∧ x.fits := by
  obtain ⟨hl, D', hf⟩ := fits_struct Tryz.underlying26 h; rw [cells26] at hl; obtain ⟨d0, d1, d2, d3, d4, rfl⟩ := lenF5 hl; simp [cells3, cells9, cells22, cells23, cells24] at hf; obtain ⟨h0, h1, h2, h3, h4⟩ := hf; obtain ⟨n0, e0, k0⟩ := fits_string Tryz.underlying9 h0; simp at e0; subst e0; obtain ⟨n1, e1, k1⟩ := fits_i64 h1; simp at e1; subst e1; obtain ⟨n2, e2, k2⟩ := fits_ints h2; simp at e2; subst e2; obtain ⟨n3, e3, k3⟩ := fits_EntryS h3; simp at e3; subst e3; obtain ⟨n4, e4, k4⟩ := fits_SeenS h4; simp at e4; subst e4; exact ⟨⟨n0, n1, n2, n3, n4⟩, rfl, (by rw [mL] at k0; exact k0), k1, k2, k3, k4⟩
theorem fits_DocS {D : Nat} {ds : List CD} (h : Fits Tryz.prog D 52 ds) : ∃ l : List Doc, ds = [.s (l.map Doc.row)] ∧ l.length ≤ 9223372036854775807 ∧ ∀ y ∈ l, y.fits := by
  obtain ⟨rows, rfl, h1, D', h2⟩ := fits_slice Tryz.underlying52 h; obtain ⟨l, rfl, hl⟩ := rows_map (f := Doc.row) (ok := Doc.fits) rows (fun row hrow => fits_Doc (h2 row hrow).2); exact ⟨l, rfl, by simpa [mL] using h1, hl⟩
theorem cells241 : Tryz.prog.cellsOf 241 = 4 := by kernel_rfl
theorem lenF4 {α : Type} {l : List α} (h : l.length = 4) : ∃ x0 x1 x2 x3, l = [x0, x1, x2, x3] := by
  match l, h with
  | [x0, x1, x2, x3], _ => exact ⟨x0, x1, x2, x3, rfl⟩
theorem cells4 : Tryz.prog.cellsOf 4 = 1 := by kernel_rfl
theorem fits_Ring {D : Nat} {ds : List CD} (h : Fits Tryz.prog D 241 ds) : ∃ x : Ring, ds = x.row ∧ x.fits := by
  obtain ⟨hl, D', hf⟩ := fits_struct Tryz.underlying241 h; rw [cells241] at hl; obtain ⟨d0, d1, d2, d3, rfl⟩ := lenF4 hl; simp [cells3, cells4, cells23] at hf; obtain ⟨h0, h1, h2, h3⟩ := hf; obtain ⟨n0, e0, k0⟩ := fits_i64 h0; simp at e0; subst e0; obtain ⟨n1, e1, k1⟩ := fits_i64 h1; simp at e1; subst e1; obtain ⟨n2, e2⟩ := fits_bool Tryz.underlying4 h2; simp at e2; subst e2; obtain ⟨n3, e3, k3⟩ := fits_EntryS h3; simp at e3; subst e3; exact ⟨⟨n0, n1, n2, n3⟩, rfl, k0, k1, trivial, k3⟩
theorem cells243 : Tryz.prog.cellsOf 243 = 6 := by kernel_rfl
theorem lenF6 {α : Type} {l : List α} (h : l.length = 6) : ∃ x0 x1 x2 x3 x4 x5, l = [x0, x1, x2, x3, x4, x5] := by
  match l, h with
  | [x0, x1, x2, x3, x4, x5], _ => exact ⟨x0, x1, x2, x3, x4, x5, rfl⟩
theorem fits_Sub {D : Nat} {ds : List CD} (h : Fits Tryz.prog D 243 ds) : ∃ x : Sub, ds = x.row ∧ x.fits := by
  obtain ⟨hl, D', hf⟩ := fits_struct Tryz.underlying243 h; rw [cells243] at hl; obtain ⟨d0, d1, d2, d3, d4, d5, rfl⟩ := lenF6 hl; simp [cells3, cells9, cells241] at hf; obtain ⟨h0, h1, h2⟩ := hf; obtain ⟨n0, e0, k0⟩ := fits_i64 h0; simp at e0; subst e0; obtain ⟨n1, e1, k1⟩ := fits_string Tryz.underlying9 h1; simp at e1; subst e1; obtain ⟨n2, e2, k2⟩ := fits_Ring h2; simp [Ring.row] at e2; obtain ⟨e2_0, e2_1, e2_2, e2_3⟩ := e2; subst e2_0 e2_1 e2_2 e2_3; exact ⟨⟨n0, n1, n2⟩, rfl, k0, (by rw [mL] at k1; exact k1), k2⟩
theorem fits_SubS {D : Nat} {ds : List CD} (h : Fits Tryz.prog D 53 ds) : ∃ l : List Sub, ds = [.s (l.map Sub.row)] ∧ l.length ≤ 9223372036854775807 ∧ ∀ y ∈ l, y.fits := by
  obtain ⟨rows, rfl, h1, D', h2⟩ := fits_slice Tryz.underlying53 h; obtain ⟨l, rfl, hl⟩ := rows_map (f := Sub.row) (ok := Sub.fits) rows (fun row hrow => fits_Sub (h2 row hrow).2); exact ⟨l, rfl, by simpa [mL] using h1, hl⟩
theorem cells55 : Tryz.prog.cellsOf 55 = 4 := by kernel_rfl
theorem cells52 : Tryz.prog.cellsOf 52 = 1 := by kernel_rfl
theorem cells53 : Tryz.prog.cellsOf 53 = 1 := by kernel_rfl
theorem fits_Hub {D : Nat} {ds : List CD} (h : Fits Tryz.prog D 55 ds) : ∃ x : Hub, ds = x.row ∧ x.fits := by
  obtain ⟨hl, D', hf⟩ := fits_struct Tryz.underlying55 h; rw [cells55] at hl; obtain ⟨d0, d1, d2, d3, rfl⟩ := lenF4 hl; simp [cells3, cells4, cells52, cells53] at hf; obtain ⟨h0, h1, h2, h3⟩ := hf; obtain ⟨n0, e0⟩ := fits_bool Tryz.underlying4 h0; simp at e0; subst e0; obtain ⟨n1, e1, k1⟩ := fits_DocS h1; simp at e1; subst e1; obtain ⟨n2, e2, k2⟩ := fits_SubS h2; simp at e2; subst e2; obtain ⟨n3, e3, k3⟩ := fits_i64 h3; simp at e3; subst e3; exact ⟨⟨n0, n1, n2, n3⟩, rfl, trivial, k1, k2, k3⟩
theorem cells90 : Tryz.prog.cellsOf 90 = 7 := by kernel_rfl
theorem lenF7 {α : Type} {l : List α} (h : l.length = 7) : ∃ x0 x1 x2 x3 x4 x5 x6, l = [x0, x1, x2, x3, x4, x5, x6] := by
  match l, h with
  | [x0, x1, x2, x3, x4, x5, x6], _ => exact ⟨x0, x1, x2, x3, x4, x5, x6, rfl⟩
theorem fits_Call {D : Nat} {ds : List CD} (h : Fits Tryz.prog D 90 ds) : ∃ x : Call, ds = x.row ∧ x.fits := by
  obtain ⟨hl, D', hf⟩ := fits_struct Tryz.underlying90 h; rw [cells90] at hl; obtain ⟨d0, d1, d2, d3, d4, d5, d6, rfl⟩ := lenF7 hl; simp [cells3, cells9, cells22, cells88] at hf; obtain ⟨h0, h1, h2, h3, h4, h5, h6⟩ := hf; obtain ⟨n0, e0, k0⟩ := fits_i64 h0; simp at e0; subst e0; obtain ⟨n1, e1, k1⟩ := fits_string Tryz.underlying9 h1; simp at e1; subst e1; obtain ⟨n2, e2, k2⟩ := fits_i64 h2; simp at e2; subst e2; obtain ⟨n3, e3, k3⟩ := fits_i64 h3; simp at e3; subst e3; obtain ⟨n4, e4, k4⟩ := fits_i64 h4; simp at e4; subst e4; obtain ⟨n5, e5, k5⟩ := fits_PartS h5; simp at e5; subst e5; obtain ⟨n6, e6, k6⟩ := fits_ints h6; simp at e6; subst e6; exact ⟨⟨n0, n1, n2, n3, n4, n5, n6⟩, rfl, k0, (by rw [mL] at k1; exact k1), k2, k3, k4, k5, k6⟩
theorem cells229 : Tryz.prog.cellsOf 229 = 4 := by kernel_rfl
theorem fits_Answer {D : Nat} {ds : List CD} (h : Fits Tryz.prog D 229 ds) : ∃ x : Answer, ds = x.row ∧ x.fits := by
  obtain ⟨hl, D', hf⟩ := fits_struct Tryz.underlying229 h; rw [cells229] at hl; obtain ⟨d0, d1, d2, d3, rfl⟩ := lenF4 hl; simp [cells3, cells22, cells23] at hf; obtain ⟨h0, h1, h2, h3⟩ := hf; obtain ⟨n0, e0, k0⟩ := fits_i64 h0; simp at e0; subst e0; obtain ⟨n1, e1, k1⟩ := fits_i64 h1; simp at e1; subst e1; obtain ⟨n2, e2, k2⟩ := fits_ints h2; simp at e2; subst e2; obtain ⟨n3, e3, k3⟩ := fits_EntryS h3; simp at e3; subst e3; exact ⟨⟨n0, n1, n2, n3⟩, rfl, k0, k1, k2, k3⟩
theorem cells231 : Tryz.prog.cellsOf 231 = 15 := by kernel_rfl
theorem lenF15 {α : Type} {l : List α} (h : l.length = 15) : ∃ x0 x1 x2 x3 x4 x5 x6 x7 x8 x9 x10 x11 x12 x13 x14, l = [x0, x1, x2, x3, x4, x5, x6, x7, x8, x9, x10, x11, x12, x13, x14] := by
  match l, h with
  | [x0, x1, x2, x3, x4, x5, x6, x7, x8, x9, x10, x11, x12, x13, x14], _ => exact ⟨x0, x1, x2, x3, x4, x5, x6, x7, x8, x9, x10, x11, x12, x13, x14, rfl⟩
theorem fits_Task {D : Nat} {ds : List CD} (h : Fits Tryz.prog D 231 ds) : ∃ x : Task, ds = x.row ∧ x.fits := by
  obtain ⟨hl, D', hf⟩ := fits_struct Tryz.underlying231 h; rw [cells231] at hl; obtain ⟨d0, d1, d2, d3, d4, d5, d6, d7, d8, d9, d10, d11, d12, d13, d14, rfl⟩ := lenF15 hl; simp [cells3, cells90, cells229] at hf; obtain ⟨h0, h1, h2, h3, h4, h5⟩ := hf; obtain ⟨n0, e0, k0⟩ := fits_Call h0; simp [Call.row] at e0; obtain ⟨e0_0, e0_1, e0_2, e0_3, e0_4, e0_5, e0_6⟩ := e0; subst e0_0 e0_1 e0_2 e0_3 e0_4 e0_5 e0_6; obtain ⟨n1, e1, k1⟩ := fits_i64 h1; simp at e1; subst e1; obtain ⟨n2, e2, k2⟩ := fits_i64 h2; simp at e2; subst e2; obtain ⟨n3, e3, k3⟩ := fits_i64 h3; simp at e3; subst e3; obtain ⟨n4, e4, k4⟩ := fits_i64 h4; simp at e4; subst e4; obtain ⟨n5, e5, k5⟩ := fits_Answer h5; simp [Answer.row] at e5; obtain ⟨e5_0, e5_1, e5_2, e5_3⟩ := e5; subst e5_0 e5_1 e5_2 e5_3; exact ⟨⟨n0, n1, n2, n3, n4, n5⟩, rfl, k0, k1, k2, k3, k4, k5⟩
theorem fits_TaskS {D : Nat} {ds : List CD} (h : Fits Tryz.prog D 63 ds) : ∃ l : List Task, ds = [.s (l.map Task.row)] ∧ l.length ≤ 9223372036854775807 ∧ ∀ y ∈ l, y.fits := by
  obtain ⟨rows, rfl, h1, D', h2⟩ := fits_slice Tryz.underlying63 h; obtain ⟨l, rfl, hl⟩ := rows_map (f := Task.row) (ok := Task.fits) rows (fun row hrow => fits_Task (h2 row hrow).2); exact ⟨l, rfl, by simpa [mL] using h1, hl⟩
theorem cells226 : Tryz.prog.cellsOf 226 = 2 := by kernel_rfl
theorem lenF2 {α : Type} {l : List α} (h : l.length = 2) : ∃ x0 x1, l = [x0, x1] := by
  match l, h with
  | [x0, x1], _ => exact ⟨x0, x1, rfl⟩
theorem fits_Queue {D : Nat} {ds : List CD} (h : Fits Tryz.prog D 226 ds) : ∃ x : Queue, ds = x.row ∧ x.fits := by
  obtain ⟨hl, D', hf⟩ := fits_struct Tryz.underlying226 h; rw [cells226] at hl; obtain ⟨d0, d1, rfl⟩ := lenF2 hl; simp [cells9, cells22] at hf; obtain ⟨h0, h1⟩ := hf; obtain ⟨n0, e0, k0⟩ := fits_string Tryz.underlying9 h0; simp at e0; subst e0; obtain ⟨n1, e1, k1⟩ := fits_ints h1; simp at e1; subst e1; exact ⟨⟨n0, n1⟩, rfl, (by rw [mL] at k0; exact k0), k1⟩
theorem fits_QueueS {D : Nat} {ds : List CD} (h : Fits Tryz.prog D 62 ds) : ∃ l : List Queue, ds = [.s (l.map Queue.row)] ∧ l.length ≤ 9223372036854775807 ∧ ∀ y ∈ l, y.fits := by
  obtain ⟨rows, rfl, h1, D', h2⟩ := fits_slice Tryz.underlying62 h; obtain ⟨l, rfl, hl⟩ := rows_map (f := Queue.row) (ok := Queue.fits) rows (fun row hrow => fits_Queue (h2 row hrow).2); exact ⟨l, rfl, by simpa [mL] using h1, hl⟩
theorem cells65 : Tryz.prog.cellsOf 65 = 8 := by kernel_rfl
theorem lenF8 {α : Type} {l : List α} (h : l.length = 8) : ∃ x0 x1 x2 x3 x4 x5 x6 x7, l = [x0, x1, x2, x3, x4, x5, x6, x7] := by
  match l, h with
  | [x0, x1, x2, x3, x4, x5, x6, x7], _ => exact ⟨x0, x1, x2, x3, x4, x5, x6, x7, rfl⟩
theorem cells62 : Tryz.prog.cellsOf 62 = 1 := by kernel_rfl
theorem cells63 : Tryz.prog.cellsOf 63 = 1 := by kernel_rfl
theorem fits_World {D : Nat} {ds : List CD} (h : Fits Tryz.prog D 65 ds) : ∃ x : Wld, ds = x.row ∧ x.fits := by
  obtain ⟨hl, D', hf⟩ := fits_struct Tryz.underlying65 h; rw [cells65] at hl; obtain ⟨d0, d1, d2, d3, d4, d5, d6, d7, rfl⟩ := lenF8 hl; simp [cells3, cells22, cells55, cells62, cells63] at hf; obtain ⟨h0, h1, h2, h3, h4⟩ := hf; obtain ⟨n0, e0, k0⟩ := fits_Hub h0; simp [Hub.row] at e0; obtain ⟨e0_0, e0_1, e0_2, e0_3⟩ := e0; subst e0_0 e0_1 e0_2 e0_3; obtain ⟨n1, e1, k1⟩ := fits_ints h1; simp at e1; subst e1; obtain ⟨n2, e2, k2⟩ := fits_QueueS h2; simp at e2; subst e2; obtain ⟨n3, e3, k3⟩ := fits_TaskS h3; simp at e3; subst e3; obtain ⟨n4, e4, k4⟩ := fits_i64 h4; simp at e4; subst e4; exact ⟨⟨n0, n1, n2, n3, n4⟩, rfl, k0, k1, k2, k3, k4⟩
theorem fitsV_struct {D : Nat} {t : TypeId} {vd : VD} {fs : Array Field} (hu : Tryz.prog.underlying t = some (.struct fs)) (hc : Tryz.prog.cellsOf t ≠ 1) (h : FitsV Tryz.prog D t vd) : ∃ ds, vd = .agg ds ∧ Fits Tryz.prog D t ds := by
  cases vd with
  | c d =>
    have := (fits_struct hu h).1; exact absurd this.symm hc
  | agg ds => exact ⟨ds, rfl, h.2⟩
end Go.Proofs.YtdfdabjdfmamgaaGreat

