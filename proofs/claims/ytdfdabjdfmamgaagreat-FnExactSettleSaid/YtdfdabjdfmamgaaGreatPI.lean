import Derived.Test.YtdfdabjdfmamgaaGreatPH
import Derived.Test.YtdfdabjdfmamgaaGreatMG
import Derived.Shelf.RegionOpenPlain
namespace Go.Proofs.YtdfdabjdfmamgaaGreat
open Go.AM Go.RowKit
set_option maxRecDepth 100000
set_option maxHeartbeats 4000000
set_option linter.unusedVariables false
set_option linter.unusedSimpArgs false

theorem insSeen_shift (w : World) (us xs : List Value) (n i b o C bv ov Cv : Nat) (cs cv : Array Value) (T Tv : TypeId) (hul : us.length = n * 3) (hxl : xs.length = 3) (hi : i < n) (hroom : n + 1 ≤ C) (hC : C ≤ maxLen)
    (hb : w.heap[b]? = some (.cells cs T (0, 0))) (hfit : o + C * 3 ≤ cs.size) (hcs : ∀ j, j < n * 3 → cs.getD (o + j) undef = us.getD j undef) (h1 : ∀ v ∈ us, v.oneCell' = true)
    (hbv : w.heap[bv]? = some (.cells cv Tv (0, 0))) (hCv : 1 ≤ Cv) (hfv : ov + Cv * 3 ≤ cv.size) (hcv : ∀ j, j < 3 → cv.getD (ov + j) undef = xs.getD j undef) (h1v : ∀ v ∈ xs, v.oneCell' = true) (hne : bv ≠ b) :
    Calls Tryz.prog 318 #[.slice (some ⟨b, o, none⟩) n C, .int .i64 i, .slice (some ⟨bv, ov, none⟩) 1 Cv] w fun e w' =>
      e = .returned (.slice (some ⟨b, o, none⟩) (n + 1) C) ∧ Placed w w' (some b) b o C (n + 1) 3 (us.take (i * 3) ++ xs ++ us.drop (i * 3)) := by
  have u0 := run_underlying Tryz.underlying33
  have mixed : Tryz.prog.follows .mixedOrders = true := by kernel_rfl
  obtain ⟨i0, z0, hi0, hzs, hzb, hz0, hzc, -⟩ := (tt_ok 186 _ tt_186).info
  have hzs : i0.size = 3 := hzs
  have hC63 : C ≤ 9223372036854775807 := by unfold maxLen at hC; omega
  have hz1 : ¬ ((1 : Int) = 0) := by omega
  have hz2 : ¬ ((i : Int) = (n : Int)) := by omega
  have hdl : (us.drop (i * 3)).length = (n - i) * 3 := by rw [List.length_drop, hul, Nat.sub_mul]
  have hov : ∀ lb cb, (callFunc 342 #[.slice (some ⟨bv, ov, none⟩) 1 Cv, .slice (some ⟨b, o + (i * 3 + 3), none⟩) lb cb]).run Tryz.prog w = .ok (.value (.bool false)) w := fun lb cb => by
    rw [run_callFunc_extern Tryz.func342 (by kernel_rfl) (by kernel_rfl) (by kernel_rfl) (e := Extern.SlicesOverlaps.overlaps #[33, 33] #[4]) (by kernel_rfl),
      Lib.run_overlaps_apart w 33 4 186 Tryz.underlying33 3 Tryz.sizeOf186 ⟨bv, ov, none⟩ ⟨b, o + (i * 3 + 3), none⟩ 1 Cv lb cb hne Tv T cv.size cs.size (by simp [World.shape?, hbv]) (by simp [World.shape?, hb]) (by omega) (by simp [World.frozen?, hbv]) (by simp [World.frozen?, hbv])]
    rfl
  have hmm : (n + 1) * 3 ≤ C * 3 := Nat.mul_le_mul_right _ hroom
  have hii : i * 3 + 3 ≤ n * 3 := by have := Nat.mul_le_mul_right 3 (show i + 1 ≤ n by omega); omega
  have e1 : (i + 1) * 3 = i * 3 + 3 := Nat.succ_mul i 3
  have e2 : (n + 1) * 3 = n * 3 + 3 := Nat.succ_mul n 3
  have e3 : (n - i) * 3 = n * 3 - i * 3 := Nat.sub_mul n i 3
  obtain ⟨cs1, hcs1⟩ : ∃ c, c = (cs.toList.take (o + (i + 1) * 3) ++ us.drop (i * 3) ++ cs.toList.drop (o + (i + 1) * 3 + (us.drop (i * 3)).length)).toArray := ⟨_, rfl⟩
  obtain ⟨s1, g1⟩ := splice_get cs (o + (i + 1) * 3) (us.drop (i * 3)) (by omega)
  rw [← hcs1] at s1 g1
  have hcp1 : ∀ (W : World), W.heap = w.heap → ∀ ty dl dc sl sc, Nat.min sl dl = n - i → (Builtin.copy_ #[33, 33] ty #[.slice (some ⟨b, o + (i * 3 + 3), none⟩) dl dc, .slice (some ⟨b, o + i * 3, none⟩) sl sc]).run Tryz.prog W = .ok (goInt (n - i : Nat)) (W.setRow b cs1) := fun W hW ty dl dc sl sc hm => by
    have hb' : W.heap[b]? = some (.cells cs T (0, 0)) := by rw [hW]; exact hb
    rw [hcs1, e1]
    exact run_copyK Tryz.underlying33 hi0 hb' ⟨b, o + i * 3, none⟩ (us.drop (i * 3)) (n - i) hm (by rw [hdl, hzs])
      (fun j v hj => by
        rw [Addr.add_lit]
        refine cell_at hb' (o := o + i * 3) (vs := us.drop (i * 3)) (fun j hj => ?_) (by omega) j v hj
        rw [Nat.add_assoc, hcs _ (by omega)]
        simp [List.getD_eq_getElem?_getD])
      (fun v hv => h1 v (List.mem_of_mem_drop hv)) (by omega)
  obtain ⟨cs2, hcs2⟩ : ∃ c, c = (cs1.toList.take (o + i * 3) ++ xs ++ cs1.toList.drop (o + i * 3 + xs.length)).toArray := ⟨_, rfl⟩
  obtain ⟨s2, g2⟩ := splice_get cs1 (o + i * 3) xs (by omega)
  rw [← hcs2] at s2 g2
  have hcp2 : ∀ (W : World), W.heap[b]? = some (.cells cs1 T (0, 0)) → W.heap[bv]? = some (.cells cv Tv (0, 0)) → ∀ ty dl dc, 0 < dl → (Builtin.copy_ #[33, 33] ty #[.slice (some ⟨b, o + i * 3, none⟩) dl dc, .slice (some ⟨bv, ov, none⟩) 1 Cv]).run Tryz.prog W = .ok (goInt (1 : Nat)) (W.setRow b cs2) := fun W hW hWv ty dl dc hm => by
    rw [hcs2]
    exact run_copyK Tryz.underlying33 hi0 hW ⟨bv, ov, none⟩ xs 1 (by simp only [Nat.min_def]; split <;> omega) (by rw [hxl, hzs])
      (fun j v hj => by
        rw [Addr.add_lit]
        exact cell_at hWv (fun j hj => hcv j (by omega)) (by omega) j v hj)
      h1v (by omega)
  have hw1 : IntKind.i64.wrap ((i : Int) + 1) = (i : Int) + 1 := by rw [IntKind.wrap_i64]; omega
  have hb1 : (0 : Int) ≤ (i : Int) + 1 := by omega
  have hin : i ≤ n := by omega
  have htn : ((i : Int) + 1).toNat = i + 1 := by omega
  have hb2 : ¬ (C = i + 1) := by omega
  have hb3 : (i : Int) ≤ (n : Int) + 1 := by omega
  have hb4 : ¬ (C = i) := by omega
  go_enter Tryz.func318, Tryz.ntmps318
  go_wp2_with (simp only [hov])
  have hE := hcp1 w.drew rfl 3 (n - i) (C - (i + 1)) (n + 1 - i) (C - i) (by simp only [Nat.min_def]; split <;> omega)
  have hE2 := hcp2 (w.drew.setRow b cs1) (by simp [setRow_heap w.drew b cs cs1 T (0, 0) hb]) (by rw [setRow_other w.drew b bv cs1 hne]; exact hbv) 3 (n + 1 - i) (C - i) (by omega)
  have hP : Placed w ((w.drew.setRow b cs1).setRow b cs2) (some b) b o C (n + 1) 3 (us.take (i * 3) ++ xs ++ us.drop (i * 3)) := by
    refine ⟨⟨cs2, T, setRow_heap _ b cs1 cs2 T (0, 0) (setRow_heap w.drew b cs cs1 T (0, 0) hb), by omega, fun j hj => ?_⟩, hroom, hC, by simp, ⟨rfl, rfl, rfl⟩, .inr rfl, fun c _ hc => ?_⟩
    · rw [g2, g1]
      have hl : (us.take (i * 3)).length = i * 3 := by simp; omega
      simp only [List.getD_eq_getElem?_getD]
      rw [List.append_assoc]
      by_cases c1 : j < i * 3
      · rw [if_neg (by omega), if_neg (by omega), List.getElem?_append_left (by omega), List.getElem?_take, if_pos c1, hcs j (by omega)]
        simp
      · rw [List.getElem?_append_right (by omega), hl]
        by_cases c2 : j < i * 3 + 3
        · rw [if_pos (by omega), List.getElem?_append_left (by omega)]
          congr 2
          omega
        · rw [if_neg (by omega), if_pos (by omega), List.getElem?_append_right (by omega), List.getElem?_drop, List.getElem?_drop]
          congr 2
          omega
    · rw [setRow_other _ b c _ hc, setRow_other _ b c _ hc]; rfl
  clear hcs1 hcs2
  go_region
  go_wp2
  go_ret
  all_goals exact ⟨rfl, hP⟩

theorem insSeen_end (w : World) (a : Option Addr) (n C bv ov Cv : Nat) (r : Value) (w1 : World) (hnC : n ≤ C) (hC : C ≤ maxLen)
    (hr : ∀ ty, (Builtin.append_ #[33, 33] ty #[.slice a n C, .slice (some ⟨bv, ov, none⟩) 1 Cv]).run Tryz.prog w = .ok r w1) :
    Calls Tryz.prog 318 #[.slice a n C, .int .i64 n, .slice (some ⟨bv, ov, none⟩) 1 Cv] w fun e w' => e = .returned r ∧ w' = w1 := by
  have u0 := run_underlying Tryz.underlying33
  have mixed : Tryz.prog.follows .mixedOrders = true := by kernel_rfl
  have hC63 : C ≤ 9223372036854775807 := by unfold maxLen at hC; omega
  have hz1 : ¬ ((1 : Int) = 0) := by omega
  cases a with
  | none =>
    by_cases hc : C = n
    · subst hc
      go_enter Tryz.func318, Tryz.ntmps318
      go_wp2_with (at_builtin; refine Lib.wpList_append_run _ rfl _ _ _ _ rfl _ _ rfl rfl _ _ (hr _) ?_)
      go_ret
      exact ⟨rfl, rfl⟩
    · go_enter Tryz.func318, Tryz.ntmps318
      go_wp2_with (at_builtin; refine Lib.wpList_append_run _ rfl _ _ _ _ rfl _ _ rfl rfl _ _ (hr _) ?_)
      go_ret
      exact ⟨rfl, rfl⟩
  | some q =>
    by_cases hc : C = n
    · subst hc
      go_enter Tryz.func318, Tryz.ntmps318
      go_wp2_with (at_builtin; refine Lib.wpList_append_run _ rfl _ _ _ _ rfl _ _ rfl rfl _ _ (hr _) ?_)
      go_ret
      exact ⟨rfl, rfl⟩
    · go_enter Tryz.func318, Tryz.ntmps318
      go_wp2_with (at_builtin; refine Lib.wpList_append_run _ rfl _ _ _ _ rfl _ _ rfl rfl _ _ (hr _) ?_)
      go_ret
      exact ⟨rfl, rfl⟩

theorem insSeen_grow (w : World) (us xs : List Value) (n i b o C bv ov Cv : Nat) (cs cv : Array Value) (T Tv : TypeId) (hul : us.length = n * 3) (hxl : xs.length = 3) (hi : i < n) (hnc : n ≤ C) (hroom : C < n + 1) (hbig : (n + 1) * ti186.bytes ≤ 140737488355328)
    (hb : w.heap[b]? = some (.cells cs T (0, 0))) (hfit : o + C * 3 ≤ cs.size) (hcs : ∀ j, j < n * 3 → cs.getD (o + j) undef = us.getD j undef) (h1 : ∀ v ∈ us, v.oneCell' = true)
    (hbv : w.heap[bv]? = some (.cells cv Tv (0, 0))) (hCv : 1 ≤ Cv) (hfv : ov + Cv * 3 ≤ cv.size) (hcv : ∀ j, j < 3 → cv.getD (ov + j) undef = xs.getD j undef) (h1v : ∀ v ∈ xs, v.oneCell' = true) :
    Calls Tryz.prog 318 #[.slice (some ⟨b, o, none⟩) n C, .int .i64 i, .slice (some ⟨bv, ov, none⟩) 1 Cv] w fun e w' =>
      ∃ nC, e = .returned (.slice (some ⟨w.heap.size, 0, none⟩) (n + 1) nC) ∧ Placed w w' (some b) w.heap.size 0 nC (n + 1) 3 (us.take (i * 3) ++ xs ++ us.drop (i * 3)) := by
  have u0 := run_underlying Tryz.underlying33
  have mixed : Tryz.prog.follows .mixedOrders = true := by kernel_rfl
  obtain ⟨i0, z0, hi0, hzs, hzb, hz0, hzc, -⟩ := (tt_ok 186 _ tt_186).info
  have hzz := zero_size hzc
  have hzs : i0.size = 3 := hzs
  have hzb : i0.bytes = ti186.bytes := hzb
  have hby : 0 < ti186.bytes := by decide
  have hzz : z0.cells.size = 3 := hzz
  have hnb : (n + 1) ≤ 140737488355328 := Nat.le_trans (Nat.le_mul_of_pos_right _ hby) hbig
  have hz1 : ¬ ((1 : Int) = 0) := by omega
  have hz2 : ¬ ((i : Int) = (n : Int)) := by omega
  have hz3 : (C : Int) < (n : Int) + 1 := by omega
  have hmm : n * 3 ≤ C * 3 := Nat.mul_le_mul_right _ hnc
  have hii : i * 3 + 3 ≤ n * 3 := by have := Nat.mul_le_mul_right 3 (show i + 1 ≤ n by omega); omega
  have e1 : (i + 1) * 3 = i * 3 + 3 := Nat.succ_mul i 3
  have e2 : (n + 1) * 3 = n * 3 + 3 := Nat.succ_mul n 3
  have e3 : (n - i) * 3 = n * 3 - i * 3 := Nat.sub_mul n i 3
  have hdl : (us.drop (i * 3)).length = (n - i) * 3 := by rw [List.length_drop, hul, Nat.sub_mul]
  have htl : (us.take (i * 3)).length = i * 3 := by simp; omega
  have hbw : b < w.heap.size := lt_of_heap hb
  have hvw : bv < w.heap.size := lt_of_heap hbv
  have hkk : (n : Int) + 1 - (i : Int) = ((n + 1 - i : Nat) : Int) := by omega
  have hik : i + (n + 1 - i) = n + 1 := by omega
  have hold : (Builtin.firstCells i0.size i (.slice (some ⟨b, o, none⟩) i C)).run Tryz.prog w.drew = .ok (us.take (i * 3)).toArray w.drew := by
    rw [hzs]
    exact run_firstCells_some w.drew 3 i ⟨b, o, none⟩ i C (us.take (i * 3)) (by rw [htl]) (fun j v hj => by
      rw [Addr.add_lit]
      exact cell_at (w := w.drew) (o := o) (vs := us.take (i * 3)) (cs := cs) (T := T) hb (fun j hj => by
        rw [hcs _ (by omega)]
        rw [htl] at hj
        simp only [List.getD_eq_getElem?_getD, List.getElem?_take, if_pos hj]) (by omega) j v hj)
  have hrz : ∀ ty, (Builtin.append_ #[33, 3] ty #[.slice (some ⟨b, o, none⟩) i C, .int .i64 ((n : Int) + 1 - (i : Int))]).run Tryz.prog w =
      .ok (.slice (some ⟨w.heap.size, 0, none⟩) (n + 1) (grownCap w (n + 1) C 186)) (w.drew.alloc (.cells ((us.take (i * 3)).toArray ++ Builtin.zeroCells z0.cells (n + 1 - i) ++ Builtin.zeroCells z0.cells (grownCap w (n + 1) C 186 - (n + 1))) 186)) := fun ty => by
    have h := Lib.run_append_grow_zeros w 33 3 ty 186 i0 z0 .i64 .i64 Tryz.underlying33 Tryz.underlying3 hi0 hz0 (some ⟨b, o, none⟩) i C (us.take (i * 3)) hold (n + 1 - i) (by omega) (by omega) (by omega) (by omega) (by rw [hzb]; have := Nat.mul_le_mul_right ti186.bytes (show n + 1 - i ≤ n + 1 by omega); omega) (by rw [hzb, hik]; exact growslice_fits hroom hbig)
    rw [hik] at h
    rw [hkk]
    exact h
  obtain ⟨G, hG⟩ : ∃ G, G = grownCap w (n + 1) C 186 := ⟨_, rfl⟩
  obtain ⟨ROW, hROW⟩ : ∃ ROW : Array Value, ROW = (us.take (i * 3)).toArray ++ Builtin.zeroCells z0.cells (n + 1 - i) ++ Builtin.zeroCells z0.cells (G - (n + 1)) := ⟨_, rfl⟩
  rw [← hG] at hrz
  rw [← hROW] at hrz
  have hGn : n + 1 ≤ G := by rw [hG]; exact grownCap_ge w _ _ _
  have hGm : G ≤ maxLen := by rw [hG]; exact grownCap_le_maxLen w (n + 1) C 186 (by unfold maxLen; omega)
  have hG63 : G ≤ 9223372036854775807 := by unfold maxLen at hGm; omega
  have hRs : ROW.size = G * 3 := by
    rw [hROW]
    simp only [Array.size_append, List.size_toArray, zeros_size, hzz, htl]
    rw [← Nat.add_mul, ← Nat.add_mul]
    congr 1
    omega
  have hGK : (n + 1) * 3 ≤ G * 3 := Nat.mul_le_mul_right _ hGn
  have hRg : ∀ j, j < i * 3 → ROW.getD j undef = us.getD j undef := by
    intro j hj
    rw [hROW]
    simp only [Array.getD_eq_getD_getElem?]
    rw [Array.getElem?_append_left (by simp [zeros_size]; omega), Array.getElem?_append_left (by simp; omega)]
    simp [List.getElem?_take, hj, List.getD_eq_getElem?_getD]
  obtain ⟨W1, hW1⟩ : ∃ W1, W1 = w.drew.alloc (.cells ROW 186) := ⟨_, rfl⟩
  rw [← hW1] at hrz
  have hN : W1.heap[w.heap.size]? = some (.cells ROW 186 (0, 0)) := by rw [hW1]; exact heap_new w.drew _
  have hO : ∀ c, c < w.heap.size → W1.heap[c]? = w.heap[c]? := fun c hc => by rw [hW1]; exact heap_old w.drew _ hc
  have hS : W1.heap.size = w.heap.size + 1 := by rw [hW1]; simp
  obtain ⟨cs1, hcs1⟩ : ∃ c, c = (ROW.toList.take (i * 3) ++ xs ++ ROW.toList.drop (i * 3 + xs.length)).toArray := ⟨_, rfl⟩
  obtain ⟨s1, g1⟩ := splice_get ROW (i * 3) xs (by omega)
  rw [← hcs1] at s1 g1
  have hcpA := run_copyK (P := Tryz.prog) (w := W1) (ty := 3) Tryz.underlying33 hi0 (dl := n + 1 - i) (dc := G - i) (o := i * 3) hN ⟨bv, ov, none⟩ (sl := 1) (sc := Cv) xs 1 (by simp only [Nat.min_def]; split <;> omega) (by rw [hxl, hzs])
    (fun j v hj => by
      rw [Addr.add_lit]
      exact cell_at (by rw [hO _ hvw]; exact hbv) (fun j hj => hcv j (by omega)) (by omega) j v hj) h1v (by omega)
  rw [← hcs1] at hcpA
  have hN1 : (W1.setRow w.heap.size cs1).heap[w.heap.size]? = some (.cells cs1 186 (0, 0)) := setRow_heap _ _ _ _ _ _ hN
  obtain ⟨cs2, hcs2⟩ : ∃ c, c = (cs1.toList.take (i * 3 + 3) ++ us.drop (i * 3) ++ cs1.toList.drop (i * 3 + 3 + (us.drop (i * 3)).length)).toArray := ⟨_, rfl⟩
  obtain ⟨s2, g2⟩ := splice_get cs1 (i * 3 + 3) (us.drop (i * 3)) (by omega)
  rw [← hcs2] at s2 g2
  have hbN : b ≠ w.heap.size := by omega
  have hcpB := run_copyK (P := Tryz.prog) (w := (W1.setRow w.heap.size cs1).drew) (ty := 3) Tryz.underlying33 hi0 (dl := n - i) (dc := G - (i + 1)) (o := i * 3 + 3) hN1 ⟨b, o + i * 3, none⟩ (sl := n - i) (sc := C - i) (us.drop (i * 3)) (n - i) (by simp only [Nat.min_def]; split <;> omega) (by rw [hdl, hzs])
    (fun j v hj => by
      rw [Addr.add_lit]
      have hb' : (W1.setRow w.heap.size cs1).drew.heap[b]? = some (.cells cs T (0, 0)) := by
        show (W1.setRow w.heap.size cs1).heap[b]? = _
        rw [setRow_other _ _ _ _ hbN, hO _ hbw]; exact hb
      refine cell_at hb' (o := o + i * 3) (vs := us.drop (i * 3)) (fun j hj => ?_) (by omega) j v hj
      rw [Nat.add_assoc, hcs _ (by omega)]
      simp [List.getD_eq_getElem?_getD])
    (fun v hv => h1 v (List.mem_of_mem_drop hv)) (by omega)
  rw [← hcs2] at hcpB
  have hP : Placed w ((W1.setRow w.heap.size cs1).drew.setRow w.heap.size cs2) (some b) w.heap.size 0 G (n + 1) 3 (us.take (i * 3) ++ xs ++ us.drop (i * 3)) := by
    refine ⟨⟨cs2, 186, setRow_heap _ _ cs1 cs2 _ (0, 0) hN1, by omega, fun j hj => ?_⟩, hGn, hGm, ?_, ?_, .inl (Nat.le_refl _), fun c hc hne => ?_⟩
    · rw [Nat.zero_add, g2, g1]
      simp only [List.getD_eq_getElem?_getD]
      rw [List.append_assoc]
      by_cases c1 : j < i * 3
      · rw [if_neg (by omega), if_neg (by omega), List.getElem?_append_left (by omega), List.getElem?_take, if_pos c1, hRg j c1]
        simp [List.getD_eq_getElem?_getD]
      · rw [List.getElem?_append_right (by omega), htl]
        by_cases c2 : j < i * 3 + 3
        · rw [if_neg (by omega), if_pos (by omega), List.getElem?_append_left (by omega)]
        · rw [if_pos (by omega), List.getElem?_append_right (by omega), List.getElem?_drop, List.getElem?_drop]
          congr 2
          omega
    · simp [hS]
    · rw [hW1]; exact ⟨rfl, rfl, rfl⟩
    · rw [setRow_other _ _ c _ hne]
      show (W1.setRow w.heap.size cs1).heap[c]? = _
      rw [setRow_other _ _ c _ hne, hO c hc]
  have hw1 : IntKind.i64.wrap ((i : Int) + 1) = (i : Int) + 1 := by rw [IntKind.wrap_i64]; omega
  have hb1 : (0 : Int) ≤ (i : Int) + 1 := by omega
  have hin : i ≤ n := by omega
  have htn : ((i : Int) + 1).toNat = i + 1 := by omega
  have hGi : ¬ (G = i) := by omega
  have hGim : ¬ (G = i + 1) := by omega
  have hci : ¬ (C = i) := by omega
  have hb3 : (i : Int) ≤ (n : Int) := by omega
  clear hkk hik hold hROW hG hcs1 hcs2 hN hN1 hO hS hRs hRg hW1
  go_enter Tryz.func318, Tryz.ntmps318
  go_wp2_with (first
    | (at_builtin; refine Lib.wpList_append_run _ rfl _ _ _ _ rfl _ _ rfl rfl _ _ (hrz _) ?_)
    | (at_builtin; refine wpList_copy_runA _ rfl _ _ 33 33 rfl _ _ rfl rfl hcpA ?_))
  go_region
  go_wp2
  go_ret
  all_goals exact ⟨_, rfl, hP⟩

theorem insSeen_c : InsertC Tryz.prog 318 3 ti186.bytes := by
  refine ⟨⟨_, Tryz.func318, by kernel_rfl, by kernel_rfl⟩, fun w us xs n i s v ob bv0 hul hxl hi hbig hs hv hap => ?_⟩
  obtain ⟨i0, z0, hi0, hzs, hzb, hz0, hzc, -⟩ := (tt_ok 186 _ tt_186).info
  have hzz := zero_size hzc
  have hzs : i0.size = 3 := hzs
  have hzb : i0.bytes = ti186.bytes := hzb
  have hby : 0 < ti186.bytes := by decide
  have hzz : z0.cells.size = 3 := hzz
  have hnb : (n + 1) ≤ 140737488355328 := Nat.le_trans (Nat.le_mul_of_pos_right _ hby) hbig
  rcases hv with ⟨h0, -⟩ | ⟨bv, ov, Cv, cv, Tv, rfl, rfl, hbv, hCv, hCvm, hfv, hcv, h1v⟩
  · omega
  have hcellv : ∀ j v, xs[j]? = some v → w.cell? (Addr.add ⟨bv, ov, none⟩ j) = some v := fun j v hj => by
    rw [Addr.add_lit]
    exact cell_at hbv (fun j hj => hcv j (by omega)) (by omega) j v hj
  -- a new row of what was there and of one more
  have fresh : ∀ (C0 nC : Nat) (rest : Array Value) (ob : Option Nat), n + 1 ≤ nC → nC ≤ maxLen → rest.size = (nC - (n + 1)) * 3 →
      Placed w (w.drew.alloc (.cells (us.toArray ++ xs.toArray ++ rest) 186)) ob w.heap.size 0 nC (n + 1) 3 (us.take (n * 3) ++ xs ++ us.drop (n * 3)) := by
    intro C0 nC rest ob h1 h2 h3
    have e : nC * 3 = n * 3 + 3 + (nC - (n + 1)) * 3 := by rw [← Nat.succ_mul, ← Nat.add_mul]; congr 1; omega
    refine ⟨⟨_, _, heap_new w.drew _, by simp [hul, hxl, h3]; omega, fun j hj => ?_⟩, h1, h2, by simp, ⟨rfl, rfl, rfl⟩, .inl (Nat.le_refl _), fun c hc _ => heap_old w.drew _ hc⟩
    rw [List.take_of_length_le (by omega), List.drop_eq_nil_of_le (by omega), List.append_nil, Nat.zero_add]
    have e2 : (n + 1) * 3 = n * 3 + 3 := Nat.succ_mul n 3
    simp only [Array.getD_eq_getD_getElem?, List.getD_eq_getElem?_getD]
    rw [Array.getElem?_append_left (by simp; omega), List.append_toArray, List.getElem?_toArray]
  rcases hs with ⟨rfl, rfl, a, rfl⟩ | ⟨b, o, C, cs, T, rfl, rfl, hb, hnC, hCm, hfit, hcs, h1⟩
  · obtain rfl : i = 0 := by omega
    have hun : us = [] := List.eq_nil_of_length_eq_zero (by omega)
    subst hun
    have hrun := fun ty => run_append_empty (P := Tryz.prog) (w := w) (ty := ty) Tryz.underlying33 hi0 hz0 a ⟨bv, ov, none⟩ 1 Cv xs (by rw [hxl, hzs]) hcellv (by omega) (by omega) (by rw [hzb]; omega)
    refine (insSeen_end w a 0 0 bv ov Cv _ _ (Nat.le_refl _) (by unfold maxLen; omega) hrun).mono ?_
    rintro e w' ⟨rfl, rfl⟩
    have hge := grownCap_ge w 1 0 186
    have hcm := grownCap_le_maxLen w 1 0 186 (by unfold maxLen; omega)
    refine ⟨_, _, _, rfl, ?_⟩
    have := fresh 0 (grownCap w 1 0 186) (Builtin.zeroCells z0.cells (grownCap w 1 0 186 - 1)) none hge hcm (by rw [zeros_size, hzz])
    simpa using this
  · by_cases hin : i = n
    · subst hin
      by_cases hroom : i + 1 ≤ C
      · have hmm : (i + 1) * 3 ≤ C * 3 := Nat.mul_le_mul_right _ hroom
        have e2 : (i + 1) * 3 = i * 3 + 3 := Nat.succ_mul i 3
        have hrun := fun ty => Go.AM.run_append_room (P := Tryz.prog) (ty := ty) (c := Cv) (n := i) (m := 1) Tryz.underlying33 hi0 hb ⟨bv, ov, none⟩ xs (by rw [hxl, hzs]) hcellv h1v hroom (by rw [hzs]; exact hfit)
        refine (insSeen_end w _ i C bv ov Cv _ _ hnC hCm hrun).mono ?_
        rintro e w' ⟨rfl, rfl⟩
        obtain ⟨g0, g⟩ := splice_get cs (o + i * i0.size) xs (by rw [hzs]; omega)
        refine ⟨_, _, _, rfl, ⟨_, _, setRow_heap w b cs _ T (0, 0) hb, by rw [g0]; exact hfit, fun j hj => ?_⟩, hroom, hCm, by simp, ⟨rfl, rfl, rfl⟩, .inr rfl, fun c _ hc => setRow_other w b c _ hc⟩
        rw [g, hzs, List.take_of_length_le (by omega), List.drop_eq_nil_of_le (by omega), List.append_nil]
        by_cases c1 : j < i * 3
        · rw [if_neg (by omega), hcs j c1]
          simp only [List.getD_eq_getElem?_getD]
          rw [List.getElem?_append_left (by omega)]
        · rw [if_pos (by omega)]
          simp only [List.getD_eq_getElem?_getD]
          rw [List.getElem?_append_right (by omega)]
          congr 2
          omega
      · have hrun := fun ty => run_append_grow (P := Tryz.prog) w 33 ty 186 i0 z0 Tryz.underlying33 hi0 hz0 ⟨b, o, none⟩ i C us (by rw [hzs]; exact hul) (fun j v hj => by
            rw [Addr.add_lit]
            have := Nat.mul_le_mul_right 3 hnC
            exact cell_at hb (fun j hj => hcs j (by omega)) (by omega) j v hj) ⟨bv, ov, none⟩ 1 Cv xs (by rw [hxl, hzs]) hcellv (by omega) (by omega) (by rw [hzb]; exact growslice_fits (by omega) hbig)
        refine (insSeen_end w _ i C bv ov Cv _ _ hnC hCm hrun).mono ?_
        rintro e w' ⟨rfl, rfl⟩
        have hge := grownCap_ge w (i + 1) C 186
        have hcm := grownCap_le_maxLen w (i + 1) C 186 (by unfold maxLen; omega)
        exact ⟨_, _, _, rfl, fresh C _ _ _ hge hcm (by rw [zeros_size, hzz])⟩
    · by_cases hroom : n + 1 ≤ C
      · refine (insSeen_shift w us xs n i b o C bv ov Cv cs cv T Tv hul hxl (by omega) hroom hCm hb hfit hcs h1 hbv hCv hfv (fun j hj => hcv j (by omega)) h1v (fun h => hap b rfl (by rw [h]))).mono ?_
        rintro e w' ⟨rfl, hp⟩
        exact ⟨_, _, _, rfl, hp⟩
      · refine (insSeen_grow w us xs n i b o C bv ov Cv cs cv T Tv hul hxl (by omega) hnC (by omega) hbig hb hfit hcs h1 hbv hCv hfv (fun j hj => hcv j (by omega)) h1v).mono ?_
        rintro e w' ⟨nC, rfl, hp⟩
        exact ⟨_, _, _, rfl, hp⟩
end Go.Proofs.YtdfdabjdfmamgaaGreat

