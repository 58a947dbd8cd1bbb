/-
  The abstract machine is sound: slices that are made, appended to, stored into.
-/
import Derived.Test.YtljhopjmmcmioaaAmG
namespace Go.AM
open Go.RowKit

/-- a new block of rows -/
theorem Rep.newRows {w0 : World} {base : Bs} {st : ASt} {a : Act} {w : World} (hR : Rep w0 base st a w) {h : AH} {E : Nat → Nat → Prop} {E0 : Nat → Nat → Prop} (H0 : HRel base st.h w E0) (H : HRel base h w E) (tr : Tr st.h.M w h.M w)
    (k C : Nat) (T : TypeId) (sz : Nat) (hsz : 0 < sz) (rows : List (List CD)) (own : Bool) (cs : Array Value) (w' : World) (hw' : w'.heap = w.heap.push (.cells cs T)) (hso : Same w w')
    (hl : rows.length ≤ C) (hC : C ≤ maxLen) (hfit : C * sz ≤ cs.size)
    (hrl : ∀ row ∈ rows, row.length = sz) (F : Nat → Nat → Nat → Prop)
    (hr : ∀ (i j : Nat) (row : List CD) (d : CD), rows[i]? = some row → row[j]? = some d → Rd w own (F i j) (cs.getD (i * sz + j) undef) d)
    (hF : ∀ i j c, F i j c → ¬ h.M c) (hown : own = true → ∀ i j c, F i j c → ((∃ j, E0 j c) ∨ st.h.M c ∨ E k c) ∧ ∀ j, j ≠ k → ¬ E j c)
    (hinj : own = true → ∀ i j i' j' c, F i j c → F i' j' c → i = i' ∧ j = j') :
    Moved w0 base st a w ((k, .rows (some (w.heap.size, 0, C)) sz rows own) :: h) w' := by
  have hold : ∀ b, b < w.heap.size → w'.heap[b]? = w.heap[b]? := fun b hb => by rw [hw', Array.getElem?_push, if_neg (by omega)]
  have hnew : w'.heap[w.heap.size]? = some (.cells cs T) := by rw [hw', Array.getElem?_push, if_pos rfl]
  have hsize : w'.heap.size = w.heap.size + 1 := by rw [hw']; simp
  have t : Tr h.M w (AH.M ((k, .rows (some (w.heap.size, 0, C)) sz rows own) :: h)) w' :=
    Tr.upd H (by omega) (fun b hb _ => hold b hb) (fun b hb => .inl (by simp [AObj.blk] at hb; omega))
  refine (hR.move H tr ⟨rfl, rfl, rfl⟩).move (H.upd (Ek := fun c => own = true ∧ ∃ i j, F i j c ∧ c < w.heap.size) (by omega) (fun b hb _ => hold b hb) (fun b hb => ?_)
    ⟨cs, T, fun i j c => F i j c ∧ c < w.heap.size, hnew, hl, hC, hsz, by omega, hrl, ?_, ?_, ?_⟩ ?_) t hso
  · simp [AObj.blk] at hb
    subst hb
    exact ⟨hR.newer (Nat.le_refl _), .inl (Nat.le_refl _)⟩
  · rintro i j c ⟨hc, hlt⟩
    exact ⟨fun ho => ⟨ho, i, j, hc, hlt⟩, fun hM => hF i j c hc (t.mono c hlt hM)⟩
  · rintro ho i j i' j' c ⟨hc, _⟩ ⟨hc', _⟩
    exact hinj ho i j i' j' c hc hc'
  · intro i j row d hi hj
    rw [Nat.zero_add]
    exact (hr i j row d hi hj).map (fun c hc hlt => hold c hlt) (fun c hc hlt => ⟨hc, hlt⟩)
  · rintro c ⟨ho, i, j, hc, hlt⟩
    refine ⟨?_, by omega, (hown ho i j c hc).2, fun hM => hF i j c hc (t.mono c hlt hM)⟩
    rcases (hown ho i j c hc).1 with ⟨j, hj⟩ | ⟨j, hj⟩ | hk
    · exact (H0.elow j c hj).1
    · exact (H0.low j c hj).2
    · exact (H.elow k c hk).1

/-- rows of values are handed over -/
structure FrzR (base : Bs) (h : AH) (w : World) (E : Nat → Nat → Prop) (h' : AH) (E' : Nat → Nat → Prop) (o : Bool) (S : Nat → Nat → Nat → Prop) (us : Nat → Nat → Value) (rs : List (List CD)) : Prop where
  rel : HRel base h' w E'
  tr : Tr h.M w h'.M w
  rd : ∀ i j row d, rs[i]? = some row → row[j]? = some d → Rd w o (S i j) (us i j) d
  off : ∀ i j c, S i j c → ¬ h'.M c
  own : o = true → ∀ i j c, S i j c → ((∃ k, E k c) ∨ h.M c) ∧ ∀ j, ¬ E' j c
  inj : o = true → ∀ i j i' j' c, S i j c → S i' j' c → i = i' ∧ j = j'
  sub : ∀ j c, E' j c → E j c

theorem aRows_sound {w : World} {base : Bs} {te : TI} : ∀ (parts : List (Nat × AV)) (i0 : Nat) {h : AH} {E : Nat → Nat → Prop} (_ : HRel base h w E) {us : Nat → Value}
    (_ : ∀ (i : Nat) (p : Nat × AV), parts[i]? = some p → VRel w h.M p.2 (us i)) {K : List (List CD) → AH → Bool → Prop} (_ : aRows te h parts i0 K),
    ∃ rs h' o E' S, K rs h' o ∧ rs.length = parts.length ∧ (∀ row ∈ rs, row.length = te.n) ∧ (∀ (i : Nat) (p : Nat × AV), parts[i]? = some p → p.1 = i0 + i ∧ (us i).cells.size = te.n) ∧ FrzR base h w E h' E' o S (fun i j => (us i).cells.getD j undef) rs
  | [], i0, h, E, H, us, _, K, hk => ⟨[], h, true, E, fun _ _ _ => False, hk, rfl, by simp, by simp, H, Tr.refl _ _, fun i j row d hd => by simp at hd, fun _ _ _ hc => hc.elim, fun _ _ _ _ hc => hc.elim, fun _ _ _ _ _ _ hc => hc.elim, fun _ _ hc => hc⟩
  | (jj, av) :: parts, i0, h, E, H, us, hv, K, hk => by
    unfold aRows at hk
    obtain ⟨rfl, hn, hone, hk⟩ := hk
    obtain ⟨hcs, hcr⟩ := cells_rel (hv 0 _ rfl) hone
    obtain ⟨ds, h1, o1, E1, S1, hk1, hl1, F1⟩ := aFrzL_sound av.cells H (us := fun j => (us 0).cells.getD j undef) hcr hk
    obtain ⟨rs, h2, o2, E2, S2, hk2, hl, hlen, hp, F2⟩ := aRows_sound parts (jj + 1) F1.rel (us := fun i => us (i + 1)) (fun i av hi => (hv (i + 1) av (by simpa using hi)).tr F1.tr) hk1
    refine ⟨ds :: rs, h2, o1 && o2, E2, fun i j c => match i with | 0 => S1 j c ∧ c < w.heap.size | i + 1 => S2 i j c, hk2, by simp [hl], ?_, ?_, F2.rel, F1.tr.trans F2.tr, ?_, ?_, ?_, ?_, fun j c hc => F1.sub j c (F2.sub j c hc)⟩
    · intro row hrow
      rcases List.mem_cons.1 hrow with rfl | hm
      · rw [hl1]; exact hn
      · exact hlen _ hm
    · intro i p hi
      cases i with
      | zero => simp at hi; subst hi; exact ⟨rfl, hcs.trans hn⟩
      | succ i => have := hp i p (by simpa using hi); exact ⟨by omega, this.2⟩
    · intro i j row d hi hj
      cases i with
      | zero =>
        simp at hi; subst hi
        exact Rd.own_of _ (F1.rd j d hj).within (fun h => by simp at h; exact h.1)
      | succ i => exact Rd.own_of _ (F2.rd i j row d (by simpa using hi) hj) (fun h => by simp at h; exact h.2)
    · intro i j c hc
      cases i with
      | zero => exact fun hM => F1.off j c hc.1 (F2.tr.mono c hc.2 hM)
      | succ i => exact F2.off i j c hc
    · intro ho i j c hc
      simp at ho
      cases i with
      | zero => exact ⟨(F1.own ho.1 j c hc.1).1, fun q hq => (F1.own ho.1 j c hc.1).2 q (F2.sub q c hq)⟩
      | succ i =>
        obtain ⟨h3, h4⟩ := F2.own ho.2 i j c hc
        refine ⟨?_, h4⟩
        rcases h3 with ⟨k, hk⟩ | ⟨q, hq⟩
        · exact .inl ⟨k, F1.sub k c hk⟩
        · exact .inr (F1.tr.mono c (F1.rel.lt hq) ⟨q, hq⟩)
    · intro ho i j i' j' c hc hc'
      simp at ho
      have key : ∀ i j j', (S1 j c ∧ c < w.heap.size) → S2 i j' c → False := by
        intro i j j' h1 h2
        rcases (F2.own ho.2 i j' c h2).1 with ⟨k, hk⟩ | hM
        · exact (F1.own ho.1 j c h1.1).2 k hk
        · exact F1.off j c h1.1 hM
      cases i <;> cases i'
      · exact ⟨rfl, F1.inj ho.1 _ _ c hc.1 hc'.1⟩
      · exact (key _ _ _ hc hc').elim
      · exact (key _ _ _ hc' hc).elim
      · have := F2.inj ho.2 _ _ _ _ c hc hc'; exact ⟨by rw [this.1], this.2⟩

/-- consecutive parts are filled into rows -/
theorem fill_rows (sz : Nat) : ∀ (vs : List (Nat × Value)) (i0 : Nat) (cells : Array Value), (∀ (i : Nat) (p : Nat × Value), vs[i]? = some p → p.1 = i0 + i ∧ p.2.cells.size = sz) → (i0 + vs.length) * sz ≤ cells.size →
    ∃ cs, Instr.fill (fun i => some (i * sz, sz)) cells vs = some cs ∧ cs.size = cells.size ∧
      (∀ j, j < i0 * sz → cs.getD j undef = cells.getD j undef) ∧ ∀ (i j : Nat) (p : Nat × Value), vs[i]? = some p → j < sz → cs.getD ((i0 + i) * sz + j) undef = p.2.cells.getD j undef
  | [], i0, cells, _, _ => ⟨cells, rfl, rfl, fun _ _ => rfl, fun i j p hi => by simp at hi⟩
  | (jj, v) :: vs, i0, cells, hp, hfit => by
    obtain ⟨hj, hs⟩ := hp 0 _ rfl
    simp only [Nat.add_zero] at hj hs
    subst hj
    have hfit' : (jj + 1 + vs.length) * sz ≤ cells.size := by
      have e : jj + 1 + vs.length = jj + (((jj, v) :: vs).length) := by simp; omega
      rw [e]; exact hfit
    have hle : jj * sz + sz ≤ cells.size := by
      have := Nat.mul_le_mul_right sz (show jj + 1 ≤ jj + 1 + vs.length by omega)
      rw [Nat.add_mul jj 1, Nat.one_mul] at this
      omega
    obtain ⟨g1, g2⟩ := putA_list (jj * sz) v.cells.toList 0 cells (by simp; omega)
    rw [fill_eq (fun i => some (i * sz, sz)) cells jj v vs (jj * sz) sz rfl hs hle, zipIdx_foldl]
    obtain ⟨cs, h1, h2, h3, h4⟩ := fill_rows sz vs (jj + 1) _ (fun i p hi => by have := hp (i + 1) p (by simpa using hi); exact ⟨by omega, this.2⟩) (by rw [g1]; exact hfit')
    refine ⟨cs, h1, by rw [h2, g1], fun j hj => ?_, fun i j p hi hj => ?_⟩
    · have hsm : (jj + 1) * sz = jj * sz + sz := Nat.succ_mul jj sz
      rw [h3 j (by omega), g2 j, if_neg (by omega)]
    · cases i with
      | zero =>
        simp at hi; subst hi
        have hsm : (jj + 1) * sz = jj * sz + sz := Nat.succ_mul jj sz
        rw [Nat.add_zero, h3 _ (by omega), g2, if_pos (by simp; omega)]
        simp
      | succ i =>
        have := h4 i j p (by simpa using hi) hj
        rw [show jj + (i + 1) = jj + 1 + i by omega]
        exact this

theorem range_zero (f : Nat → Value) : (Array.range 0).map f = #[] := Array.eq_empty_of_size_eq_zero (by simp)

theorem aBuildSlice_sound {E : Env} (hE : EOk E) {st : ASt} {a : Act} {w : World} (hR : Rep E.w0 E.base st a w) {d : Option Nat} {T len : Nat} {parts : List (Nat × AV)} {vparts : Array (Nat × Value)}
    (hl : vparts.toList.length = parts.length) (hp : ∀ (i : Nat) (p : Nat × AV), parts[i]? = some p → ∃ v, vparts.toList[i]? = some (p.1, v) ∧ VRel w st.h.M p.2 v) {K : ASt → Prop} (h : aBuildSlice E st d T len parts K) :
    ∃ r w', (Instr.buildSlice T len vparts).run E.P w = .ok r w' ∧ StepR E.w0 E.base st a w d r w' K := by
  obtain ⟨e, te, i, hu, ht, hi, hs, -, hn, hlen, hcap, h⟩ := elemT_some hE h
  obtain ⟨E0, H0⟩ := hR.heap
  obtain ⟨rs, h', o, E', S, hK, hrl, hlr, hpp, FR⟩ := aRows_sound parts 0 H0 (us := fun i => (vparts.toList.getD i (0, undef)).2) (fun i p hi => by
    obtain ⟨v, hv, hr⟩ := hp i p hi
    simpa [hv] using hr) h
  obtain ⟨i', z, hi', -, -, hz, hzc, -⟩ := ht.info
  have hii : i' = i := by rw [hi] at hi'; exact (Option.some.inj hi').symm
  subst hii
  have hvs : ∀ (k : Nat) (p : Nat × Value), vparts.toList[k]? = some p → p.1 = 0 + k ∧ p.2.cells.size = te.n := by
    intro k p hk
    have hlt : k < parts.length := by rw [← hl]; exact (List.getElem?_eq_some_iff.1 hk).1
    obtain ⟨v, hv, -⟩ := hp k _ (List.getElem?_eq_getElem hlt)
    obtain ⟨h1, h2⟩ := hpp k _ (List.getElem?_eq_getElem hlt)
    rw [hk] at hv
    have hv := Option.some.inj hv
    subst hv
    refine ⟨h1, ?_⟩
    simpa [hk] using h2
  have hvl : vparts.toList.length = len := by omega
  obtain ⟨cs, hf, hcs, -, hcr⟩ := fill_rows te.n vparts.toList 0 ((Array.range (len * te.n)).map fun i => z.cells[i % z.cells.size]!) hvs (by rw [hvl]; simp)
  refine ⟨.slice (some ⟨w.heap.size, 0, none⟩) len len, w.alloc (.cells cs e), ?_, ?_⟩
  · have hc' : ¬ (16777216 < len * te.n) := by omega
    by_cases hzero : len * te.n = 0
    · have hl0 : len = 0 := by
        rcases Nat.mul_eq_zero.1 hzero with h | h
        · exact h
        · omega
      subst hl0
      have hv0 : vparts = #[] := by
        apply Array.eq_empty_of_size_eq_zero
        have : vparts.toList.length = vparts.size := by simp
        omega
      subst hv0
      have hcs0 : cs = #[] := Array.eq_empty_of_size_eq_zero (by rw [hcs]; simp)
      subst hcs0
      simp [Instr.buildSlice, run_underlying hu, run_sizeOf' hi, hs, newRow, Instr.fill]
      rw [range_zero]
    · simp [Instr.buildSlice, run_underlying hu, run_sizeOf' hi, hs, hc', hzero, zeroValue, typeInfo, hi, hz, newRow, hf]
  · refine (hR.newRows H0 FR.rel FR.tr (st.key d) len e te.n hn rs o cs (w.alloc (.cells cs e)) rfl ⟨rfl, rfl, rfl⟩ (by omega) ?_ (by rw [hcs]; simp) hlr S ?_ FR.off ?_ FR.inj).put (.sl _ _ _ _ _ _ ?_) (hK w.heap.size)
    · have := Nat.le_mul_of_pos_right len hn; simp [maxLen]; omega
    · intro i j row d' hi hj
      have hlt : i < vparts.toList.length := by rw [hl, ← hrl]; exact (List.getElem?_eq_some_iff.1 hi).1
      have hjl : j < te.n := by rw [← hlr _ (List.mem_of_getElem? hi)]; exact (List.getElem?_eq_some_iff.1 hj).1
      have := FR.rd i j row d' hi hj
      have hc := hcr i j _ (List.getElem?_eq_getElem hlt) hjl
      rw [Nat.zero_add] at hc
      rw [hc]
      simpa [List.getElem?_eq_getElem hlt] using this
    · intro ho i j c hc
      obtain ⟨h1, h2⟩ := FR.own ho i j c hc
      exact ⟨h1.imp id .inl, fun j _ => h2 j⟩
    · exact .inl ⟨by simp, by omega⟩


theorem toCD_rel {P : Program} {T : Nat} {ti : TI} (ht : TIok P T ti) {w : World} {z : Value} (hzc : z.cells.toList = ti.zero.map zv) (x : Bool) (S : Nat → Prop) (j : Nat) (d : CD) (hj : (ti.zero.map toCD)[j]? = some d) : Rd w x S (z.cells.getD j undef) d := by
  simp only [List.getElem?_map, Option.map_eq_some_iff] at hj
  obtain ⟨av, hj, rfl⟩ := hj
  have e : z.cells.getD j undef = zv av := by
    have := congrArg (fun l : List Value => l[j]?) hzc
    simp only [Array.getElem?_toList, List.getElem?_map, hj, Option.map_some] at this
    simp [this]
  rw [e]
  rcases ht.zok av (List.mem_of_getElem? hj) with rfl | ⟨u, rfl, hp⟩
  · exact .empty _ _ (fun _ => rfl)
  · exact .plain hp

theorem madeCells_get (z : Array Value) (n sz i j : Nat) (hz : z.size = sz) (hi : i < n) (hj : j < sz) : (madeCells z (n * sz)).getD (i * sz + j) undef = z.getD j undef := by
  have hlt : i * sz + j < n * sz := by
    have := Nat.mul_le_mul_right sz (show i + 1 ≤ n by omega)
    have e : (i + 1) * sz = i * sz + sz := Nat.succ_mul i sz
    omega
  simp only [madeCells, Array.getD_eq_getD_getElem?]
  rw [Array.getElem?_map, Array.getElem?_range, if_pos hlt]
  simp [hz, hj, Nat.mod_eq_of_lt hj]

theorem aMake_sound {E : Env} (hE : EOk E) {st : ASt} {a : Act} {w : World} (hR : Rep E.w0 E.base st a w) {d : Option Nat} {T : Nat} {l c : AV} {u v : Value} (hl : VRel w st.h.M l u) (hc : VRel w st.h.M c v) {K : ASt → Prop} (h : aMake E st d T l c K) :
    ∃ r w', (Instr.makeSlice T u v).run E.P w = .ok r w' ∧ StepR E.w0 E.base st a w d r w' K := by
  obtain ⟨e, te, i, hu, ht, hi, hs, hby, hn, hbp, h⟩ := elemT_some hE h
  obtain ⟨-, -, -, -, h⟩ := aTwo_sound hl hc h
  split at h
  · rename_i n m
    obtain ⟨rfl, h0, hbytes, h⟩ := h
    obtain ⟨E0, H0⟩ := hR.heap
    obtain ⟨i', z, hi', -, -, hz, hzc, -⟩ := ht.info
    have hii : i' = i := by rw [hi] at hi'; exact (Option.some.inj hi').symm
    subst hii
    obtain ⟨N, rfl⟩ := Int.eq_ofNat_of_zero_le h0
    have hNb : N * te.bytes ≤ 140737488355328 := by
      have e : ((N * te.bytes : Nat) : Int) = (N : Int) * (te.bytes : Int) := Int.natCast_mul _ _
      omega
    have hN : N ≤ 140737488355328 := Nat.le_trans (Nat.le_mul_of_pos_right N hbp) hNb
    have hzs : z.cells.size = te.n := by rw [zero_size hzc, ht.zlen]
    have hrun := run_make (P := E.P) w T e i' z hu hi hz .i64 .i64 (N : Int) (N : Int) h0 (Int.le_refl _) (by rw [hby]; rw [Int.mul_comm]; exact Int.le_trans hbytes (by decide)) (by omega)
    simp only [Int.toNat_natCast] at hrun
    refine ⟨_, _, hrun, ?_⟩
    rw [hs]
    have hlen : (List.replicate N (te.zero.map toCD)).length = N := by simp
    simp only [Int.toNat_natCast] at h
    refine (hR.newRows H0 H0 (Tr.refl _ _) (st.key d) N e te.n hn (List.replicate N (te.zero.map toCD)) true (madeCells z.cells (N * te.n)) (w.alloc (.cells (madeCells z.cells (N * te.n)) e)) rfl ⟨rfl, rfl, rfl⟩ (by omega)
      (by unfold maxLen; omega) (by rw [size_madeCells]; exact Nat.le_refl _) ?_ (fun _ _ _ => False) ?_ (fun _ _ _ hc => hc.elim) (fun _ _ _ _ hc => hc.elim) (fun _ _ _ _ _ _ hc => hc.elim)).put (.sl _ _ _ _ _ _ ?_) (h w.heap.size)
    · intro row hrow
      rw [List.eq_of_mem_replicate hrow]
      simp [ht.zlen]
    · intro i j row d' hi hj
      have hiN : i < N := by rw [← hlen]; exact (List.getElem?_eq_some_iff.1 hi).1
      have hrow := List.eq_of_mem_replicate (List.mem_of_getElem? hi)
      subst hrow
      have hjn : j < te.n := by rw [← ht.zlen]; simpa using (List.getElem?_eq_some_iff.1 hj).1
      rw [madeCells_get _ _ _ _ _ hzs hiN hjn]
      exact toCD_rel ht hzc _ _ j d' hj
    · exact .inl ⟨by simp, by omega⟩
  · exact h.elim

end Go.AM
