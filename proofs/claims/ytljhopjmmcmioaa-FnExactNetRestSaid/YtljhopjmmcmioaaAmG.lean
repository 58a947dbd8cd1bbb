/-
  The abstract machine is sound: variables and stores into them.
-/
import Derived.Test.YtljhopjmmcmioaaAmF
namespace Go.AM
open Go.RowKit

theorem Rep.put {w0 : World} {base : Bs} {st : ASt} {a : Act} {w : World} (hR : Rep w0 base st a w) {d : Option Nat} {av : AV} {v : Value} (hv : VRel w st.h.M av v) {K : ASt → Prop} (h : aPut st d av K) :
    K (st.aft d av st.h) ∧ Rep w0 base (st.aft d av st.h) (a.put d v) w := by
  cases d with
  | none => exact ⟨h, hR⟩
  | some d =>
    obtain ⟨hd, hK⟩ := h
    refine ⟨hK, hR.dfr, by simp [Act.put, ASt.aft, hR.size], fun i => ?_, hR.heap, hR.below, hR.base_le⟩
    have hs := hR.size
    show VRel w st.h.M (getT ((d, av) :: st.t) i) _
    unfold getT
    split
    · rename_i h; subst h
      have : (a.put (some i) v).tmps.getD i undef = v := by simp [Act.put]; omega
      rw [this]
      exact hv
    · rename_i hne
      have : (a.put (some d) v).tmps.getD i undef = a.tmps.getD i undef := by
        simp [Act.put, Array.getElem?_setIfInBounds, Ne.symm hne]
      rw [this]
      exact hR.tmp i

/-- only heap and what is not looked at has turned -/
structure Same (w w' : World) : Prop where
  os : w'.os = w.os
  tape : w'.tape = w.tape
  output : w'.output = w.output

/-- the frame as it was, the heap turned -/
structure Moved (w0 : World) (base : Bs) (st : ASt) (a : Act) (w : World) (h' : AH) (w' : World) : Prop where
  rep : Rep w0 base { st with h := h' } a w'
  tr : Tr st.h.M w h'.M w'

/-- behind an operation -/
def StepR (w0 : World) (base : Bs) (st : ASt) (a : Act) (w : World) (d : Option Nat) (r : Value) (w' : World) (K : ASt → Prop) : Prop :=
  ∃ av h', K (st.aft d av h') ∧ Rep w0 base (st.aft d av h') (a.put d r) w' ∧ (base.loose = false → Tr st.h.M w h'.M w') ∧ VRel w' h'.M av r

theorem Moved.put {w0 : World} {base : Bs} {st : ASt} {a : Act} {w w' : World} {h' : AH} (m : Moved w0 base st a w h' w') {d : Option Nat} {av : AV} {v : Value} (hv : VRel w' h'.M av v) {K : ASt → Prop} (h : aPut { st with h := h' } d av K) :
    StepR w0 base st a w d v w' K := by
  obtain ⟨h1, h2⟩ := m.rep.put hv h
  cases d with
  | none => exact ⟨av, h', h1, h2, fun _ => m.tr, hv⟩
  | some d => exact ⟨av, h', h1, h2, fun _ => m.tr, hv⟩

theorem Rep.move {w0 : World} {base : Bs} {st : ASt} {a : Act} {w w' : World} (hR : Rep w0 base st a w) {h' : AH} {E' : Nat → Nat → Prop} (H : HRel base h' w' E') (t : Tr st.h.M w h'.M w') (s : Same w w') :
    Moved w0 base st a w h' w' := by
  obtain ⟨E, HE⟩ := hR.heap
  refine ⟨⟨hR.dfr, hR.size, fun i => (hR.tmp i).tr t, ⟨E', H⟩, hR.below.trans ⟨s.os, s.tape, s.output, t.size, fun k hk => ?_⟩, fun b hb => Nat.lt_of_lt_of_le (hR.base_le b hb) t.size⟩, t⟩
  refine t.frame k (hR.base_le k (.inl hk)) (fun hM => ?_)
  obtain ⟨j, hj⟩ := hM
  exact (HE.low j k hj).1 hk

theorem Moved.move {w0 : World} {base : Bs} {st : ASt} {a : Act} {w w1 w' : World} {h1 h' : AH} (m : Moved w0 base st a w h1 w1) {E' : Nat → Nat → Prop} (H : HRel base h' w' E') (t : Tr h1.M w1 h'.M w') (s : Same w1 w') : Moved w0 base st a w h' w' := by
  have := m.rep.move H t s
  exact ⟨this.rep, m.tr.trans t⟩

theorem heap_new (w : World) (o : Obj) : (w.alloc o).heap[w.heap.size]? = some o := heap_alloc_new w o
theorem heap_old (w : World) (o : Obj) {b : Nat} (h : b < w.heap.size) : (w.alloc o).heap[b]? = w.heap[b]? := Below.heap_alloc w o b h

theorem Rep.newer {w0 : World} {base : Bs} {st : ASt} {a : Act} {w : World} (hR : Rep w0 base st a w) {b : Nat} (h : w.heap.size ≤ b) : ¬ base.F b ∧ ¬ base.G b :=
  ⟨fun hf => by have := hR.base_le b (.inl hf); omega, fun hf => by have := hR.base_le b (.inr hf); omega⟩

/-- a new block of variables -/
theorem Rep.newVars {w0 : World} {base : Bs} {st : ASt} {a : Act} {w : World} (hR : Rep w0 base st a w) (k : Nat) (T : TypeId) (l : List AV) (cs : Array Value) (hs : cs.size = l.length)
    (hl : ∀ (j : Nat) (x : AV), l[j]? = some x → VRel w st.h.M x (cs.getD j undef)) :
    Moved w0 base st a w ((k, .vars w.heap.size T l) :: st.h) (w.alloc (.cells cs T)) := by
  obtain ⟨E, H⟩ := hR.heap
  have t : Tr st.h.M w (AH.M ((k, .vars w.heap.size T l) :: st.h)) (w.alloc (.cells cs T)) :=
    Tr.upd H (by simp) (fun b hb _ => heap_old w _ hb) (fun b hb => .inl (by simp [AObj.blk] at hb; omega))
  refine hR.move (H.upd (Ek := fun _ => False) (by simp) (fun b hb _ => heap_old w _ hb) (fun b hb => ?_) ⟨cs, heap_new w _, hs, fun j x hj => (hl j x hj).tr t⟩ (fun _ hc => hc.elim)) t ⟨rfl, rfl, rfl⟩
  simp [AObj.blk] at hb
  subst hb
  exact ⟨hR.newer (Nat.le_refl _), .inl (Nat.le_refl _)⟩

theorem zero_rel {P : Program} {T : Nat} {ti : TI} (ht : TIok P T ti) {w : World} {M : Nat → Prop} {z : Value} (hzc : z.cells.toList = ti.zero.map zv) (j : Nat) (x : AV) (hj : ti.zero[j]? = some x) : VRel w M x (z.cells.getD j undef) := by
  have e : z.cells.getD j undef = zv x := by
    have := congrArg (fun l : List Value => l[j]?) hzc
    simp only [Array.getElem?_toList, List.getElem?_map, hj, Option.map_some] at this
    simp [this]
  rw [e]
  rcases ht.zok x (List.mem_of_getElem? hj) with rfl | ⟨u, rfl, hp⟩
  · exact .nil
  · exact .v _ hp

theorem zero_size {ti : TI} {z : Value} (hzc : z.cells.toList = ti.zero.map zv) : z.cells.size = ti.zero.length := by
  have := congrArg List.length hzc
  simpa using this

theorem aAlloc_sound {E : Env} (hE : EOk E) {st : ASt} {a : Act} {w : World} (hR : Rep E.w0 E.base st a w) {d : Option Nat} {T : Nat} {K : ASt → Prop} (h : aAlloc E st d T K) :
    ∃ r w', (Instr.alloc T true (.tuple #[])).run E.P w = .ok r w' ∧ StepR E.w0 E.base st a w d r w' K := by
  unfold aAlloc at h
  split at h
  · rename_i ti hti
    have ht := hE _ _ hti
    obtain ⟨i, z, hi, -, -, hz, hzc, -⟩ := ht.info
    refine ⟨.pointer (some ⟨w.heap.size, 0, none⟩), w.alloc (.cells z.cells T), by simp [Instr.alloc, zeroValue, typeInfo, hi, hz, newVar, newRow], ?_⟩
    exact (hR.newVars (st.key d) T ti.zero z.cells (zero_size hzc) (fun j x hj => zero_rel ht hzc j x hj)).put (.p _ _ _) (h w.heap.size)
  · exact h.elim

theorem aBox_sound {E : Env} {st : ASt} {a : Act} {w : World} (hR : Rep E.w0 E.base st a w) {d : Option Nat} {T : Nat} {x : AV} {u : Value} (hx : VRel w st.h.M x u) {K : ASt → Prop} (h : aBox E st d T x K) :
    ∃ r w', (Instr.box T u).run E.P w = .ok r w' ∧ StepR E.w0 E.base st a w d r w' K := by
  unfold aBox at h
  split at h
  · obtain ⟨h1, h⟩ := h
    obtain ⟨hs, hc⟩ := cells_rel hx h1
    refine ⟨.pointer (some ⟨w.heap.size, 0, none⟩), w.alloc (.cells u.cells T), by simp [Instr.box, newVar, newRow], ?_⟩
    exact (hR.newVars (st.key d) T x.cells u.cells hs hc).put (.p _ _ _) (h w.heap.size)
  · exact h.elim

theorem run_storeVar_of {P : Program} {T : Nat} {ti : TI} (ht : TIok P T ti) {w : World} {b o : Nat} {cs : Array Value} {T' : TypeId} (hb : w.heap[b]? = some (.cells cs T' (0, 0))) {u : Value} (hn : u.cells.size = ti.n)
    (h1 : ∀ v ∈ u.cells.toList, v.oneCell' = true) (hfit : o + ti.n ≤ cs.size) :
    (storeVar T ⟨b, o, none⟩ u).run P w = .ok () (w.setRow b (cs.toList.take o ++ u.cells.toList ++ cs.toList.drop (o + u.cells.size)).toArray) := by
  obtain ⟨i, z, hi, hs, -⟩ := ht.info
  have := run_storeCells_at (P := P) b o T' u.cells.toList 0 cs w hb (by simp; omega) h1
  simp [storeVar, run_sizeOf' hi, hs, hn] at this ⊢
  exact this

theorem splice_get (cs : Array Value) (o : Nat) (vs : List Value) (h : o + vs.length ≤ cs.size) :
    (cs.toList.take o ++ vs ++ cs.toList.drop (o + vs.length)).toArray.size = cs.size ∧
    ∀ j, (cs.toList.take o ++ vs ++ cs.toList.drop (o + vs.length)).toArray.getD j undef = if o ≤ j ∧ j < o + vs.length then vs.getD (j - o) undef else cs.getD j undef := by
  refine ⟨by simp; omega, fun j => ?_⟩
  have hlo : (cs.toList.take o).length = o := by simp; omega
  simp only [Array.getD_eq_getD_getElem?, List.getElem?_toArray]
  by_cases h1 : j < o
  · rw [if_neg (by omega), List.append_assoc, List.getElem?_append_left (by omega), List.getElem?_take]
    simp [h1]
  · rw [List.append_assoc, List.getElem?_append_right (by omega), hlo]
    by_cases h2 : j < o + vs.length
    · rw [if_pos (by omega), List.getElem?_append_left (by omega)]
      simp
    · rw [if_neg (by omega), List.getElem?_append_right (by omega), List.getElem?_drop]
      have : o + vs.length + (j - o - vs.length) = j := by omega
      rw [this]
      simp

theorem Same.setRow (w : World) (g : Nat) (cs : Array Value) : Same w (w.setRow g cs) := ⟨rfl, rfl, rfl⟩

/-- a store into variables -/
theorem Rep.storeVars {w0 : World} {base : Bs} {st : ASt} {a : Act} {w : World} (hR : Rep w0 base st a w) {k b c : Nat} {T : TypeId} {cells : List AV} (hget : st.h.get k = .vars b T cells) {l : List AV} {us : List Value}
    (hl : us.length = l.length) (hr : ∀ (j : Nat) (x : AV), l[j]? = some x → VRel w st.h.M x (us.getD j undef)) (hfit : c + l.length ≤ cells.length) :
    ∃ cs, w.heap[b]? = some (.cells cs T (0, 0)) ∧ c + us.length ≤ cs.size ∧
      Moved w0 base st a w ((k, .vars b T (putL cells c l)) :: st.h) (w.setRow b (cs.toList.take c ++ us ++ cs.toList.drop (c + us.length)).toArray) := by
  obtain ⟨E, H⟩ := hR.heap
  have ho := H.obj k
  rw [hget] at ho
  obtain ⟨cs, hb, hs, hc⟩ := ho
  have hfit' : c + us.length ≤ cs.size := by omega
  obtain ⟨g1, g2⟩ := splice_get cs c us hfit'
  refine ⟨cs, hb, hfit', ?_⟩
  have hfr : ∀ b', b' < w.heap.size → (¬ st.h.M b' ∨ ∃ j, j ≠ k ∧ (st.h.get j).blk = some b') → (w.setRow b (cs.toList.take c ++ us ++ cs.toList.drop (c + us.length)).toArray).heap[b']? = w.heap[b']? := by
    intro b' _ h
    refine setRow_other w b b' _ (fun he => ?_)
    subst he
    rcases h with h | ⟨j, hne, hj⟩
    · exact h ⟨k, by rw [hget]; rfl⟩
    · exact hne (H.inj _ _ _ hj (by rw [hget]; rfl))
  have t : Tr st.h.M w (AH.M ((k, .vars b T (putL cells c l)) :: st.h)) (w.setRow b (cs.toList.take c ++ us ++ cs.toList.drop (c + us.length)).toArray) :=
    Tr.upd H (by simp) (fun b' hb' hM => hfr b' hb' (.inl hM)) (fun b' hb' => .inr (by rw [hget]; exact hb'))
  refine hR.move (H.upd (Ek := fun _ => False) (by simp) hfr (fun b' hb' => ?_) ⟨_, setRow_heap w b cs _ T (0, 0) hb, ?_, ?_⟩ (fun _ hc => hc.elim)) t (Same.setRow _ _ _)
  · have hk : (st.h.get k).blk = some b' := by rw [hget]; exact hb'
    exact ⟨H.low _ _ hk, .inr hk⟩
  · rw [g1, putL_length _ _ _ hfit, hs]
  · intro j x hj
    rw [putL_get _ _ _ hfit] at hj
    rw [g2 j]
    split at hj
    · rename_i hh
      rw [if_pos (by omega)]
      exact (hr _ _ hj).tr t
    · rename_i hh
      rw [if_neg (by omega)]
      exact (hc _ _ hj).tr t

end Go.AM
