/-
  The machine's table of types, checked against the program.
-/
import Derived.Test.YtljhopjmmcmioaaAmN
namespace Go.AM
open Go.RowKit

def zvOk : AV → Value → Bool
  | .nil, .slice none 0 0 => true
  | .v (.int k n), .int k' n' => decide (k = k') && decide (n = n')
  | .v (.bool b), .bool b' => b == b'
  | .v (.string s), .string s' => decide (s = s')
  | _, _ => false

theorem zvOk_sound {a : AV} {v : Value} (h : zvOk a v = true) : v = zv a ∧ (a = .nil ∨ ∃ u, a = .v u ∧ plain u = true) := by
  unfold zvOk at h
  split at h
  · exact ⟨rfl, .inl rfl⟩
  · simp at h; obtain ⟨rfl, rfl⟩ := h; exact ⟨rfl, .inr ⟨_, rfl, rfl⟩⟩
  · simp at h; subst h; exact ⟨rfl, .inr ⟨_, rfl, rfl⟩⟩
  · simp at h; subst h; exact ⟨rfl, .inr ⟨_, rfl, rfl⟩⟩
  · simp at h

def zvsOk : List AV → List Value → Bool
  | [], [] => true
  | a :: l, v :: vs => zvOk a v && zvsOk l vs
  | _, _ => false

theorem zvsOk_sound : ∀ (l : List AV) (vs : List Value), zvsOk l vs = true → vs = l.map zv ∧ ∀ a ∈ l, a = .nil ∨ ∃ u, a = .v u ∧ plain u = true
  | [], [], _ => ⟨rfl, by simp⟩
  | a :: l, v :: vs, h => by
    simp only [zvsOk, Bool.and_eq_true] at h
    obtain ⟨h1, h2⟩ := zvOk_sound h.1
    obtain ⟨h3, h4⟩ := zvsOk_sound l vs h.2
    refine ⟨by rw [h1, h3]; rfl, fun x hx => ?_⟩
    rcases List.mem_cons.1 hx with rfl | hx
    · exact h2
    · exact h4 x hx
  | [], _ :: _, h => by simp [zvsOk] at h
  | _ :: _, [], h => by simp [zvsOk] at h

def isAggV : Value → Bool
  | .agg _ => true
  | _ => false

def ieqOk (P : Program) (t : Nat) (ti : TI) (fs : Array Field) : Bool :=
  !P.stoodInHeld t && !P.eqGuardType P.depth t && decide (fs.toList.map (·.offset) = List.range ti.n) && fs.toList.all fun f => !(f.name == "_") && match P.underlying f.type with
    | some (.int .i64) => true
    | _ => false

theorem ieqOk_sound {P : Program} {t : Nat} {ti : TI} {fs : Array Field} (hu : P.underlying t = some (.struct fs)) (h : ieqOk P t ti fs = true) : ∃ fs : Array Field, P.underlying t = some (.struct fs) ∧ P.stoodInHeld t = false ∧ P.eqGuardType P.depth t = false ∧ fs.toList.map (·.offset) = List.range ti.n ∧ ∀ f ∈ fs.toList, f.name ≠ "_" ∧ P.underlying f.type = some (.int .i64) := by
  unfold ieqOk at h
  simp only [Bool.and_eq_true, Bool.not_eq_true', decide_eq_true_eq, List.all_eq_true] at h
  obtain ⟨⟨⟨h1, h2⟩, h3⟩, h4⟩ := h
  refine ⟨fs, hu, h1, h2, h3, fun f hf => ?_⟩
  obtain ⟨h5, h6⟩ := h4 f hf
  refine ⟨by simpa using h5, ?_⟩
  split at h6
  · assumption
  · cases h6

def tiCheck (P : Program) (t : Nat) (ti : TI) : Bool :=
  (match P.info? t with
    | none => false
    | some i => decide (i.size = ti.n) && decide (i.bytes = ti.bytes) && (match i.zero with
      | none => false
      | some z => zvsOk ti.zero z.cells.toList && (!ti.agg || isAggV z))) &&
  decide (ti.zero.length = ti.n) && decide (0 < ti.n) &&
  (match P.underlying t with
    | none => false
    | some (.struct fs) => ti.agg && decide (fs.toList.mapM (fun f => (P.info? f.type).map fun i => (f.offset, i.size)) = some ti.fields) && ti.fields.all (fun p => decide (0 < p.2) && decide (p.1 + p.2 ≤ ti.n)) &&
        decide (ti.sl = none) && decide (ti.kind = none) && !ti.str && !ti.boo && (!ti.ieq || ieqOk P t ti fs)
    | some (.array _ _) => false
    | some (.slice e) => !ti.agg && !ti.ieq && decide (ti.fields = []) && decide (ti.n = 1) && (decide (ti.sl = none) || decide (ti.sl = some e)) && decide (ti.kind = none) && !ti.str && !ti.boo
    | some (.int k) => !ti.agg && !ti.ieq && decide (ti.fields = []) && decide (ti.n = 1) && decide (ti.sl = none) && (decide (ti.kind = none) || decide (ti.kind = some k)) && !ti.str && !ti.boo
    | some .string => !ti.agg && !ti.ieq && decide (ti.fields = []) && decide (ti.n = 1) && decide (ti.sl = none) && decide (ti.kind = none) && !ti.boo
    | some .bool => !ti.agg && !ti.ieq && decide (ti.fields = []) && decide (ti.n = 1) && decide (ti.sl = none) && decide (ti.kind = none) && !ti.str
    | some _ => false)

theorem tiCheck_sound {P : Program} {t : Nat} {ti : TI} (h : tiCheck P t ti = true) : TIok P t ti := by
  unfold tiCheck at h
  simp only [Bool.and_eq_true, decide_eq_true_eq] at h
  obtain ⟨⟨⟨h1, h2⟩, h3⟩, h4⟩ := h
  split at h1
  · simp at h1
  · rename_i i hi
    simp only [Bool.and_eq_true, decide_eq_true_eq] at h1
    obtain ⟨⟨g1, g2⟩, g3⟩ := h1
    split at g3
    · simp at g3
    · rename_i z hz
      simp only [Bool.and_eq_true, Bool.or_eq_true, Bool.not_eq_true'] at g3
      obtain ⟨g4, g5⟩ := zvsOk_sound _ _ g3.1
      have hinfo : ∃ i z, P.info? t = some i ∧ i.size = ti.n ∧ i.bytes = ti.bytes ∧ i.zero = some z ∧ z.cells.toList = ti.zero.map zv ∧ (ti.agg = true → ∃ cs, z = .agg cs) := by
        refine ⟨i, z, hi, g1, g2, hz, g4, fun ha => ?_⟩
        have := g3.2.resolve_left (by simp [ha])
        cases z <;> simp [isAggV] at this
        exact ⟨_, rfl⟩
      split at h4
      · simp at h4
      · rename_i fs hu
        simp only [Bool.and_eq_true, decide_eq_true_eq, Bool.not_eq_true', List.all_eq_true] at h4
        obtain ⟨⟨⟨⟨⟨⟨⟨ha, hm⟩, hf⟩, hsl⟩, hk⟩, hs⟩, hb⟩, hq⟩ := h4
        exact ⟨hinfo, g5, h2, h3, fun _ => ⟨fs, hu, hm, hf⟩, fun h => by simp [ha] at h, fun e he => by simp [hsl] at he, fun k hk' => by simp [hk] at hk', fun h => by simp [hs] at h, fun h => by simp [hb] at h, fun h => ieqOk_sound hu (by simpa [h] using hq)⟩
      · simp at h4
      · rename_i e hu
        simp only [Bool.and_eq_true, Bool.or_eq_true, decide_eq_true_eq, Bool.not_eq_true'] at h4
        obtain ⟨⟨⟨⟨⟨⟨⟨ha, hie⟩, hf⟩, hn⟩, hsl⟩, hk⟩, hs⟩, hb⟩ := h4
        exact ⟨hinfo, g5, h2, h3, fun h => by simp [ha] at h, fun _ => ⟨hf, hn, _, hu, (fun _ h => by cases h), (fun _ _ h => by cases h)⟩,
          fun e' he => by rcases hsl with h | h <;> simp [h] at he; subst he; exact hu, fun k hk' => by simp [hk] at hk', fun h => by simp [hs] at h, fun h => by simp [hb] at h, fun h => by simp [hie] at h⟩
      · rename_i k hu
        simp only [Bool.and_eq_true, Bool.or_eq_true, decide_eq_true_eq, Bool.not_eq_true'] at h4
        obtain ⟨⟨⟨⟨⟨⟨⟨ha, hie⟩, hf⟩, hn⟩, hsl⟩, hk⟩, hs⟩, hb⟩ := h4
        exact ⟨hinfo, g5, h2, h3, fun h => by simp [ha] at h, fun _ => ⟨hf, hn, _, hu, (fun _ h => by cases h), (fun _ _ h => by cases h)⟩,
          fun e' he => by simp [hsl] at he, fun k' hk' => by rcases hk with h | h <;> simp [h] at hk'; subst hk'; exact hu, fun h => by simp [hs] at h, fun h => by simp [hb] at h, fun h => by simp [hie] at h⟩
      · rename_i hu
        simp only [Bool.and_eq_true, decide_eq_true_eq, Bool.not_eq_true'] at h4
        obtain ⟨⟨⟨⟨⟨⟨ha, hie⟩, hf⟩, hn⟩, hsl⟩, hk⟩, hb⟩ := h4
        exact ⟨hinfo, g5, h2, h3, fun h => by simp [ha] at h, fun _ => ⟨hf, hn, _, hu, (fun _ h => by cases h), (fun _ _ h => by cases h)⟩,
          fun e' he => by simp [hsl] at he, fun k hk' => by simp [hk] at hk', fun _ => hu, fun h => by simp [hb] at h, fun h => by simp [hie] at h⟩
      · rename_i hu
        simp only [Bool.and_eq_true, decide_eq_true_eq, Bool.not_eq_true'] at h4
        obtain ⟨⟨⟨⟨⟨⟨ha, hie⟩, hf⟩, hn⟩, hsl⟩, hk⟩, hs⟩ := h4
        exact ⟨hinfo, g5, h2, h3, fun h => by simp [ha] at h, fun _ => ⟨hf, hn, _, hu, (fun _ h => by cases h), (fun _ _ h => by cases h)⟩,
          fun e' he => by simp [hsl] at he, fun k hk' => by simp [hk] at hk', fun h => by simp [hs] at h, fun _ => hu, fun h => by simp [hie] at h⟩
      · simp at h4

def lookT : List (Nat × TI) → Nat → Option TI
  | [], _ => none
  | (k, v) :: l, t => if t = k then some v else lookT l t

theorem lookT_mem : ∀ (l : List (Nat × TI)) (t : Nat) (ti : TI), lookT l t = some ti → (t, ti) ∈ l
  | (k, v) :: l, t, ti, h => by
    unfold lookT at h
    split at h
    · rename_i hk; subst hk; cases h; exact List.mem_cons_self ..
    · exact List.mem_cons_of_mem _ (lookT_mem l t ti h)

theorem table_ok {P : Program} {l : List (Nat × TI)} (h : (l.all fun p => tiCheck P p.1 p.2) = true) : ∀ t ti, lookT l t = some ti → TIok P t ti :=
  fun t ti ht => tiCheck_sound (List.all_eq_true.1 h (t, ti) (lookT_mem l t ti ht))

end Go.AM
