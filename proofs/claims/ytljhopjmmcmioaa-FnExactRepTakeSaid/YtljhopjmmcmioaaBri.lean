/-
  From the reading that a given statement speaks of to the data of the abstract machine.
-/
import Derived.Test.YtljhopjmmcmioaaDat0
import Derived.ProofKit
import Derived.Deep.Slices
namespace Go.AM
open Go.RowKit Go.WideShapes Go.ChangeShapes

def contig (P : Program) : Nat → List Field → Option Nat
  | o, [] => some o
  | o, f :: fs => if f.offset = o then contig P (o + P.cellsOf f.type) fs else none

/-- the types that the data of the abstract machine covers; the number bounds their depth -/
def okT (P : Program) : Nat → TypeId → Bool
  | 0, _ => false
  | D + 1, t => match P.underlying t with
    | some .bool => true
    | some (.int _) => true
    | some .string => true
    | some (.slice e) => decide (0 < P.cellsOf e) && okT P D e
    | some (.struct fs) => (contig P 0 fs.toList == some (P.cellsOf t)) && fs.toList.all fun f => okT P D f.type
    | _ => false

/-- the data fits the type -/
def Fits (P : Program) : Nat → TypeId → List CD → Prop
  | 0, _, _ => False
  | D + 1, t, ds => match P.underlying t with
    | some .bool => ∃ b, ds = [.v (.bool b)]
    | some (.int k) => ∃ n, ds = [.v (.int k n)] ∧ (Lit.int k n).wf = true
    | some .string => ∃ s : ByteArray, ds = [.v (.string s)] ∧ s.size ≤ maxLen
    | some (.slice e) => ∃ rows, ds = [.s rows] ∧ rows.length ≤ maxLen ∧ ∀ row ∈ rows, row.length = P.cellsOf e ∧ Fits P D e row
    | some (.struct fs) => ds.length = P.cellsOf t ∧ ∀ f ∈ fs.toList, Fits P D f.type ((ds.drop f.offset).take (P.cellsOf f.type))
    | _ => False

def Reads (w : World) (cs : List Value) (ds : List CD) : Prop := ds.length = cs.length ∧ ∀ (j : Nat) (u : Value) (d : CD), cs[j]? = some u → ds[j]? = some d → Rd w false (fun _ => True) u d

theorem Reads.one {w : World} {u : Value} {d : CD} (h : Rd w false (fun _ => True) u d) : Reads w [u] [d] := by
  refine ⟨rfl, fun j u' d' hu hd => ?_⟩
  cases j with
  | zero => simp at hu hd; subst hu; subst hd; exact h
  | succ j => simp at hu

theorem reads_fields {P : Program} {w : World} {D : Nat} {cs : List Value} : ∀ (fs : List Field) (o m : Nat), contig P o fs = some m → m ≤ cs.length →
    (∀ f ∈ fs, ∃ ds, Reads w ((cs.drop f.offset).take (P.cellsOf f.type)) ds ∧ Fits P D f.type ds) →
    ∃ ds, o ≤ m ∧ Reads w ((cs.drop o).take (m - o)) ds ∧ ∀ f ∈ fs, o ≤ f.offset ∧ Fits P D f.type ((ds.drop (f.offset - o)).take (P.cellsOf f.type))
  | [], o, m, hc, _, _ => by
    simp only [contig, Option.some.injEq] at hc
    subst hc
    exact ⟨[], Nat.le_refl _, by simp [Reads], by simp⟩
  | f :: fs, o, m, hc, hm, hx => by
    simp only [contig] at hc
    split at hc
    · rename_i ho
      obtain ⟨ds, h1, h2, h3⟩ := reads_fields fs _ m hc hm (fun g hg => hx g (List.mem_cons_of_mem _ hg))
      obtain ⟨d1, h4, h5⟩ := hx f (List.mem_cons_self ..)
      have hl : d1.length = P.cellsOf f.type := by rw [h4.1]; simp; omega
      refine ⟨d1 ++ ds, by omega, ⟨?_, fun j u d hu hd => ?_⟩, fun g hg => ?_⟩
      · have := h2.1
        simp at this ⊢
        omega
      · by_cases hj : j < P.cellsOf f.type
        · rw [List.getElem?_append_left (by omega)] at hd
          refine h4.2 j u d ?_ hd
          rw [List.getElem?_take, if_pos hj, ho]
          rw [List.getElem?_take] at hu
          split at hu
          · exact hu
          · simp at hu
        · rw [List.getElem?_append_right (by omega), hl] at hd
          refine h2.2 _ u d ?_ hd
          rw [List.getElem?_take] at hu ⊢
          split at hu
          · rw [if_pos (by omega)]
            rw [List.getElem?_drop] at hu ⊢
            rw [← hu]
            congr 1
            omega
          · simp at hu
      · rcases List.mem_cons.1 hg with rfl | hg
        · refine ⟨by omega, ?_⟩
          rw [ho, Nat.sub_self, List.drop_zero, List.take_append_of_le_length (by omega), List.take_of_length_le (by omega)]
          exact h5
        · obtain ⟨h6, h7⟩ := h3 g hg
          refine ⟨by omega, ?_⟩
          have : (d1 ++ ds).drop (g.offset - o) = ds.drop (g.offset - (o + P.cellsOf f.type)) := by
            rw [List.drop_append, List.drop_of_length_le (by omega), hl, List.nil_append]
            congr 1
            omega
          rw [this]
          exact h7
    · simp at hc

theorem open_data {H : Type} {enc : TypeId × Value → H} {P : Program} {w : World} {base : Nat} {spare : Nat → Bool} {held : Bool} :
    ∀ (D : Nat) (t : TypeId) (cs : List Value) (x : DataW H × List MemPlace) (fuel : Nat), okT P D t = true → DataW.trod enc P w base spare held fuel t cs = some x → ∃ ds, Reads w cs ds ∧ Fits P D t ds := by
  intro D
  induction D with
  | zero => intro t cs x fuel h; simp [okT] at h
  | succ D ih =>
    intro t cs x fuel hok h
    unfold okT at hok
    split at hok
    · rename_i hu
      obtain ⟨b, rfl, -⟩ := DataW.trod_bool hu h
      exact ⟨[.v (.bool b)], Reads.one (.plain rfl), by simp [Fits, hu]⟩
    · rename_i k hu
      obtain ⟨n, rfl, -, hw⟩ := DataW.trod_int hu h
      exact ⟨[.v (.int k n)], Reads.one (.plain rfl), by simp [Fits, hu, hw]⟩
    · rename_i hu
      obtain ⟨s, rfl, -, hs⟩ := DataW.trod_string hu h
      exact ⟨[.v (.string s)], Reads.one (.plain rfl), by simp [Fits, hu, hs]⟩
    · rename_i e hu
      simp only [Bool.and_eq_true, decide_eq_true_eq] at hok
      obtain ⟨hpos, hok⟩ := hok
      rcases DataW.trod_slice hu h with ⟨rfl, -⟩ | ⟨a, len, cap, elems, rest, n, -, rfl, -, -, hlc, hcm, hel, hi, -⟩
      · exact ⟨[.s []], Reads.one (.empty _ _ (fun h => by simp at h)), by simp [Fits, hu]⟩
      · have each : ∀ i, i < len → ∃ p : List Value × List CD, w.cells? base (a.add (i * P.cellsOf e)) (P.cellsOf e) = some p.1 ∧ Reads w p.1 p.2 ∧ Fits P D e p.2 := by
          intro i hlt
          have h1 := hi i hlt
          rw [List.getElem?_eq_getElem (by omega)] at h1
          obtain ⟨c, h2, h3⟩ := Option.bind_eq_some_iff.1 h1
          obtain ⟨ds, h4, h5⟩ := ih e c _ n hok h3
          exact ⟨(c, ds), h2, h4, h5⟩
        by_cases hl0 : len = 0
        · subst hl0
          exact ⟨[.s []], Reads.one (.empty _ _ (fun h => by simp at h)), by simp [Fits, hu]⟩
        · obtain ⟨f, hf⟩ := Go.Deep.choose_lt each
          have cell : ∀ i j, i < len → j < P.cellsOf e → w.cell? (a.add (i * P.cellsOf e + j)) = (f i).1[j]? ∧ (f i).1.length = P.cellsOf e := by
            intro i j hlt hj
            obtain ⟨-, h2, h3⟩ := World.cells?_some (hf i hlt).1
            exact ⟨by rw [← h3 j hj, Go.Deep.add_add], h2⟩
          obtain ⟨b, off, spot⟩ := a
          have hb : ∃ cs T fr, w.heap[b]? = some (.cells cs T fr) ∧ spot = none := by
            obtain ⟨h1, h2⟩ := cell 0 0 (by omega) hpos
            rw [List.getElem?_eq_getElem (by omega)] at h1
            unfold World.cell? at h1
            rw [block_add] at h1
            split at h1
            · rename_i c T fr hh
              refine ⟨c, T, fr, hh, ?_⟩
              cases spot with
              | none => rfl
              | some s => simp [Addr.add] at h1
            · simp at h1
          obtain ⟨c, T, fr, hb, rfl⟩ := hb
          have at' : ∀ i j, i < len → j < P.cellsOf e → c[off + (i * P.cellsOf e + j)]? = (f i).1[j]? := by
            intro i j hlt hj
            rw [← (cell i j hlt hj).1, add_plain]
            simp [World.cell?, hb]
          have hrows : ((List.range len).map fun i => (f i).2).length = len := by simp
          have hrd := Rd.slice (w := w) (x := false) (S := fun _ => True) b off cap (P.cellsOf e) c T fr ((List.range len).map fun i => (f i).2) (fun _ _ _ => True)
            (by rw [hrows]; exact hlc) hcm hpos trivial hb (by
              rw [hrows]
              obtain ⟨m, rfl⟩ : ∃ m, len = m + 1 := ⟨len - 1, by omega⟩
              have h1 := at' m (P.cellsOf e - 1) (by omega) (by omega)
              rw [List.getElem?_eq_getElem (by rw [(cell m (P.cellsOf e - 1) (by omega) (by omega)).2]; omega)] at h1
              have h2 := (Array.getElem?_eq_some_iff.1 h1).1
              rw [Nat.succ_mul]
              omega) (fun h => by simp at h) (fun _ _ _ _ => ⟨trivial, fun h => by simp at h⟩) (fun h => by simp at h)
            (fun row hrow => by
              simp only [List.mem_map, List.mem_range] at hrow
              obtain ⟨i, hlt, rfl⟩ := hrow
              rw [(hf i hlt).2.1.1]
              exact (cell i 0 hlt hpos).2)
            (fun i j row d h1 h2 => by
              have hlt : i < len := by have := (List.getElem?_eq_some_iff.1 h1).1; omega
              simp only [List.getElem?_map, List.getElem?_range hlt, Option.map_some, Option.some.injEq] at h1
              subst h1
              have hj : j < P.cellsOf e := by
                have := (List.getElem?_eq_some_iff.1 h2).1
                rw [(hf i hlt).2.1.1, (cell i 0 hlt hpos).2] at this
                exact this
              have h3 := at' i j hlt hj
              rw [List.getElem?_eq_getElem (by rw [(cell i j hlt hj).2]; exact hj)] at h3
              have h4 : c.getD (off + (i * P.cellsOf e + j)) undef = (f i).1[j]'(by rw [(cell i j hlt hj).2]; exact hj) := by
                rw [Array.getD_eq_getD_getElem?, h3]
                rfl
              rw [h4]
              exact (hf i hlt).2.1.2 j _ d (List.getElem?_eq_getElem _) h2)
          rw [hrows] at hrd
          refine ⟨[.s ((List.range len).map fun i => (f i).2)], Reads.one hrd, ?_⟩
          simp only [Fits, hu]
          refine ⟨_, rfl, by rw [hrows]; omega, fun row hrow => ?_⟩
          simp only [List.mem_map, List.mem_range] at hrow
          obtain ⟨i, hlt, rfl⟩ := hrow
          exact ⟨by rw [(hf i hlt).2.1.1]; exact (cell i 0 hlt hpos).2, (hf i hlt).2.2⟩
    · rename_i fs hu
      simp only [Bool.and_eq_true, beq_iff_eq, List.all_eq_true] at hok
      obtain ⟨hc, hall⟩ := hok
      obtain ⟨xs, n, -, -, hcl, hxl, hi⟩ := DataW.trod_struct hu h
      obtain ⟨ds, -, h1, h2⟩ := reads_fields (w := w) (D := D) (cs := cs) fs.toList 0 _ hc (by omega) (fun f hf => by
        obtain ⟨i, hlt, rfl⟩ := List.getElem_of_mem hf
        have hlt' : i < fs.size := by simpa using hlt
        have h3 := hi i fs[i] (by simp [hlt'])
        rw [List.getElem?_eq_getElem (by omega)] at h3
        exact ih _ _ _ n (hall _ hf) h3)
      rw [List.drop_zero, Nat.sub_zero, List.take_of_length_le (by omega)] at h1
      refine ⟨ds, h1, ?_⟩
      simp only [Fits, hu]
      refine ⟨by rw [h1.1, hcl], fun f hf => ?_⟩
      have := (h2 f hf).2
      rwa [Nat.sub_zero] at this
    · simp at hok

/-- what an argument reads as -/
def FitsV (P : Program) (D : Nat) (t : TypeId) : VD → Prop
  | .c d => Fits P D t [d]
  | .agg ds => (∃ fs, P.underlying t = some (.struct fs)) ∧ Fits P D t ds

theorem open_arg {H : Type} {enc : TypeId × Value → H} {P : Program} {w : World} {base b0 : Nat} {spare : Nat → Bool} {held : Bool} {r : Reach} {D : Nat} {t : TypeId} {v : Value} {d : DataW H} {ps : List MemPlace}
    (hok : okT P D t = true) (hval : Value.okWide P w r b0 t v) (h : DataW.Trod enc P w base spare held t v d ps) : ∃ vd, RdV w v vd ∧ FitsV P D t vd := by
  obtain ⟨fuel, hf⟩ := h
  obtain ⟨ds, hr, hfit⟩ := open_data D t _ _ fuel hok hf
  have one : v.cells = #[v] → (∀ fs, P.underlying t ≠ some (.struct fs)) → ∃ vd, RdV w v vd ∧ FitsV P D t vd := by
    intro hc _
    rw [hc] at hr
    obtain ⟨hl, hr⟩ := hr
    cases ds with
    | nil => simp at hl
    | cons d ds =>
      cases ds with
      | nil => exact ⟨.c d, hr 0 v d rfl rfl, hfit⟩
      | cons _ _ => simp at hl
  cases D with
  | zero => simp [okT] at hok
  | succ D =>
    unfold okT at hok
    split at hok
    · rename_i hu
      obtain ⟨b, rfl⟩ := okWide_bool hu hval
      exact one rfl (fun fs h => by rw [hu] at h; simp at h)
    · rename_i k hu
      obtain ⟨n, rfl⟩ := okWide_int hu hval
      exact one rfl (fun fs h => by rw [hu] at h; simp at h)
    · rename_i hu
      obtain ⟨s, rfl⟩ := okWide_string hu hval
      exact one rfl (fun fs h => by rw [hu] at h; simp at h)
    · rename_i e hu
      obtain ⟨a, l, c, rfl⟩ := okWide_slice hu hval
      exact one rfl (fun fs h => by rw [hu] at h; simp at h)
    · rename_i fs hu
      obtain ⟨cs, rfl, -⟩ := okWide_struct hu hval
      obtain ⟨hl, hr⟩ := hr
      refine ⟨.agg ds, ⟨cs, rfl, by simpa [Value.cells] using hl.symm, fun j d hd => ?_⟩, ⟨fs, hu⟩, hfit⟩
      have hj : j < cs.size := by
        have := (List.getElem?_eq_some_iff.1 hd).1
        simp [Value.cells] at hl
        omega
      have := hr j cs[j] d (by simp [Value.cells, hj]) hd
      simpa [hj] using this
    · simp at hok

/-- all arguments -/
def Opens (P : Program) (D : Nat) (w : World) : List TypeId → List Value → List VD → Prop
  | [], [], [] => True
  | t :: ts, v :: vs, d :: ds => (RdV w v d ∧ FitsV P D t d) ∧ Opens P D w ts vs ds
  | _, _, _ => False

theorem open_args {H : Type} {enc : TypeId × Value → H} {P : Program} {w : World} {base b0 : Nat} {spare : Nat → Bool} {held : Bool} {r : Reach} {D : Nat} :
    ∀ (ts : List TypeId) (vs : List Value) (ds : List (DataW H)) (ps : List MemPlace), (ts.all fun t => okT P D t) = true → (∀ (j : Nat) t v, ts[j]? = some t → vs[j]? = some v → Value.okWide P w r b0 t v) →
      DataW.TrodAll enc P w base spare held ts vs ds ps → ∃ vds, Opens P D w ts vs vds
  | [], vs, ds, ps, _, _, h => by
    obtain ⟨rfl, -, -⟩ := trodAll_nil h
    exact ⟨[], trivial⟩
  | t :: ts, vs, ds, ps, hok, hval, h => by
    obtain ⟨v, vs1, d, ds1, a, b, rfl, rfl, rfl, h1, h2⟩ := trodAll_cons h
    simp only [List.all_cons, Bool.and_eq_true] at hok
    obtain ⟨vds, h3⟩ := open_args ts vs1 ds1 b hok.2 (fun j t v ht hv => hval (j + 1) t v (by simpa using ht) (by simpa using hv)) h2
    obtain ⟨vd, h4, h5⟩ := open_arg hok.1 (hval 0 t v rfl rfl) h1
    exact ⟨vd :: vds, ⟨h4, h5⟩, h3⟩

theorem Opens.reads {P : Program} {D : Nat} {w : World} : ∀ (ts : List TypeId) (vs : List Value) (vds : List VD), Opens P D w ts vs vds → vs.length = vds.length ∧ ∀ (i : Nat) vd, vds[i]? = some vd → RdV w (vs.toArray.getD i undef) vd
  | [], [], [], _ => ⟨rfl, fun i vd h => by simp at h⟩
  | t :: ts, v :: vs, d :: ds, h => by
    obtain ⟨h1, h2⟩ := Opens.reads ts vs ds h.2
    refine ⟨by simp [h1], fun i vd hi => ?_⟩
    cases i with
    | zero => simp at hi; subst hi; simpa using h.1.1
    | succ i => simpa using h2 i vd (by simpa using hi)

theorem stay_args {H : Type} {enc : TypeId × Value → H} {P : Program} (hl : laidOutB P = true) {W W' : World} (hb : Below W.heap.size W W') {sp : Nat → Bool} :
    ∀ (ts : List TypeId) (vs : List Value) (ds : List (DataW H)) (ps : List MemPlace), (ts.all fun t => P.readableRec t && decide (t < P.types.size)) = true → DataW.TrodAll enc P W 0 (fun _ => true) true ts vs ds ps →
      (∀ x ∈ ps, x.block < W.heap.size) → (∀ x ∈ ps, sp x.block = true) → DataW.TrodAll enc P W' 0 sp true ts vs ds ps
  | [], vs, ds, ps, _, h, _, _ => by
    obtain ⟨rfl, rfl, rfl⟩ := trodAll_nil h
    rfl
  | t :: ts, vs, ds, ps, hok, h, hlt, hsp => by
    obtain ⟨v, vs1, d, ds1, a, b, rfl, rfl, rfl, h1, h2⟩ := trodAll_cons h
    simp only [List.all_cons, Bool.and_eq_true, decide_eq_true_eq] at hok
    refine ⟨a, b, WideElems.Trod_stays hl hok.1.1 hok.1.2 h1 (fun x hx => hb.same (hlt x (by simp [hx]))) (fun x hx => hsp x (by simp [hx])), stay_args hl hb ts vs1 ds1 b (by simpa using hok.2) h2 (fun x hx => hlt x (by simp [hx])) (fun x hx => hsp x (by simp [hx])), rfl⟩

/-- a law that is walked for all data is a law -/
theorem law_post {H : Type} {enc : TypeId × Value → H} {P : Program} (hlaid : laidOutB P = true) {f : FuncId} {fn : Func} {s : ChangeSpec} {apart fresh handsOn : Bool} {D : Nat} {bt : TypeId}
    (hv : s.vars = []) (hres : fn.resultTypes = #[bt]) (hbt : P.underlying bt = some .bool) (hokT : (fn.params.toList.all fun t => okT P D t) = true) (hread : (fn.params.toList.all fun t => P.readableRec t && decide (t < P.types.size)) = true)
    (hs : ∀ ds : List (DataW H), ds.length = fn.params.toList.length → s.fn H ds = { results := [.lit (.bool true)], args := ds })
    {W : World} {args : Array Value} {r : Reach} {b0 : Nat} {ds gs : List (DataW H)} {before : List MemPlace}
    (hval : ∀ (j : Nat) t v, fn.params[j]? = some t → args[j]? = some v → Value.okWide P W r b0 t v)
    (hW : DataW.Whole enc P fn.params.toList s.vars apart W args.toList ds gs before)
    (hwalk : ∀ vds, Opens P D W fn.params.toList args.toList vds → PureC P f vds (.one (.c (.v (.bool true)) 1))) :
    Calls P f args W fun e W' => ∃ v, e = .returned v ∧ s.post enc P fn apart fresh handsOn false W args v W' := by
  have hW0 := hW
  obtain ⟨p, q, hA, hV, rfl, hfz, hnd⟩ := hW
  rw [hv] at hV
  obtain ⟨rfl, rfl⟩ := trodVars_none hV
  obtain ⟨vds, ho⟩ := open_args (D := D) fn.params.toList args.toList ds p hokT (fun j t v ht hv => hval j t v (by simpa using ht) (by simpa using hv)) hA
  obtain ⟨hl, hr⟩ := Opens.reads _ _ _ ho
  have hlen : ds.length = fn.params.toList.length := by
    have : ∀ (ts : List TypeId) (vs : List Value) (ds : List (DataW H)) (ps : List MemPlace), DataW.TrodAll enc P W 0 (fun _ => true) true ts vs ds ps → ds.length = ts.length := by
      intro ts
      induction ts with
      | nil => intro vs ds ps h; obtain ⟨-, rfl, -⟩ := trodAll_nil h; rfl
      | cons t ts ih =>
        intro vs ds ps h
        obtain ⟨v, vs1, d, ds1, a, b, rfl, rfl, rfl, h1, h2⟩ := trodAll_cons h
        simp [ih _ _ _ h2]
    exact this _ _ _ _ hA
  refine ((hwalk vds ho).2 W args (by simpa using hl) (fun i vd hi => by simpa using hr i vd hi)).mono ?_
  rintro e W' ⟨v, rfl, hb, hrr⟩
  have hv1 : v = .bool true := hrr.1
  subst hv1
  have hs' := hs ds hlen
  refine ⟨_, rfl, ds, [], p, [], p, [], by simpa using hW0, ?_, ?_, ?_, ?_, fun h => by cases h⟩
  · rw [List.append_nil, hs', hres]
    exact trodAll_mk1 (shut_bool hbt true)
  · rw [List.append_nil, hs']
    have hlt : ∀ x ∈ p, x.block < W.heap.size := fun x hx => hW0.lt x (by simp [hx])
    exact stay_args hlaid hb _ _ _ _ hread hA hlt (fun x hx => by simpa using hlt x hx)
  · rw [hv]
    have : (s.fn H (ds ++ [])).vars = [] := by rw [List.append_nil, hs']
    rw [this]
    exact rfl
  · exact hb.frame _

theorem wf_i64 {n : Int} (h : (Lit.int .i64 n).wf = true) : -9223372036854775808 ≤ n ∧ n ≤ 9223372036854775807 := by
  have : IntKind.i64.min = -9223372036854775808 := rfl
  have h2 : IntKind.i64.max = 9223372036854775807 := rfl
  simp only [Lit.wf, Bool.and_eq_true, decide_eq_true_eq] at h
  omega
theorem wf_u8 {n : Int} (h : (Lit.int .u8 n).wf = true) : 0 ≤ n ∧ n ≤ 255 := by
  have : IntKind.u8.min = 0 := rfl
  have h2 : IntKind.u8.max = 255 := rfl
  simp only [Lit.wf, Bool.and_eq_true, decide_eq_true_eq] at h
  omega

section
variable {P : Program} {D : Nat} {t e : TypeId} {vd : VD} {ds : List CD}
theorem fits_int {k : IntKind} (hu : P.underlying t = some (.int k)) (h : Fits P D t ds) : ∃ n, ds = [.v (.int k n)] ∧ (Lit.int k n).wf = true := by
  cases D with
  | zero => exact h.elim
  | succ D => simpa only [Fits, hu] using h
theorem fits_bool (hu : P.underlying t = some .bool) (h : Fits P D t ds) : ∃ b, ds = [.v (.bool b)] := by
  cases D with
  | zero => exact h.elim
  | succ D => simpa only [Fits, hu] using h
theorem fits_string (hu : P.underlying t = some .string) (h : Fits P D t ds) : ∃ s : ByteArray, ds = [.v (.string s)] ∧ s.size ≤ maxLen := by
  cases D with
  | zero => exact h.elim
  | succ D => simpa only [Fits, hu] using h
theorem fits_slice (hu : P.underlying t = some (.slice e)) (h : Fits P D t ds) : ∃ rows, ds = [.s rows] ∧ rows.length ≤ maxLen ∧ ∃ D', ∀ row ∈ rows, row.length = P.cellsOf e ∧ Fits P D' e row := by
  cases D with
  | zero => exact h.elim
  | succ D =>
    simp only [Fits, hu] at h
    obtain ⟨rows, h1, h2, h3⟩ := h
    exact ⟨rows, h1, h2, D, h3⟩
theorem fits_struct {fs : Array Field} (hu : P.underlying t = some (.struct fs)) (h : Fits P D t ds) : ds.length = P.cellsOf t ∧ ∃ D', ∀ f ∈ fs.toList, Fits P D' f.type ((ds.drop f.offset).take (P.cellsOf f.type)) := by
  cases D with
  | zero => exact h.elim
  | succ D =>
    simp only [Fits, hu] at h
    exact ⟨h.1, D, h.2⟩
theorem fitsV_c {de : TypeDesc} (hu : P.underlying t = some de) (hn : ∀ fs, de ≠ .struct fs) (h : FitsV P D t vd) : ∃ d, vd = .c d ∧ Fits P D t [d] := by
  cases vd with
  | c d => exact ⟨d, rfl, h⟩
  | agg ds =>
    obtain ⟨⟨fs, h1⟩, -⟩ := h
    rw [hu] at h1
    simp only [Option.some.injEq] at h1
    exact absurd h1 (hn fs)
theorem fitsV_i64 (hu : P.underlying t = some (.int .i64)) (h : FitsV P D t vd) : ∃ n : Int, vd = .c (.v (.int .i64 n)) ∧ -9223372036854775808 ≤ n ∧ n ≤ 9223372036854775807 := by
  obtain ⟨d, rfl, h1⟩ := fitsV_c hu (fun fs h => by cases h) h
  obtain ⟨n, h2, h3⟩ := fits_int hu h1
  simp only [List.cons.injEq, and_true] at h2
  exact ⟨n, by rw [h2], wf_i64 h3⟩
theorem rows_map {α : Type} {f : α → List CD} {ok : α → Prop} : ∀ (rows : List (List CD)), (∀ row ∈ rows, ∃ x, row = f x ∧ ok x) → ∃ l : List α, rows = l.map f ∧ ∀ x ∈ l, ok x
  | [], _ => ⟨[], rfl, by simp⟩
  | row :: rows, h => by
    obtain ⟨x, h1, h2⟩ := h row (List.mem_cons_self ..)
    obtain ⟨l, h3, h4⟩ := rows_map rows (fun r hr => h r (List.mem_cons_of_mem _ hr))
    exact ⟨x :: l, by rw [h1, h3]; rfl, by simpa using ⟨h2, h4⟩⟩
theorem fits_bytes (hu : P.underlying t = some (.slice e)) (he : P.underlying e = some (.int .u8)) (h : Fits P D t ds) : ∃ l : List UInt8, ds = [.s (l.map byteR)] ∧ l.length ≤ 9223372036854775807 := by
  obtain ⟨rows, rfl, h1, D', h2⟩ := fits_slice hu h
  obtain ⟨l, rfl, -⟩ := rows_map (f := byteR) (ok := fun _ => True) rows (fun row hrow => by
    obtain ⟨n, h3, h4⟩ := fits_int he (h2 row hrow).2
    have := wf_u8 h4
    refine ⟨UInt8.ofNat n.toNat, ?_, trivial⟩
    rw [h3]
    have h5 : ((UInt8.ofNat n.toNat).toNat : Int) = n := by
      rw [UInt8.toNat_ofNat']
      omega
    unfold byteR
    rw [h5])
  refine ⟨l, rfl, ?_⟩
  have : maxLen = 9223372036854775807 := rfl
  simpa [this] using h1
theorem fitsV_bytes (hu : P.underlying t = some (.slice e)) (he : P.underlying e = some (.int .u8)) (h : FitsV P D t vd) : ∃ l : List UInt8, vd = .c (.s (l.map byteR)) ∧ l.length ≤ 9223372036854775807 := by
  obtain ⟨d, rfl, h1⟩ := fitsV_c hu (fun fs h => by cases h) h
  obtain ⟨l, h2, h3⟩ := fits_bytes hu he h1
  simp only [List.cons.injEq, and_true] at h2
  exact ⟨l, by rw [h2], h3⟩
end

theorem Opens.nil {P : Program} {D : Nat} {w : World} {vs : List Value} {vds : List VD} (h : Opens P D w [] vs vds) : vds = [] := by
  cases vs with
  | nil => cases vds with
    | nil => rfl
    | cons _ _ => exact h.elim
  | cons _ _ => exact h.elim
theorem Opens.cons {P : Program} {D : Nat} {w : World} {t : TypeId} {ts : List TypeId} {vs : List Value} {vds : List VD} (h : Opens P D w (t :: ts) vs vds) :
    ∃ vd vds', vds = vd :: vds' ∧ FitsV P D t vd ∧ ∃ vs', Opens P D w ts vs' vds' := by
  cases vs with
  | nil => cases vds <;> exact h.elim
  | cons v vs => cases vds with
    | nil => exact h.elim
    | cons d ds => exact ⟨d, ds, rfl, h.1.2, vs, h.2⟩
end Go.AM
