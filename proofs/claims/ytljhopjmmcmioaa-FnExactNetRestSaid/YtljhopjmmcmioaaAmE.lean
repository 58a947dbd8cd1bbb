/-
  The abstract machine is sound: slices, and all operations that only compute in one law.
-/
import Derived.Test.YtljhopjmmcmioaaAmD
namespace Go.AM
open Go.RowKit

/-- what an optional bound comes to -/
def BoundIs (v : Option Value) (z n : Nat) : Prop := (v = none ∧ n = z) ∨ ∃ k m, v = some (.int k m) ∧ 0 ≤ m ∧ n = m.toNat

theorem run_sliceBounds_of {P : Program} {w : World} {isS : Bool} {len cap l h : Nat} {lo hi : Option Value} (hh : BoundIs hi len h) (hl : BoundIs lo 0 l) (h1 : l ≤ h) (h2 : h ≤ cap) :
    (Instr.sliceBounds isS len cap lo hi none).run P w = .ok (l, h, cap) w := by
  rcases hh with ⟨rfl, rfl⟩ | ⟨k, m, rfl, h0, rfl⟩ <;> rcases hl with ⟨rfl, rfl⟩ | ⟨k', m', rfl, h0', rfl⟩
  · simp [Instr.sliceBounds]
  · have e : m' ≤ (h : Int) := by omega
    simp [Instr.sliceBounds, Instr.sliceBound, asIntOf, h0', e]
  · have e : m ≤ (cap : Int) := by omega
    cases isS <;> simp [Instr.sliceBounds, Instr.sliceBound, asIntOf, h0, e]
  · have e : m ≤ (cap : Int) := by omega
    have e' : m' ≤ ((m.toNat : Nat) : Int) := by omega
    have e'' : m' ≤ max m 0 := by omega
    cases isS <;> simp [Instr.sliceBounds, Instr.sliceBound, asIntOf, h0, e, h0', e', e'']

theorem run_sliceAt_of {P : Program} {w : World} {T e : Nat} {i : TypeInfo} (hu : P.underlying T = some (.slice e)) (hi : P.info? e = some i) {len cap l h : Nat} {lo hi' : Option Value} {a : Option Addr}
    (hh : BoundIs hi' len h) (hl : BoundIs lo 0 l) (h1 : l ≤ h) (h2 : h ≤ cap) :
    (Instr.sliceAt T (.slice a len cap) lo hi' none).run P w = .ok (.slice (if cap = l then a else a.map (·.add (l * i.size))) (h - l) (cap - l)) w := by
  simp [Instr.sliceAt, run_underlying hu, Instr.slice, run_sliceBounds_of hh hl h1 h2, run_sizeOf' hi]

theorem bound_is {w : World} {M : Nat → Prop} {x : Option AV} {v : Option Value} (hn : x = none → v = none) (hx : ∀ a, x = some a → ∃ u, v = some u ∧ VRel w M a u) {z : Nat} {K : Nat → Prop} (h : bound x z K) :
    ∃ n, BoundIs v z n ∧ K n := by
  unfold bound at h
  split at h
  · exact ⟨z, .inl ⟨hn rfl, rfl⟩, h⟩
  · obtain ⟨u, hu, hr⟩ := hx _ rfl
    cases hr
    exact ⟨_, .inr ⟨_, _, hu, h.1, rfl⟩, h.2⟩
  · exact h.elim

theorem aSlice_sound {E : Env} (hE : EOk E) {w : World} {M : Nat → Prop} {T : Nat} {x : AV} {u : Value} (hx : VRel w M x u) {lo hi : Option AV} {vlo vhi : Option Value}
    (hl0 : lo = none → vlo = none) (hl : ∀ a, lo = some a → ∃ u, vlo = some u ∧ VRel w M a u) (hh0 : hi = none → vhi = none) (hh : ∀ a, hi = some a → ∃ u, vhi = some u ∧ VRel w M a u)
    {K : AV → Prop} (h : aSlice E T x lo hi K) :
    ∃ r av, (Instr.sliceAt T u vlo vhi none).run E.P w = .ok r w ∧ VRel w M av r ∧ K av := by
  unfold aSlice at h
  split at h
  · rename_i rows
    obtain ⟨e, te, i, hu, ht, hi', hs, -, hrl, h⟩ := elemT_some hE h
    obtain ⟨nh, bh, hnh, h⟩ := bound_is hh0 hh h
    obtain ⟨nl, bl, hnl, h⟩ := bound_is hl0 hl h
    cases hx with
    | ro rows x hr =>
      have hrr := hr
      cases hr with
      | empty a cap =>
        have e1 : nh = 0 := by simpa using hnh
        subst e1
        have e2 : nl = 0 := by omega
        subst e2
        refine ⟨_, _, run_sliceAt_of hu hi' bh bl (by omega) (by omega), ?_, h⟩
        exact .ro _ _ (by simpa [cut] using Rd.empty (w := w) (x := false) (S := fun b => ¬ M b) _ _ (by intro h; cases h))
      | slice b off cap sz cs T' fr rows F hcap hmax hsz hS hb hfit hown hF hd hlen hr =>
        refine ⟨_, _, run_sliceAt_of hu hi' bh bl hnl (by omega), ?_, h⟩
        refine .ro _ _ (Rd.cut rfl hrr hnl (by omega) hrl _ ?_)
        intro hne
        rw [if_neg (by omega), hs]
        simp [add_plain]
  · rename_i k H sz off len
    obtain ⟨e, te, i, hu, ht, hi', hs, -, hsz, h⟩ := elemT_some hE h
    obtain ⟨nh, bh, hnh, h⟩ := bound_is hh0 hh h
    obtain ⟨nl, bl, hnl, h⟩ := bound_is hl0 hl h
    cases hx with
    | sl k H sz off len x hx =>
      cases H with
      | none =>
        obtain ⟨⟨a, rfl⟩, rfl⟩ := hx
        have e1 : nh = 0 := by omega
        subst e1
        have e2 : nl = 0 := by omega
        subst e2
        refine ⟨_, _, run_sliceAt_of hu hi' bh bl (by omega) (by omega), ?_, h⟩
        exact .sl _ _ _ _ _ _ ⟨⟨_, rfl⟩, rfl⟩
      | some q =>
        obtain ⟨b, o, C⟩ := q
        rcases hx with ⟨rfl, hC⟩ | ⟨rfl, hpos, a, rfl⟩
        · refine ⟨_, _, run_sliceAt_of hu hi' bh bl hnl (by omega), ?_, h⟩
          refine .sl _ _ _ _ _ _ ?_
          by_cases hz : C - off = nl
          · by_cases hp : nl = 0
            · subst hp
              left
              have hz' : off = C := by omega
              have hnh' : nh = 0 := by omega
              subst hnh'
              refine ⟨by simp [add_plain], by omega⟩
            · right
              exact ⟨by omega, by omega, _, by rw [show nh - nl = 0 by omega, show C - off - nl = 0 by omega]⟩
          · left
            refine ⟨?_, by omega⟩
            rw [if_neg hz, hs, hsz]
            simp [add_plain, Nat.add_mul, Nat.add_assoc]
            omega
        · have e1 : nh = 0 := by omega
          subst e1
          have e2 : nl = 0 := by omega
          subst e2
          refine ⟨_, _, run_sliceAt_of hu hi' bh bl (by omega) (by omega), ?_, h⟩
          exact .sl _ _ _ _ _ _ (.inr ⟨by omega, by omega, _, rfl⟩)
  · rename_i s
    obtain ⟨hstr, h⟩ := h
    obtain ⟨nh, bh, hnh, h⟩ := bound_is hh0 hh h
    obtain ⟨nl, bl, hnl, h⟩ := bound_is hl0 hl h
    cases hx
    unfold Env.isStr at hstr
    split at hstr
    · rename_i ti hti
      have hu := (hE _ _ hti).str hstr
      refine ⟨.string (s.extract nl nh), _, ?_, .v _ rfl, h⟩
      simp [Instr.sliceAt, run_underlying hu, Instr.slice, run_sliceBounds_of bh bl hnl hnh]
    · exact hstr.elim
  · exact h.elim

theorem Option.map_none_of {α β : Type} {f : α → β} {x : Option α} (g : α → Value) (h : x.map f = none) : x.map g = none := by cases x <;> simp_all

theorem opt_rel {w : World} {M : Nat → Prop} {st : ASt} {a : Act} (hv : ∀ x, VRel w M (st.ev x) (a.eval x)) {lo : Option Operand} {y : AV} (hy : lo.map st.ev = some y) : ∃ u, lo.map a.eval = some u ∧ VRel w M y u := by
  cases lo with
  | none => simp at hy
  | some x => simp at hy; subst hy; exact ⟨_, rfl, hv x⟩

theorem aTwo_sound {w : World} {M : Nat → Prop} {x y : AV} {u v : Value} (hx : VRel w M x u) (hy : VRel w M y v) {K : Value → Value → Prop} (h : aTwo x y K) : x = .v u ∧ y = .v v ∧ plain u = true ∧ plain v = true ∧ K u v := by
  unfold aTwo at h
  split at h
  · cases hx; cases hy
    exact ⟨rfl, rfl, by assumption, by assumption, h⟩
  · exact h.elim

theorem intsOf_rel : ∀ (l : List AV) (is : List Int), intsOf l = some is → l = is.map fun i => .v (.int .i64 i)
  | [], is, h => by simp [intsOf] at h; subst h; rfl
  | x :: l, is, h => by
    unfold intsOf at h
    split at h
    · rename_i he; cases he
    · rename_i a l' he
      cases he
      cases hi : intsOf l with
      | none => simp [hi] at h
      | some js =>
        simp [hi] at h
        subst h
        rw [intsOf_rel l js hi]; rfl
    · cases h

theorem run_eqFields_ints {P : Program} {w : World} (d : Nat) {xs ys : List Int} (hl : xs.length = ys.length) : ∀ (fs : List Field) (k : Nat), fs.map (·.offset) = (List.range xs.length).drop k → (∀ f ∈ fs, f.name ≠ "_" ∧ P.underlying f.type = some (.int .i64)) →
    (Op.eqFields (d + 1) ((xs.map fun i => Value.int .i64 i).toArray) ((ys.map fun i => Value.int .i64 i).toArray) fs).run P w = .ok (decide (xs.drop k = ys.drop k)) w
  | [], k, hk, _ => by
    have h1 : xs.length ≤ k := by
      have := congrArg List.length hk
      simp at this; omega
    rw [List.drop_eq_nil_of_le h1, List.drop_eq_nil_of_le (by omega)]
    simp [Op.eqFields]
  | f :: fs, k, hk, hf => by
    obtain ⟨h1, h2⟩ := hf f (List.mem_cons_self ..)
    have hlt : k < xs.length := by
      have := congrArg List.length hk
      simp at this; omega
    have hy : k < ys.length := by omega
    have hd : (List.range xs.length).drop k = k :: (List.range xs.length).drop (k + 1) := by
      rw [List.drop_eq_getElem_cons (by simpa using hlt)]; simp
    rw [hd] at hk
    simp only [List.map_cons, List.cons.injEq] at hk
    have ih := run_eqFields_ints d hl fs (k + 1) hk.2 (fun g hg => hf g (List.mem_cons_of_mem _ hg)) (P := P) (w := w)
    have hag : (isAgg f.type).run P w = .ok false w := by simp [isAgg, run_underlying h2]
    have p1 : (part f.type ((xs.map fun i => Value.int .i64 i).toArray) f.offset).run P w = .ok (.int .i64 xs[k]) w := by
      rw [hk.1]
      simp [part, hag, hlt]
    have p2 : (part f.type ((ys.map fun i => Value.int .i64 i).toArray) f.offset).run P w = .ok (.int .i64 ys[k]) w := by
      rw [hk.1]
      simp [part, hag, hy]
    have hiff : (xs.drop k = ys.drop k) = (xs[k] = ys[k] ∧ xs.drop (k + 1) = ys.drop (k + 1)) := by
      rw [List.drop_eq_getElem_cons hlt, List.drop_eq_getElem_cons hy, List.cons.injEq]
    simp only [Op.eqFields, h1, ne_eq, not_false_eq_true, if_true, Sem.run_bind, p1, p2, Result.andThen_ok, run_equalIn_int _ _ _ _ _ _ _ h2, hiff]
    by_cases he : xs[k] = ys[k]
    · simp [he, ih]
    · simp [he]

theorem aEqs_sound {E : Env} (hE : EOk E) {w : World} {M : Nat → Prop} {op : BinOp} {T : Nat} {l m : List AV} {u v : Value} (hx : VRel w M (.agg l) u) (hy : VRel w M (.agg m) v) {K : AV → Prop} (h : aEqs E op T l m K) :
    ∃ r av, (binOp op T u v).run E.P w = .ok r w ∧ (∀ a b, (eqGuard op T a b u v).run E.P w = .ok () w) ∧ VRel w M av r ∧ K av := by
  unfold aEqs at h
  split at h
  · rename_i ti hti
    obtain ⟨hi, h⟩ := h
    split at h
    · rename_i a b ha hb
      obtain ⟨la, lb, h⟩ := h
      obtain ⟨fs, hu, hs, hg, ho, hf⟩ := (hE _ _ hti).ieq hi
      have hl := intsOf_rel _ _ ha
      have hm := intsOf_rel _ _ hb
      have conv : ∀ {z : List AV} {is : List Int} {q : Value}, z = is.map (fun i => AV.v (.int .i64 i)) → VRel w M (.agg z) q → q = .agg (is.map fun i => Value.int .i64 i).toArray := by
        intro z is q hz hq
        cases hq with
        | agg _ xs hs hh =>
          subst hz
          congr 1
          apply Array.ext
          · simpa using hs
          · intro i h1 h2
            have hi : i < is.length := by simpa using h2
            have := hh i (.v (.int .i64 is[i])) (by simp [hi])
            rw [Array.getD_eq_getD_getElem?, Array.getElem?_eq_getElem h1] at this
            simp only [Option.getD_some] at this
            have e : xs[i] = .int .i64 is[i] := by
              generalize xs[i] = q at this
              cases this
              rfl
            simp [e]
      rw [conv hl hx, conv hm hy]
      have hfo : E.P.fieldsOf T = fs := by simp [Program.fieldsOf, hu]
      have key := run_equalIn_agg (P := E.P) w 9999 T ((a.map fun i => Value.int .i64 i).toArray) ((b.map fun i => Value.int .i64 i).toArray) (by rw [hfo]; exact hu) hs
      rw [hfo, run_eqFields_ints 9998 (by omega) fs.toList 0 (by rw [la]; simpa using ho) hf] at key
      simp only [List.drop_zero] at key
      split at h
      · exact ⟨_, _, by rw [run_eql_struct, key]; rfl, fun x y => run_eqGuard_agg w _ _ _ _ _ _ hg, .v _ rfl, h⟩
      · exact ⟨_, _, by rw [run_neq_struct, key]; rfl, fun x y => run_eqGuard_agg w _ _ _ _ _ _ hg, .v _ rfl, h⟩
      · exact h.elim
    · exact h.elim
  · exact h.elim

theorem aBin2_sound {E : Env} (hE : EOk E) {w : World} {M : Nat → Prop} {op : BinOp} {T : Nat} {x y : AV} {u v : Value} (hx : VRel w M x u) (hy : VRel w M y v) {K : AV → Prop} (h : aBin2 E op T x y K) :
    ∃ r av, (binOp op T u v).run E.P w = .ok r w ∧ (∀ a b, (eqGuard op T a b u v).run E.P w = .ok () w) ∧ VRel w M av r ∧ K av := by
  unfold aBin2 at h
  split at h
  · cases hx; cases hy
    rename_i hp _ _
    obtain ⟨r, av, h1, h2, h3⟩ := aBin_sound hE (w := w) (M := M) h
    exact ⟨r, av, h1, fun a b => run_eqGuard _ _ _ _ (by assumption), h2, h3⟩
  · exact aEqs_sound hE hx hy h
  · exact h.elim

theorem aTest_sound {w : World} {M : Nat → Prop} {x : AV} {u : Value} (hx : VRel w M x u) {K : Bool → Prop} (h : aTest x K) : ∃ b, u = .bool b ∧ K b := by
  unfold aTest at h
  split at h
  · cases hx; exact ⟨_, rfl, h⟩
  · exact h.elim

theorem aNil_sound {w : World} {M : Nat → Prop} {x : AV} {u : Value} (hx : VRel w M x u) {K : AV → Prop} (h : aNil x K) :
    K x ∧ ((∃ ad, u = .pointer (some ad)) ∨ ∃ f y z, u = .func (.func f) y z) := by
  cases hx <;> simp only [aNil] at h
  case p => exact ⟨h, .inl ⟨_, rfl⟩⟩
  case e => exact ⟨h, .inl ⟨_, rfl⟩⟩
  case rp => exact ⟨h, .inl ⟨_, rfl⟩⟩
  case clo => exact ⟨h, .inr ⟨_, _, _, rfl⟩⟩
  case v hp =>
    cases u
    case func fn y z =>
      cases fn
      case func f => exact ⟨h, .inr ⟨_, _, _, rfl⟩⟩
      all_goals exact h.elim
    all_goals exact h.elim

theorem aConv_sound {E : Env} (hE : EOk E) {w : World} {M : Nat → Prop} {s d : Nat} {x : AV} {u : Value} (hx : VRel w M x u) {K : AV → Prop} (h : aConv E s d x K) :
    ∃ r av, (convert s d u).run E.P w = .ok r w ∧ VRel w M av r ∧ K av := by
  obtain ⟨hs, h⟩ := h
  have hsd : ∃ ds, E.P.underlying s = some ds := by
    unfold Env.known at hs
    split at hs
    · rename_i ti hti
      have ht := hE _ _ hti
      cases hg : ti.agg with
      | true => obtain ⟨fs, hu, -⟩ := ht.st hg; exact ⟨_, hu⟩
      | false => obtain ⟨-, -, d, hu, -⟩ := ht.nst hg; exact ⟨_, hu⟩
    · exact hs.elim
  obtain ⟨ds, hds⟩ := hsd
  split at h
  · rename_i ti hti
    split at h
    · rename_i k ki n hk
      cases hx
      have hdd := (hE _ _ hti).kd k hk
      exact ⟨.int k (k.wrap n), _, by simp [convert, run_underlying hds, run_underlying hdd, Conv.intToInt], .v _ rfl, h⟩
    · exact h.elim
  · exact h.elim

theorem aIdx_sound {E : Env} (hE : EOk E) {w : World} {M : Nat → Prop} {T : Nat} {x i : AV} {u v : Value} (hx : VRel w M x u) (hi : VRel w M i v) {K : AV → Prop} (h : aIdx E T x i K) :
    ∃ r av, (Instr.index T u v).run E.P w = .ok r w ∧ VRel w M av r ∧ K av := by
  unfold aIdx at h
  split at h
  · rename_i s k n
    obtain ⟨hstr, h0, hlt, h⟩ := h
    cases hx; cases hi
    unfold Env.isStr at hstr
    split at hstr
    · rename_i ti hti
      have hu := (hE _ _ hti).str hstr
      refine ⟨_, _, ?_, .v _ rfl, h⟩
      simp [Instr.index, asIntOf, run_underlying hu, h0, hlt]
    · exact hstr.elim
  · exact h.elim

theorem aExtract_sound {P : Program} {w : World} {M : Nat → Prop} {x : AV} {u : Value} {i : Nat} (hx : VRel w M x u) {K : AV → Prop} (h : aExtract x i K) :
    ∃ r av, (Instr.extract u i).run P w = .ok r w ∧ VRel w M av r ∧ K av := by
  unfold aExtract at h
  split at h
  · rename_i l
    split at h
    · rename_i av hav
      cases hx with
      | tup l xs hs hl =>
        have hlt : i < xs.size := by rw [hs]; exact (List.getElem?_eq_some_iff.1 hav).1
        exact ⟨xs.getD i undef, av, by simp [Instr.extract, hlt], hl _ _ hav, h⟩
    · exact h.elim
  · exact h.elim

theorem aPure_sound {E : Env} (hE : EOk E) {st : ASt} {a : Act} {w : World} (hR : Rep E.w0 E.base st a w) {o : Oper} {K : AV → Prop} (h : aPure E st o.op K) :
    ∃ r av, (execOp a.eval o).run E.P w = .ok (.value r) w ∧ VRel w st.h.M av r ∧ K av := by
  have hv := fun x => VRel.ev hR x
  obtain ⟨Es, hH⟩ := hR.heap
  unfold aPure at h
  split at h
  · rename_i x ho; exact ⟨_, _, by simp [execOp, ho], hv x, h⟩
  · rename_i x ho; exact ⟨_, _, by simp [execOp, ho], hv x, h⟩
  · rename_i c x y ho
    obtain ⟨b, hb, h⟩ := aTest_sound (hv c) h
    cases b with
    | true => exact ⟨_, _, by simp [execOp, ho, hb, asBool], hv x, h.1 rfl⟩
    | false => exact ⟨_, _, by simp [execOp, ho, hb, asBool], hv y, h.2 rfl⟩
  · rename_i T parts ho
    obtain ⟨r, av, h1, h2, h3⟩ := aBuild_sound hE (w := w) (M := st.h.M) (vparts := parts.map fun (i, x) => (i, a.eval x)) (by simp) (fun i p hi => by
      simp only [List.getElem?_map, Option.map_eq_some_iff] at hi
      obtain ⟨q, hq, rfl⟩ := hi
      exact ⟨a.eval q.2, by simp at hq ⊢; exact ⟨q.1, q.2, hq, rfl, rfl⟩, hv _⟩) h
    exact ⟨r, av, by simp [execOp, ho, h1], h2, h3⟩
  · rename_i T x ho
    unfold aLoad at h
    split at h
    · rename_i ti hti
      obtain ⟨r, av, h1, h2, h3⟩ := loadAt_sound hH (hE _ _ hti) (hv x) h
      exact ⟨r, av, by simp [execOp, ho, h1], h2, h3⟩
    · exact h.elim
  · rename_i x ho
    obtain ⟨hK, hcase⟩ := aNil_sound (hv x) h
    refine ⟨_, _, ?_, hv x, hK⟩
    rcases hcase with ⟨ad, hu⟩ | ⟨f, y, z, hu⟩ <;> simp [execOp, ho, hu]
  · rename_i op T x y ty ho
    obtain ⟨r, av, h1, hg, h2, h3⟩ := aBin2_sound hE (hv x) (hv y) h
    exact ⟨r, av, by simp [execOp, ho, hg, h1], h2, h3⟩
  · rename_i T x ho
    obtain ⟨b, hb, h⟩ := aTest_sound (hv x) h
    exact ⟨.bool (!b), _, by simp [execOp, ho, hb, Op.unary], .v _ rfl, h⟩
  · rename_i s d x ho
    obtain ⟨r, av, h1, h2, h3⟩ := aConv_sound hE (hv x) h
    exact ⟨r, av, by simp [execOp, ho, h1], h2, h3⟩
  · rename_i f first caps ho
    obtain ⟨hf, h⟩ := h
    have hf' : first = #[] := by simpa using hf
    subst hf'
    exact ⟨.func (.func f) #[] (caps.map a.eval), _, by simp [execOp, ho, Instr.makeFunc], .clo _ _ _ (by simp) (ev_list hR _ _ (by cases caps; simp)), h⟩
  · rename_i T x lo hi ho
    obtain ⟨r, av, h1, h2, h3⟩ := aSlice_sound hE (hv x) (vlo := lo.map a.eval) (vhi := hi.map a.eval) (Option.map_none_of _) (fun y hy => opt_rel hv hy)
      (Option.map_none_of _) (fun y hy => opt_rel hv hy) h
    exact ⟨r, av, by simp [execOp, ho, h1], h2, h3⟩
  · rename_i T x f ho
    unfold aField at h
    split at h
    · rename_i ti hti
      obtain ⟨r, av, h1, h2, h3⟩ := fieldAt_sound (hE _ _ hti) (hv x) h
      exact ⟨r, av, by simp [execOp, ho, h1], h2, h3⟩
    · exact h.elim
  · rename_i T x i ho
    obtain ⟨e, te, inf, hu, ht, hi, hs, -, h⟩ := elemT_some hE h
    obtain ⟨r, av, h1, h2, h3⟩ := indexAt_sound hu hi hs (hv x) (hv i) h
    exact ⟨r, av, by simp [execOp, ho, h1], h2, h3⟩
  · rename_i T x i ho
    obtain ⟨r, av, h1, h2, h3⟩ := aIdx_sound hE (hv x) (hv i) h
    exact ⟨r, av, by simp [execOp, ho, h1], h2, h3⟩
  · rename_i x i ho
    obtain ⟨r, av, h1, h2, h3⟩ := aExtract_sound (P := E.P) (hv x) h
    exact ⟨r, av, by simp [execOp, ho, h1], h2, h3⟩
  · exact h.elim

end Go.AM
