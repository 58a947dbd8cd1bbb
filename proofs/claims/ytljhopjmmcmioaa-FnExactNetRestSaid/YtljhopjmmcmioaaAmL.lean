/-
  The abstract machine is sound: operations, regions, code.
-/
import Derived.Test.YtljhopjmmcmioaaAmK
namespace Go.AM
open Go.RowKit

theorem parts_rel {w : World} {M : Nat → Prop} {st : ASt} {a : Act} (hv : ∀ x, VRel w M (st.ev x) (a.eval x)) (parts : Array (Nat × Operand)) :
    (parts.map fun (i, x) => (i, a.eval x)).toList.length = (parts.toList.map fun q => (q.1, st.ev q.2)).length ∧
    ∀ (i : Nat) (p : Nat × AV), (parts.toList.map fun q => (q.1, st.ev q.2))[i]? = some p → ∃ v, (parts.map fun (i, x) => (i, a.eval x)).toList[i]? = some (p.1, v) ∧ VRel w M p.2 v := by
  refine ⟨by simp, fun i p hi => ?_⟩
  simp only [List.getElem?_map, Option.map_eq_some_iff] at hi
  obtain ⟨q, hq, rfl⟩ := hi
  exact ⟨a.eval q.2, by simp at hq ⊢; exact ⟨q.1, q.2, hq, rfl, rfl⟩, hv _⟩

theorem aLen_sound {E : Env} (hE : EOk E) {w : World} {M : Nat → Prop} {T ty : Nat} {x : AV} {u : Value} (hx : VRel w M x u) {K : AV → Prop} (h : aLen E T x K) :
    ∃ r av, (Builtin.len_ #[T] ty #[u]).run E.P w = .ok r w ∧ VRel w M av r ∧ K av := by
  unfold aLen at h
  split at h
  · obtain ⟨e, te, i, hu, -, -, -, -, h⟩ := elemT_some hE h
    cases hx with
    | ro rows x hr => cases hr <;> exact ⟨_, _, by simp [Builtin.len_, run_underlying hu, goInt], .v _ rfl, h⟩
  · rename_i kk H ss oo ll
    obtain ⟨e, te, i, hu, -, -, -, -, h⟩ := elemT_some hE h
    cases hx with
    | sl _ _ _ _ _ _ hx =>
      cases H with
      | none => obtain ⟨⟨a, rfl⟩, rfl⟩ := hx; exact ⟨_, _, by simp [Builtin.len_, run_underlying hu, goInt], .v _ rfl, h⟩
      | some q =>
        obtain ⟨b, o, C⟩ := q
        rcases hx with ⟨rfl, _⟩ | ⟨rfl, _, a, rfl⟩ <;> exact ⟨_, _, by simp [Builtin.len_, run_underlying hu, goInt], .v _ rfl, h⟩
  · obtain ⟨e, te, i, hu, -, -, -, -, h⟩ := elemT_some hE h
    cases hx with
    | cv _ _ hh => obtain ⟨a, c, rfl⟩ := hh; exact ⟨_, _, by simp [Builtin.len_, run_underlying hu, goInt], .v _ rfl, h⟩
  · obtain ⟨e, te, i, hu, -, -, -, -, h⟩ := elemT_some hE h
    cases hx with
    | ml _ _ _ _ _ hh => obtain ⟨a, c, rfl⟩ := hh.slice; exact ⟨_, _, by simp [Builtin.len_, run_underlying hu, goInt], .v _ rfl, h⟩
  · obtain ⟨e, te, i, hu, -, -, -, -, h⟩ := elemT_some hE h
    cases hx
    exact ⟨_, _, by simp [Builtin.len_, run_underlying hu, goInt], .v _ rfl, h⟩
  · obtain ⟨hstr, h⟩ := h
    cases hx
    unfold Env.isStr at hstr
    split at hstr
    · rename_i ti hti
      exact ⟨_, _, by simp [Builtin.len_, run_underlying ((hE _ _ hti).str hstr), goInt], .v _ rfl, h⟩
    · exact hstr.elim
  · exact h.elim

theorem run_callFunc {P : Program} {f : Nat} (hf : FnOk P f) (args : Array Value) (w : World) : (callFunc f args).run P w = .ok (.enter f args) w := by
  obtain ⟨fn, h1, h2, h3⟩ := hf
  simp only [callFunc, Sem.run_bind, run_program, Result.andThen_ok, h1]
  simp [h2, h3]

theorem arr_map {α β : Type} (x : Array α) (f : α → β) : (x.map f) = (x.toList.map f).toArray := by cases x; simp

theorem aOp_sound {E : Env} (hE : EOk E) {st : ASt} {a : Act} {w : World} (hR : Rep E.w0 E.base st a w) {o : Oper} {K : ASt → Prop} (h : aOp E o st K) {next : Act → World → Prop} {Q : Exit → Act → World → Prop}
    (hn : ∀ r w', StepR E.w0 E.base st a w o.dst r w' K → next (a.put o.dst r) w') : o.wp E.P a w next Q := by
  have hv := fun x => VRel.ev hR x
  have put : ∀ {r : Value} {av : AV}, VRel w st.h.M av r → aPut st o.dst av K → next (a.put o.dst r) w := by
    intro r av h1 h2
    obtain ⟨h3, h4⟩ := hR.put h1 h2
    exact hn _ _ ⟨_, _, h3, h4, fun _ => Tr.refl _ _, h1⟩
  have fin : ∀ {r : Value} {w' : World}, StepR E.w0 E.base st a w o.dst r w' K → next (a.put o.dst r) w' := fun h => hn _ _ h
  have call : ∀ (f : Nat) (l : List AV) (xs : Array Value), ACall E f l st o.dst K → xs.size = l.length → (∀ i av, l[i]? = some av → VRel w st.h.M av (xs.getD i undef)) →
      Oper.upon E.P o a next Q (.ok (.enter f xs) w) := by
    intro f l xs hc hs hx
    rw [Oper.upon_enter]
    refine (hc.2 a w hR xs hs hx).mono ?_
    rintro e w' ⟨v, av, h', rfl, hK, hR', ht, hv'⟩
    exact hn _ _ ⟨av, h', hK, hR', ht, hv'⟩
  unfold aOp at h
  unfold Oper.wp
  split at h
  · rename_i T ho
    obtain ⟨r, w', h1, h2⟩ := aAlloc_sound hE hR h
    simp only [execOp, ho, Sem.run_bind, h1, Result.andThen_ok, Sem.run_pure]
    exact fin h2
  · rename_i T x ho
    obtain ⟨r, w', h1, h2⟩ := aBox_sound hR (hv x) h
    simp only [execOp, ho, Sem.run_bind, h1, Result.andThen_ok, Sem.run_pure]
    exact fin h2
  · rename_i T len parts ho
    obtain ⟨hl, hp⟩ := parts_rel hv parts
    obtain ⟨r, w', h1, h2⟩ := aBuildSlice_sound hE hR hl hp h
    simp only [execOp, ho, Sem.run_bind, h1, Result.andThen_ok, Sem.run_pure]
    exact fin h2
  · rename_i T l c ho
    obtain ⟨r, w', h1, h2⟩ := aMake_sound hE hR (hv l) (hv c) h
    simp only [execOp, ho, Sem.run_bind, h1, Result.andThen_ok, Sem.run_pure]
    exact fin h2
  · rename_i T x y ho
    obtain ⟨w', h', h1, h2, h3⟩ := aStore_sound hE hR (hv x) (hv y) h
    simp only [execOp, ho, Sem.run_bind, h1, Result.andThen_ok, Sem.run_pure]
    exact hn _ _ (h3.put (VRel.un) h2)
  · rename_i c ho
    unfold aCall at h
    split at h
    · rename_i x T hc ha ht
      obtain ⟨r, av, h1, h2, h3⟩ := aLen_sound hE (ty := o.type) (hv x) h
      have ha' : c.args = #[x] := by cases hq : c.args; simp_all
      have ht' : c.argTypes = #[T] := by cases hq : c.argTypes; simp_all
      simp [execOp, ho, resolve, hc, ha', ht', invoke, builtin, h1]
      exact put h2 h3
    · rename_i x y hc ha
      unfold aMin at h
      split at h
      · rename_i k p k' q hx hy
        have ha' : c.args = #[x, y] := by cases hq : c.args; simp_all
        have h1 := hv x; rw [hx] at h1
        have h2 := hv y; rw [hy] at h2
        generalize hu : a.eval x = u at h1; generalize hu' : a.eval y = u' at h2
        cases h1; cases h2
        simp [execOp, ho, resolve, hc, ha', invoke, builtin, hu, hu', run_min_int2]
        exact put (.v _ rfl) h
      · exact h.elim
    · rename_i x y hc ha
      unfold aMax at h
      split at h
      · rename_i k p k' q hx hy
        have ha' : c.args = #[x, y] := by cases hq : c.args; simp_all
        have h1 := hv x; rw [hx] at h1
        have h2 := hv y; rw [hy] at h2
        generalize hu : a.eval x = u at h1; generalize hu' : a.eval y = u' at h2
        cases h1; cases h2
        simp [execOp, ho, resolve, hc, ha', invoke, builtin, hu, hu', run_max_int2]
        exact put (.v _ rfl) h
      · exact h.elim
    · rename_i s x T T' hc ha ht
      obtain ⟨rfl, h⟩ := h
      obtain ⟨r, w', h1, h2⟩ := aAppend_sound hE (ty := o.type) hR (hv s) (hv x) h
      have ha' : c.args = #[s, x] := by cases hq : c.args; simp_all
      have ht' : c.argTypes = #[T, T] := by cases hq : c.argTypes; simp_all
      simp [execOp, ho, resolve, hc, ha', ht', invoke, builtin, h1]
      exact fin h2
    · rename_i f hc
      have hrun : (execOp a.eval o).run E.P w = .ok (.enter f (c.args.map a.eval)) w := by
        simp [execOp, ho, resolve, hc, Act.eval, Deferred.ofValue, invoke, run_callFunc h.1]
      rw [hrun]
      refine call f _ _ h (by simp) (ev_list hR c.args.toList _ (arr_map _ _))
    · rename_i t hc
      have ht := hv (.tmp t)
      split at h
      · rename_i f caps hg
        have hg' : st.ev (.tmp t) = .clo f caps := hg
        rw [hg'] at ht
        generalize hu : a.eval (.tmp t) = u at ht
        cases ht with
        | clo _ _ xs hs hl =>
          have hrun : (execOp a.eval o).run E.P w = .ok (.enter f (c.args.map a.eval ++ xs)) w := by
            simp [execOp, ho, resolve, hc, hu, Deferred.ofValue, invoke, run_callFunc h.1]
          rw [hrun]
          refine call f _ _ h (by simp [hs]) ?_
          intro i av hi
          by_cases hlt : i < (c.args.toList.map st.ev).length
          · rw [List.getElem?_append_left hlt] at hi
            have := ev_list hR c.args.toList _ (arr_map c.args a.eval) i av hi
            simp only [List.length_map, Array.length_toList] at hlt
            rw [Array.getD_eq_getD_getElem?, Array.getElem?_append_left (by simpa using hlt)]
            rw [Array.getD_eq_getD_getElem?] at this
            exact this
          · rw [List.getElem?_append_right (by omega)] at hi
            have := hl _ _ hi
            simp only [List.length_map, Array.length_toList] at hlt this
            rw [Array.getD_eq_getD_getElem?, Array.getElem?_append_right (by simpa using hlt)]
            rw [Array.getD_eq_getD_getElem?] at this
            simpa using this
      · rename_i f p q hg
        have hg' : st.ev (.tmp t) = .v (.func (.func f) p q) := hg
        rw [hg'] at ht
        generalize hu : a.eval (.tmp t) = u at ht
        cases ht with
        | v _ hp =>
          simp [plain] at hp
          obtain ⟨rfl, rfl⟩ := hp
          have hrun : (execOp a.eval o).run E.P w = .ok (.enter f (c.args.map a.eval)) w := by
            simp [execOp, ho, resolve, hc, hu, Deferred.ofValue, invoke, run_callFunc h.1]
          rw [hrun]
          refine call f _ _ h (by simp) (ev_list hR c.args.toList _ (arr_map _ _))
      · exact h.elim
    · exact h.elim
  · obtain ⟨r, av, h1, h2, h3⟩ := aPure_sound hE hR h
    rw [h1]
    exact put h2 h3

theorem getD_some {tmps : Array Value} {d : Nat} {b : Bool} (h : tmps.getD d undef = .bool b) : tmps[d]? = some (.bool b) := by
  simp only [Array.getD_eq_getD_getElem?] at h
  cases hx : tmps[d]? with
  | none => rw [hx] at h; simp [undef] at h
  | some v => rw [hx] at h; simpa using h

theorem aOps_sound {E : Env} (hE : EOk E) {ops : Array Oper} {K : ASt → Prop} {Qc : Exit → Act → World → Prop} (hn : ∀ st' a' w', K st' → Rep E.w0 E.base st' a' w' → Qc .normal a' w') :
    ∀ (l : List Oper) (st : ASt) (a : Act) (w : World), Rep E.w0 E.base st a w → aOps E ops.toList l K st → wpList E.P ops Qc l a w
  | [], st, a, w, hR, h => hn _ _ _ h hR
  | o :: rest, st, a, w, hR, h => by
    have ih := aOps_sound (ops := ops) hE hn rest
    have run : aOp E o st (aOps E ops.toList rest K) → o.wp E.P a w (wpList E.P ops Qc rest) Qc := fun h => aOp_sound hE hR h (fun r w' ⟨av, h', hK, hR', _, _⟩ => ih _ _ w' hR' hK)
    have skip : aPut st o.dst .un (aOps E ops.toList rest K) → wpList E.P ops Qc rest (a.put o.dst undef) w := by
      intro h
      obtain ⟨h1, h2⟩ := hR.put .un h
      exact ih _ _ _ h2 h1
    unfold aOps aWant at h
    unfold wpList
    split at h
    · rename_i hg
      rw [if_pos (by simp [Region.wanted, hg])]
      exact .inl (run h)
    · rename_i j want hg
      split at h
      · rename_i d hd
        have hd' : (ops[j]?).bind (·.dst) = some d := by simpa [gslot] using hd
        split at h
        · rename_i b hb
          have hv := hR.tmp d
          rw [hb] at hv
          generalize hu : a.tmps.getD d undef = u at hv
          cases hv
          have hy : yielded ops a.tmps j = some b := by simp [yielded, hd', getD_some hu]
          by_cases hbw : b = want
          · rw [if_pos (by simp [Region.wanted, hg, hy, hbw])]
            exact .inl (run (h.1 hbw))
          · rw [if_neg (by simp [Region.wanted, hg, hy, hbw])]
            exact skip (h.2 (by cases b <;> cases want <;> simp_all))
        · rename_i hb
          have hv := hR.tmp d
          rw [hb] at hv
          generalize hu : a.tmps.getD d undef = u at hv
          cases hv
          have hy : yielded ops a.tmps j = none := by
            simp only [yielded, hd', Option.bind_some]
            simp only [Array.getD_eq_getD_getElem?] at hu
            cases hx : a.tmps[d]? with
            | none => rfl
            | some v => rw [hx] at hu; simp at hu; subst hu; rfl
          rw [if_neg (by simp [Region.wanted, hg, hy])]
          exact skip h
        · exact h.elim
      · exact h.elim

theorem aSem_sound {E : Env} (hE : EOk E) : ∀ (c : Code) (Q : Exit → ASt → Prop) (st : ASt) (a : Act) (w : World), Rep E.w0 E.base st a w → aSem E c Q st → c.wp E.P (fun e a' w' => ∃ st', Q e st' ∧ Rep E.w0 E.base st' a' w') a w
  | .skip, Q, st, a, w, hR, h => wp_skip ⟨st, h, hR⟩
  | .region id ops draw, Q, st, a, w, hR, h => by
    unfold aSem at h
    cases draw with
    | true =>
      rw [if_pos rfl] at h
      have := h a w hR
      rw [Array.toArray_toList] at this
      exact this
    | false =>
      rw [if_neg (by simp)] at h
      exact wp_region_list (aOps_sound hE (K := Q .normal) (fun st' a' w' h1 h2 => ⟨st', h1, h2⟩) _ st a w hR h)
  | .seq x y, Q, st, a, w, hR, h => by
    refine wp_seq (wp_mono (aSem_sound hE x _ st a w hR h) ?_)
    rintro e a' w' ⟨st', hq, hR'⟩
    cases e with
    | normal => exact aSem_sound hE y Q st' a' w' hR' hq
    | _ => exact ⟨st', hq, hR'⟩
  | .cond c x y, Q, st, a, w, hR, h => by
    obtain ⟨b, hb, h⟩ := aTest_sound (VRel.ev hR c) h
    cases b with
    | true => exact wp_cond_true hb (aSem_sound hE x Q st a w hR (h.1 rfl))
    | false => exact wp_cond_false hb (aSem_sound hE y Q st a w hR (h.2 rfl))
  | .block id x, Q, st, a, w, hR, h => by
    refine wp_block (wp_mono (aSem_sound hE x _ st a w hR h) ?_)
    rintro e a' w' ⟨st', hq, hR'⟩
    cases e with
    | exit j =>
      simp only [blkQ] at hq
      simp only [Exit.inBlock]
      split at hq
      · rename_i hj; rw [if_pos hj]; exact ⟨st', hq, hR'⟩
      · rename_i hj; rw [if_neg hj]; exact ⟨st', hq, hR'⟩
    | _ => exact ⟨st', hq, hR'⟩
  | .loop x, Q, st, a, w, hR, h => h a w hR
  | .exit id, Q, st, a, w, hR, h => wp_exit ⟨st, h, hR⟩
  | .ret, Q, st, a, w, hR, h => wp_ret ⟨st, h, hR⟩
  | .rangeFunc .., Q, st, a, w, hR, h => h.elim
  | .scope _, Q, st, a, w, hR, h => h.elim
  | .label _, Q, st, a, w, hR, h => h.elim
  | .goto _, Q, st, a, w, hR, h => h.elim
  | .refuse _, Q, st, a, w, hR, h => h.elim

end Go.AM
