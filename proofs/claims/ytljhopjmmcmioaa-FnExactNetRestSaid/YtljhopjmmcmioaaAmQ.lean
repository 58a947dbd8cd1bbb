/-
  Regions that draw their order (second part): what is asked, and that it suffices.
-/
import Derived.Test.YtljhopjmmcmioaaAmP
import Derived.Orders
namespace Go.AM
open Go.RowKit

def roV : RV → AV
  | .c d _ => toAV d
  | .agg ts => .agg (ts.map fun t => toAV t.1)

def roR : RR → AV
  | .one r => roV r
  | .tup l => .tup (l.map roV)

/-- a call whose result is only read -/
def SCall (E : Env) (f : Nat) (avs : List AV) (h : AH) (K : AV → Prop) : Prop := ∃ args rr, PureC E.P f args rr ∧ aInVs E.rd h avs args ∧ K (roR rr)

/-- an operation that leaves the abstract heap as it is -/
def aStl (E : Env) (st : ASt) (op : Op) (K : AV → Prop) : Prop :=
  match op with
  | .call c => match c.callee, c.args.toList, c.argTypes.toList with
    | .builtin .len, [x], [T] => aLen E T (st.ev x) K
    | .builtin .min, [x, y], _ => aMin (st.ev x) (st.ev y) K
    | .builtin .max, [x, y], _ => aMax (st.ev x) (st.ev y) K
    | .value (.func f), args, _ => SCall E f (args.map st.ev) st.h K
    | _, _, _ => False
  | op => aPure E st op K

def aStlW (E : Env) (all : List Oper) (o : Oper) (st : ASt) (K : AV → Prop) : Prop :=
  match o.guard with
  | none => aStl E st o.op K
  | some (j, want) => match gslot all j with
    | some d => match getT st.t d with
      | .v (.bool b) => (b = want → aStl E st o.op K) ∧ (b = !want → K .un)
      | .un => K .un
      | _ => False
    | none => False

theorem aStl_det (E : Env) (st : ASt) (op : Op) : CPd (aStl E st op) := by
  intro K h
  unfold aStl at h ⊢
  split at h
  · split at h
    · unfold aLen at h ⊢
      split at h
      · exact elemT_det (p := fun _ _ K => K _) (fun _ _ => pure_det _) K h
      · exact elemT_det (p := fun _ _ K => K _) (fun _ _ => pure_det _) K h
      · exact elemT_det (p := fun _ _ K => K _) (fun _ _ => pure_det _) K h
      · exact elemT_det (p := fun _ _ K => K _) (fun _ _ => pure_det _) K h
      · exact elemT_det (p := fun _ _ K => K _) (fun _ _ => pure_det _) K h
      · exact ⟨_, h.2, h.1, rfl⟩
      · exact h.elim
    · unfold aMin at h ⊢
      split at h
      · exact ⟨_, h, rfl⟩
      · exact h.elim
    · unfold aMax at h ⊢
      split at h
      · exact ⟨_, h, rfl⟩
      · exact h.elim
    · obtain ⟨args, rr, h1, h2, h3⟩ := h
      exact ⟨_, h3, args, rr, h1, h2, rfl⟩
    · exact h.elim
  · exact aPure_det E st _ K h

theorem aStlW_det (E : Env) (all : List Oper) (o : Oper) (st : ASt) : CPd (aStlW E all o st) := by
  intro K h
  unfold aStlW at h ⊢
  split at h
  · exact aStl_det E st _ K h
  · rename_i j want _
    split at h
    · split at h
      · rename_i b _
        by_cases hb : b = want
        · obtain ⟨v, h1, h2⟩ := aStl_det E st _ K (h.1 hb)
          exact ⟨v, h1, fun _ => h2, fun h' => by subst hb; cases b <;> simp at h'⟩
        · exact ⟨.un, h.2 (by cases b <;> cases want <;> simp_all), fun h' => absurd h' hb, fun _ => rfl⟩
      · exact ⟨_, h, rfl⟩
      · exact h.elim
    · exact h.elim

/-- what an operation looks at -/
def opSlots (o : Oper) : List Nat := o.op.operands.toList.filterMap fun | .tmp t => some t | _ => none
def gSlots (all : List Oper) (o : Oper) : List Nat :=
  match o.guard with
  | some (j, _) => (gslot all j).toList
  | none => []

theorem ev_congr {st st' : ASt} {x : Operand} (h : ∀ t, x = .tmp t → getT st'.t t = getT st.t t) : st'.ev x = st.ev x := by
  cases x with
  | tmp t => exact h t rfl
  | _ => rfl

theorem aStl_congr {E : Env} {st st' : ASt} {op : Op} {K : AV → Prop} (he : ∀ x ∈ op.operands, st'.ev x = st.ev x) (hh : st'.h = st.h) (h : aStl E st op K) : aStl E st' op K := by
  unfold aStl at h ⊢
  split at h
  · rename_i c
    have ha : ∀ x ∈ c.args.toList, st'.ev x = st.ev x := fun x hx => he x (by simp only [Op.operands, Call.operands, Array.mem_append]; exact .inr (by simpa using hx))
    split at h
    · rename_i x T _ hargs _
      rw [ha x (by rw [hargs]; simp)]; exact h
    · rename_i x y _ hargs
      rw [ha x (by rw [hargs]; simp), ha y (by rw [hargs]; simp)]; exact h
    · rename_i x y _ hargs
      rw [ha x (by rw [hargs]; simp), ha y (by rw [hargs]; simp)]; exact h
    · rw [hh, List.map_congr_left ha]; exact h
    · exact h.elim
  · unfold aPure at h ⊢
    split at h
    all_goals first
      | exact h.elim
      | (simp only [Op.operands, List.mem_toArray, List.mem_cons, List.not_mem_nil, or_false, forall_eq_or_imp, forall_eq] at he; first | rw [he]; exact h | (rw [he, hh]; exact h) | (rw [he.1, he.2]; exact h) | (rw [he.1, he.2.1, he.2.2]; exact h))
      | skip
    · rename_i T parts _
      have : (parts.toList.map fun q => (q.1, st'.ev q.2)) = parts.toList.map fun q => (q.1, st.ev q.2) := by
        refine List.map_congr_left fun q hq => ?_
        rw [he q.2 (by simp only [Op.operands, List.mem_toArray, List.mem_map]; exact ⟨q, hq, rfl⟩)]
      rw [this]; exact h
    · rename_i f first caps _
      have : caps.toList.map st'.ev = caps.toList.map st.ev := List.map_congr_left fun x hx => he x (by simp only [Op.operands, Array.mem_append]; exact .inr (by simpa using hx))
      rw [this]; exact h
    · rename_i T x lo hi _
      rw [he x (by simp [Op.operands])]
      have h1 : lo.map st'.ev = lo.map st.ev := by
        cases lo with
        | none => rfl
        | some y => simp only [Option.map_some]; rw [he y (by simp [Op.operands])]
      have h2 : hi.map st'.ev = hi.map st.ev := by
        cases hi with
        | none => rfl
        | some y => simp only [Option.map_some]; rw [he y (by simp [Op.operands])]
      rw [h1, h2]; exact h

theorem opSlots_mem {o : Oper} {x : Operand} (hx : x ∈ o.op.operands) {t : Nat} (ht : x = .tmp t) : t ∈ opSlots o := by
  unfold opSlots
  rw [List.mem_filterMap]
  exact ⟨x, by simpa using hx, by rw [ht]⟩

theorem aStlW_congr {E : Env} {all : List Oper} {o : Oper} {st st' : ASt} {K : AV → Prop} (he : ∀ s, s ∈ opSlots o ∨ s ∈ gSlots all o → getT st'.t s = getT st.t s) (hh : st'.h = st.h) (h : aStlW E all o st K) : aStlW E all o st' K := by
  have key : aStl E st o.op K → aStl E st' o.op K := aStl_congr (fun x hx => ev_congr fun t ht => he t (.inl (opSlots_mem hx ht))) hh
  unfold aStlW at h ⊢
  split at h
  · exact key h
  · rename_i j want hg
    split at h
    · rename_i d hd
      have : getT st'.t d = getT st.t d := he d (.inr (by simp [gSlots, hg, hd]))
      rw [this]
      split at h
      · exact ⟨fun hb => key (h.1 hb), h.2⟩
      · exact h
      · exact h.elim
    · exact h.elim

theorem RdTop.rd {w : World} {S : Nat → Prop} {v : Value} {t : CD × Nat} (h : RdTop w S v t) : Rd w true S v t.1 := by
  obtain ⟨d, sz⟩ := t
  cases d with
  | v u => obtain ⟨rfl, hp⟩ := h; exact .plain hp
  | h => exact h.elim
  | s rows =>
    obtain ⟨h1, h2, h3⟩ := h
    rcases h3 with ⟨rfl, a, rfl⟩ | ⟨b, off, cap, cs, T, F, rfl, g2, g3, g4, g5, g6, g7, g8, g9⟩
    · exact .empty _ _ (fun _ => rfl)
    · exact .slice b off cap sz cs T (0, 0) rows F g4 g5 h1 g2 g3 (by have := Nat.mul_le_mul_right sz g4; omega) (fun _ => ⟨rfl, g6⟩) (fun i j c hc => ⟨(g7 i j c hc).1, fun _ => (g7 i j c hc).2⟩) (fun _ => g8) h2 g9

theorem roV_rel {w : World} {M S : Nat → Prop} {v : Value} {r : RV} (h : RdRV w S v r) (hM : ∀ c, S c → ¬ M c) : VRel w M (roV r) v := by
  cases r with
  | c d sz => exact toAV_rel ((RdTop.rd h).weaken.map (fun _ _ _ => rfl) (fun c hc _ => hM c hc))
  | agg ts =>
    obtain ⟨xs, F, rfl, h2, h3, h4, h5⟩ := h
    refine .agg _ _ (by simp [h2]) (fun i av hi => ?_)
    simp only [List.getElem?_map, Option.map_eq_some_iff] at hi
    obtain ⟨t, ht, rfl⟩ := hi
    exact toAV_rel ((RdTop.rd (h5 i t ht)).weaken.map (fun _ _ _ => rfl) (fun c hc _ => hM c (h3 i c hc)))

theorem roR_rel {w : World} {M S : Nat → Prop} {v : Value} {r : RR} (h : RdRR w S v r) (hM : ∀ c, S c → ¬ M c) : VRel w M (roR r) v := by
  cases r with
  | one r => exact roV_rel h hM
  | tup l =>
    obtain ⟨xs, F, rfl, h2, h3, h4, h5⟩ := h
    refine .tup _ _ (by simp [h2]) (fun i av hi => ?_)
    simp only [List.getElem?_map, Option.map_eq_some_iff] at hi
    obtain ⟨t, ht, rfl⟩ := hi
    exact roV_rel (h5 i t ht) (fun c hc => hM c (h3 i c hc))

/-- behind such an operation -/
structure Quiet (base : Bs) (h : AH) (w w' : World) (v : AV) (r : Value) : Prop where
  rel : ∃ E, HRel base h w' E
  tr : Tr h.M w h.M w'
  same : Same w w'
  val : VRel w' h.M v r

theorem aStl_exec {E : Env} (hE : EOk E) {st : ASt} {a : Act} {w : World} (hR : Rep E.w0 E.base st a w) {o : Oper} {v : AV} (h : aStl E st o.op (fun v' => v' = v)) {next : Act → World → Prop} {Q : Exit → Act → World → Prop}
    (hn : ∀ r w', Quiet E.base st.h w w' v r → next (a.put o.dst r) w') : o.wp E.P a w next Q := by
  have hv := fun x => VRel.ev hR x
  obtain ⟨Es, hH⟩ := hR.heap
  have put : ∀ {r : Value} {av : AV}, VRel w st.h.M av r → av = v → next (a.put o.dst r) w := by
    rintro r av h1 rfl
    exact hn _ _ ⟨⟨Es, hH⟩, Tr.refl _ _, ⟨rfl, rfl, rfl⟩, h1⟩
  unfold aStl at h
  unfold Oper.wp
  split at h
  · rename_i c ho
    split at h
    · rename_i x T hc ha ht
      obtain ⟨r, av, h1, h2, h3⟩ := aLen_sound hE (ty := o.type) (hv x) h
      have ha' : c.args = #[x] := by cases hq : c.args; simp_all
      have ht' : c.argTypes = #[T] := by cases hq : c.argTypes; simp_all
      simp [execOp, ho, resolve, hc, ha', ht', invoke, builtin, h1]
      exact put h2 h3
    · rename_i x y hc ha
      unfold aMin at h
      split at h
      · rename_i k p k' q hx hy
        have ha' : c.args = #[x, y] := by cases hq : c.args; simp_all
        have h1 := hv x; rw [hx] at h1
        have h2 := hv y; rw [hy] at h2
        generalize hu : a.eval x = u at h1; generalize hu' : a.eval y = u' at h2
        cases h1; cases h2
        simp [execOp, ho, resolve, hc, ha', invoke, builtin, hu, hu', run_min_int2]
        exact put (.v _ rfl) h
      · exact h.elim
    · rename_i x y hc ha
      unfold aMax at h
      split at h
      · rename_i k p k' q hx hy
        have ha' : c.args = #[x, y] := by cases hq : c.args; simp_all
        have h1 := hv x; rw [hx] at h1
        have h2 := hv y; rw [hy] at h2
        generalize hu : a.eval x = u at h1; generalize hu' : a.eval y = u' at h2
        cases h1; cases h2
        simp [execOp, ho, resolve, hc, ha', invoke, builtin, hu, hu', run_max_int2]
        exact put (.v _ rfl) h
      · exact h.elim
    · rename_i f hc
      obtain ⟨args, rr, hpc, hin, hv'⟩ := h
      have hrun : (execOp a.eval o).run E.P w = .ok (.enter f (c.args.map a.eval)) w := by
        simp [execOp, ho, resolve, hc, Act.eval, Deferred.ofValue, invoke, run_callFunc hpc.1]
      rw [hrun, Oper.upon_enter]
      obtain ⟨hl, hr⟩ := aInVs_sound hH hR.rd _ args (ev_list hR c.args.toList (c.args.map a.eval) (arr_map _ _)) hin
      refine (hpc.2 w _ (by simp at hl ⊢; exact hl) hr).mono ?_
      rintro e w' ⟨u, rfl, hb, hrr⟩
      have t : Tr st.h.M w st.h.M w' := ⟨hb.size, fun b hlt _ => hb.block b hlt, fun b _ h => h⟩
      refine hn _ _ ⟨⟨Es, fun k => (hH.obj k).tr t (fun b hk => hb.block b (hH.lt hk)) (fun c hc _ => hc), hH.inj, hH.low, fun k c hc => ⟨(hH.elow k c hc).1, Nat.lt_of_lt_of_le (hH.elow k c hc).2 hb.size⟩, hH.einj, hH.em⟩, t, ⟨hb.os, hb.tape, hb.output⟩, ?_⟩
      subst hv'
      exact roR_rel hrr (fun c hc ⟨k, hk⟩ => by have := hH.lt hk; omega)
    · exact h.elim
  · obtain ⟨r, av, h1, h2, h3⟩ := aPure_sound hE hR h
    rw [h1]
    exact put h2 h3

end Go.AM
