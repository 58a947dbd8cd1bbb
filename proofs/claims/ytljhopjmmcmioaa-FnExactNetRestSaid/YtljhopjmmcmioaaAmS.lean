/-
  Regions that draw their order (last part).
-/
import Derived.Test.YtljhopjmmcmioaaAmR
namespace Go.AM
open Go.RowKit

theorem filter_lt {l : List Nat} {p q : Nat → Bool} (h : ∀ x ∈ l, q x = true → p x = true) {i : Nat} (hi : i ∈ l) (hp : p i = true) (hq : q i = false) : (l.filter q).length < (l.filter p).length := by
  induction l with
  | nil => simp at hi
  | cons a l ih =>
    have hle : ∀ l : List Nat, (∀ x ∈ l, q x = true → p x = true) → (l.filter q).length ≤ (l.filter p).length := by
      intro l h
      induction l with
      | nil => simp
      | cons b l ih =>
        have h1 := ih (fun x hx => h x (List.mem_cons_of_mem _ hx))
        have h2 := h b (List.mem_cons_self ..)
        cases hqb : q b <;> cases hpb : p b <;> simp [hqb, hpb] at h2 ⊢ <;> omega
    have hl : ∀ x ∈ l, q x = true → p x = true := fun x hx => h x (List.mem_cons_of_mem _ hx)
    rcases List.mem_cons.1 hi with rfl | hi
    · have := hle l hl
      simp [hp, hq]
      omega
    · have h1 := ih hl hi
      have h2 := h a (List.mem_cons_self ..)
      cases hqb : q a <;> cases hpb : p a <;> simp [hqb, hpb] at h2 ⊢ <;> omega

def on (L : Array Bool) (i : Nat) : Bool := L.getD i false

theorem on_set {L : Array Bool} {i j : Nat} (hi : i < L.size) : on (L.setIfInBounds i true) j = if j = i then true else on L j := by
  unfold on
  simp only [Array.getD_eq_getD_getElem?, Array.getElem?_setIfInBounds]
  by_cases h : i = j
  · subst h; simp [hi]
  · simp [h, Ne.symm h]

theorem ready_iff {ops : List Oper} {L : Array Bool} (hL : L.size = ops.length) {i : Nat} : i ∈ Region.ready .any ops.toArray L ↔ i < ops.length ∧ on L i = false ∧ ∀ k, depOn (opAt ops i) k = true → on L k = true := by
  unfold Region.ready
  rw [List.mem_filter, List.mem_range]
  simp only [List.size_toArray, List.getElem?_toArray, Bool.and_eq_true, Bool.not_eq_true']
  constructor
  · rintro ⟨h1, h2, h3⟩
    have hsz : i < L.size := by omega
    have hop : opAt ops i = ops[i] := by simp [opAt, h1]
    refine ⟨h1, ?_, fun k hk => ?_⟩
    · unfold on
      simp only [Array.getD_eq_getD_getElem?] at h2 ⊢
      rw [Array.getElem?_eq_getElem hsz] at h2 ⊢
      simpa using h2
    · rw [List.getElem?_eq_getElem h1] at h3
      simp only [Option.map_some, Option.getD_some, Array.all_eq_true', Bool.or_eq_true, Bool.not_eq_true'] at h3
      rw [hop] at hk
      simp only [depOn, Array.any_eq_true', Bool.and_eq_true, beq_iff_eq] at hk
      obtain ⟨e, he, hb, rfl⟩ := hk
      rcases h3 e he with h | h
      · simp [hb] at h
      · exact h
  · rintro ⟨h1, h2, h3⟩
    have hsz : i < L.size := by omega
    have hop : opAt ops i = ops[i] := by simp [opAt, h1]
    refine ⟨h1, ?_, ?_⟩
    · unfold on at h2
      simp only [Array.getD_eq_getD_getElem?] at h2 ⊢
      rw [Array.getElem?_eq_getElem hsz] at h2 ⊢
      simpa using h2
    · rw [List.getElem?_eq_getElem h1]
      simp only [Option.map_some, Option.getD_some, Array.all_eq_true', Bool.or_eq_true, Bool.not_eq_true']
      intro e he
      cases hb : Region.binds .any e with
      | false => exact .inl rfl
      | true =>
        right
        refine h3 e.on ?_
        rw [hop]
        simp only [depOn, Array.any_eq_true', Bool.and_eq_true, beq_iff_eq]
        exact ⟨e, he, hb, rfl⟩

theorem Rep.putAny {w0 : World} {base : Bs} {st : ASt} {a : Act} {w : World} (hR : Rep w0 base st a w) {d : Option Nat} (r : Value) (h : ∀ s, d = some s → getT st.t s = .any) : Rep w0 base st (a.put d r) w := by
  cases d with
  | none => exact hR
  | some d =>
    refine ⟨hR.dfr, by simp [Act.put, hR.size], fun i => ?_, hR.heap, hR.below, hR.base_le⟩
    by_cases hi : i = d
    · subst hi; rw [h i rfl]; exact .any _
    · have : (a.put (some d) r).tmps.getD i undef = a.tmps.getD i undef := by
        simp [Act.put, Ne.symm hi]
      rw [this]
      exact hR.tmp i

theorem put_get {a : Act} {d : Option Nat} {r : Value} {s : Nat} (h : d ≠ some s) : (a.put d r).tmps.getD s undef = a.tmps.getD s undef := by
  cases d with
  | none => rfl
  | some d =>
    have : d ≠ s := fun he => h (by rw [he])
    simp [Act.put, this]

theorem put_same {a : Act} {d : Nat} {r : Value} (h : d < a.tmps.size) : (a.put (some d) r).tmps.getD d undef = r := by simp [Act.put, h]

theorem aStlW_exec {E : Env} (hE : EOk E) {ops : List Oper} {st : ASt} {a : Act} {w : World} (hR : Rep E.w0 E.base st a w) {o : Oper} {v : AV} (h : aStlW E ops o st (fun v' => v' = v)) {next : Act → World → Prop} {Q : Exit → Act → World → Prop}
    (hn : ∀ r w', Quiet E.base st.h w w' v r → next (a.put o.dst r) w') :
    if Region.wanted o (yielded ops.toArray a.tmps) then o.wp E.P a w next Q ∨ (o.asks E.P a w ∧ LetsOut Q) else next (a.put o.dst undef) w := by
  have run : aStl E st o.op (fun v' => v' = v) → o.wp E.P a w next Q := fun h => aStl_exec hE hR h hn
  have skip : AV.un = v → next (a.put o.dst undef) w := by
    rintro rfl
    obtain ⟨Es, hH⟩ := hR.heap
    exact hn _ _ ⟨⟨Es, hH⟩, Tr.refl _ _, ⟨rfl, rfl, rfl⟩, .un⟩
  unfold aStlW at h
  split at h
  · rename_i hg
    rw [if_pos (by simp [Region.wanted, hg])]
    exact .inl (run h)
  · rename_i j want hg
    split at h
    · rename_i d hd
      have hd' : (ops.toArray[j]?).bind (·.dst) = some d := by simpa [gslot] using hd
      split at h
      · rename_i b hb
        have hv := hR.tmp d
        rw [hb] at hv
        generalize hu : a.tmps.getD d undef = u at hv
        cases hv
        have hy : yielded ops.toArray a.tmps j = some b := by simp only [yielded, hd', Option.bind_some, getD_some hu]
        by_cases hbw : b = want
        · rw [if_pos (by simp [Region.wanted, hg, hy, hbw])]
          exact .inl (run (h.1 hbw))
        · rw [if_neg (by simp [Region.wanted, hg, hy, hbw])]
          exact skip (h.2 (by cases b <;> cases want <;> simp_all))
      · rename_i hb
        have hv := hR.tmp d
        rw [hb] at hv
        generalize hu : a.tmps.getD d undef = u at hv
        cases hv
        have hy : yielded ops.toArray a.tmps j = none := by
          simp only [yielded, hd', Option.bind_some]
          simp only [Array.getD_eq_getD_getElem?] at hu
          cases hx : a.tmps[d]? with
          | none => rfl
          | some v => rw [hx] at hu; simp at hu; subst hu; rfl
        rw [if_neg (by simp [Region.wanted, hg, hy])]
        exact skip h
      · exact h.elim
    · exact h.elim

theorem getT_map (f : Nat → AV) : ∀ (l : List Nat) (i : Nat), getT (l.map fun s => (s, f s)) i = if i ∈ l then f i else .any
  | [], i => by simp [getT]
  | s :: l, i => by
    simp only [List.map_cons, getT]
    by_cases h : i = s
    · subst h; simp
    · rw [if_neg h, getT_map f l i]
      simp [h]

theorem chain_head {ops : List Oper} : ∀ (l : List Nat), chain ops l = true → ∀ t ∈ l.tail, ∃ p ∈ l, depOn (opAt ops t) p = true
  | [], _, t, ht => by simp at ht
  | [_], _, t, ht => by simp at ht
  | a :: b :: l, h, t, ht => by
    simp only [chain, Bool.and_eq_true] at h
    rcases List.mem_cons.1 ht with rfl | ht
    · exact ⟨a, by simp, h.1⟩
    · obtain ⟨p, hp, hd⟩ := chain_head (b :: l) h.2 t ht
      exact ⟨p, List.mem_cons_of_mem _ hp, hd⟩

theorem chain_drop {ops : List Oper} : ∀ (done rem : List Nat), chain ops (done ++ rem) = true → chain ops rem = true
  | [], rem, h => h
  | [a], [], _ => rfl
  | [a], b :: l, h => by simp only [List.cons_append, List.nil_append, chain, Bool.and_eq_true] at h; exact h.2
  | a :: b :: l, rem, h => by
    simp only [List.cons_append, chain, Bool.and_eq_true] at h
    exact chain_drop (b :: l) rem h.2

theorem incr_drop : ∀ (done rem : List Nat), incr (done ++ rem) = true → incr rem = true
  | [], _, h => h
  | _ :: done, rem, h => incr_drop done rem (incr_tail h)

structure DInv (E : Env) (ops : List Oper) (pre tail : List Nat) (st : ASt) (pv : PV) (K : ASt → Prop) (L : Array Bool) (a : Act) (w : World) (G done rem : List Nat) (st2 : ASt) : Prop where
  split : tail = done ++ rem
  don : ∀ t ∈ done, on L t = true
  roff : ∀ t ∈ rem, on L t = false
  obl : aTail E ops st pv G (rem.map fun i => (i, opAt ops i)) st2 K
  rep : Rep E.w0 E.base st2 a w
  n : st2.n = st.n
  g : ∀ i ∈ G, on L i = true
  val : ∀ p ∈ pv, on L p.1 = true → ∀ d, p.2.1.dst = some d → VRel w st2.h.M p.2.2 (a.tmps.getD d undef)
  pend : ∀ p ∈ pv, p.1 ∉ G → aStlW E ops p.2.1 { st with t := pvT pv ++ st.t, h := st2.h } fun v => v = p.2.2
  mask : ∀ p ∈ pv, p.1 ∉ G → ∀ d, p.2.1.dst = some d → getT st2.t d = .any
  frame : ∀ s, (∀ k, k < ops.length → on L k = true → (opAt ops k).dst ≠ some s) → VRel w st2.h.M (getT st.t s) (a.tmps.getD s undef)
  edges : ∀ t ∈ done, ∀ i, depOn (opAt ops t) i = true → on L i = true

theorem PvOk.filter {ops : List Oper} {pre : List Nat} {pv : PV} (h : PvOk ops pre pv) (f : Nat × Oper × AV → Bool) : PvOk ops pre (pv.filter f) :=
  ⟨fun p hp => h.op p ((List.mem_filter.1 hp).1), fun p hp q hq => h.one p ((List.mem_filter.1 hp).1) q ((List.mem_filter.1 hq).1)⟩

/-- what has been computed is written down -/
theorem Rep.addPv {w0 : World} {base : Bs} {ops : List Oper} {pre tail : List Nat} (D : DrawOk ops pre tail) {pv : PV} (hpv : PvOk ops pre pv) {st : ASt} {a : Act} {w : World} (hR : Rep w0 base st a w)
    (hv : ∀ p ∈ pv, ∀ d, p.2.1.dst = some d → VRel w st.h.M p.2.2 (a.tmps.getD d undef)) : Rep w0 base { st with t := pvT pv ++ st.t } a w := by
  refine ⟨hR.dfr, hR.size, fun s => ?_, hR.heap, hR.below, hR.base_le⟩
  by_cases h : ∃ p ∈ pv, p.2.1.dst = some s
  · obtain ⟨p, hp, hd⟩ := h
    show VRel w st.h.M (getT (pvT pv ++ st.t) s) _
    rw [getT_pv D hpv hp hd]
    exact hv p hp s hd
  · show VRel w st.h.M (getT (pvT pv ++ st.t) s) _
    rw [getT_pv_none (fun p hp hd => h ⟨p, hp, hd⟩)]
    exact hR.tmp s

theorem draw_sound {E : Env} (hE : EOk E) {ops : List Oper} {pre tail : List Nat} (D : DrawOk ops pre tail) {st : ASt} {pv : PV} (hpv : PvOk ops pre pv) (hall : ∀ i ∈ pre, ∃ p ∈ pv, p.1 = i) (hdn : ∀ p ∈ pv, ∀ d, p.2.1.dst = some d → d < st.n) (hlo : tail = [] ∨ E.base.loose = false) {K : ASt → Prop} {Qc : Exit → Act → World → Prop}
    (hK : ∀ st' a' w', K st' → Rep E.w0 E.base st' a' w' → Qc .normal a' w') :
    ∀ (fuel : Nat) (L : Array Bool) (a : Act) (w : World) (G done rem : List Nat) (st2 : ASt), L.size = ops.length → ((List.range ops.length).filter fun i => !on L i).length ≤ fuel → DInv E ops pre tail st pv K L a w G done rem st2 →
    wpAny E.P .any ops.toArray Qc fuel L a w := by
  have opget : ∀ i, i < ops.length → ops.toArray[i]? = some (opAt ops i) := fun i hi => by simp [opAt, hi]
  have fin : ∀ (L : Array Bool) (a : Act) (w : World) (G done rem : List Nat) (st2 : ASt), L.size = ops.length → DInv E ops pre tail st pv K L a w G done rem st2 → Region.ready .any ops.toArray L = [] → Qc .normal a w := by
    intro L a w G done rem st2 hL I hr
    have hon : ∀ n i, i < n → i < ops.length → on L i = true := by
      intro n
      induction n with
      | zero => intro i h; omega
      | succ n ih =>
        intro i hi hlt
        cases ho : on L i with
        | true => rfl
        | false =>
          exfalso
          have : i ∈ Region.ready .any ops.toArray L := (ready_iff hL).2 ⟨hlt, ho, fun k hk => by
            simp only [depOn, Array.any_eq_true', Bool.and_eq_true, beq_iff_eq] at hk
            obtain ⟨e, he, hb, rfl⟩ := hk
            have := D.back i hlt e he hb
            exact ih e.on (by omega) (by omega)⟩
          rw [hr] at this
          simp at this
    have hrem : rem = [] := by
      cases hq : rem with
      | nil => rfl
      | cons t r =>
        have ht : t ∈ rem := by rw [hq]; simp
        have h1 := I.roff t ht
        have h2 := hon (t + 1) t (by omega) (D.htail t (by rw [I.split]; simp [ht]))
        rw [h1] at h2; simp at h2
    have hobl := I.obl
    rw [hrem] at hobl
    simp only [List.map_nil, aTail] at hobl
    refine hK _ a w hobl (Rep.addPv D (hpv.filter _) I.rep (fun p hp d hd => ?_))
    have hp' := (List.mem_filter.1 hp).1
    have hlt := (D.hpre _ (hpv.op p hp').1).1
    exact I.val p hp' (hon (p.1 + 1) p.1 (by omega) hlt) d hd
  intro fuel
  induction fuel with
  | zero =>
    intro L a w G done rem st2 hL hf I
    have hr : Region.ready .any ops.toArray L = [] := by
      cases hq : Region.ready .any ops.toArray L with
      | nil => rfl
      | cons i l =>
        obtain ⟨h1, h2, -⟩ := (ready_iff hL).1 (show i ∈ Region.ready .any ops.toArray L by rw [hq]; simp)
        have : i ∈ (List.range ops.length).filter fun i => !on L i := List.mem_filter.2 ⟨List.mem_range.2 h1, by simp [h2]⟩
        have := List.length_pos_of_mem this
        omega
    exact ⟨hr, fin L a w G done rem st2 hL I hr⟩
  | succ fuel ih =>
    intro L a w G done rem st2 hL hf I
    refine ⟨fin L a w G done rem st2 hL I, fun i hi => ?_⟩
    obtain ⟨hilt, hioff, hidep⟩ := (ready_iff hL).1 hi
    have hL' : (L.setIfInBounds i true).size = ops.length := by simp [hL]
    have hset : ∀ j, on (L.setIfInBounds i true) j = if j = i then true else on L j := fun j => on_set (by omega)
    have hmono : ∀ j, on L j = true → on (L.setIfInBounds i true) j = true := fun j hj => by rw [hset]; split <;> simp [hj]
    have hf' : ((List.range ops.length).filter fun j => !on (L.setIfInBounds i true) j).length ≤ fuel := by
      have := filter_lt (l := List.range ops.length) (p := fun j => !on L j) (q := fun j => !on (L.setIfInBounds i true) j) (fun x _ hx => by
        simp only [Bool.not_eq_true'] at hx ⊢
        rw [hset] at hx
        split at hx
        · simp at hx
        · exact hx) (List.mem_range.2 hilt) (by simp [hioff]) (by simp [hset])
      omega
    unfold wpOp
    rw [opget i hilt]
    simp only
    by_cases hip : i ∈ pre
    · obtain ⟨p, hp, hpi⟩ := hall i hip
      have hpo : p.2.1 = opAt ops i := by rw [← hpi]; exact (hpv.op p hp).2
      have hiG : p.1 ∉ G := fun hg => by have := I.g _ hg; rw [hpi, hioff] at this; simp at this
      obtain ⟨d, hd⟩ := D.has i hip
      have hpd : p.2.1.dst = some d := by rw [hpo]; exact hd
      -- the state of what the operation looks at
      let full := pvT pv ++ st.t
      let sl := opSlots (opAt ops i) ++ gSlots ops (opAt ops i)
      let sts : ASt := { n := st.n, kb := st.kb, t := sl.map fun s => (s, getT full s), h := st2.h }
      have hRs : Rep E.w0 E.base sts a w := by
        refine ⟨I.rep.dfr, I.rep.size.trans I.n, fun s => ?_, I.rep.heap, I.rep.below, I.rep.base_le⟩
        show VRel w st2.h.M (getT (sl.map fun s => (s, getT full s)) s) _
        rw [getT_map]
        split
        · rename_i hs
          have hs' : s ∈ opSlots (opAt ops i) ∨ s ∈ gSlots ops (opAt ops i) := List.mem_append.1 hs
          by_cases hq : ∃ q ∈ pv, q.2.1.dst = some s
          · obtain ⟨q, hq, hqd⟩ := hq
            rw [show full = pvT pv ++ st.t from rfl, getT_pv D hpv hq hqd]
            obtain ⟨q1, q2⟩ := hpv.op q hq
            rcases D.use i hip s hs' q.1 (D.hpre _ q1).1 (by rw [← q2]; exact hqd) with ⟨-, h⟩ | ⟨h, -⟩
            · exact I.val q hq (hidep _ h) s hqd
            · exact absurd q1 h
          · rw [show full = pvT pv ++ st.t from rfl, getT_pv_none (fun q hq' hqd => hq ⟨q, hq', hqd⟩)]
            refine I.frame s (fun k hk hkon hkd => ?_)
            rcases D.use i hip s hs' k hk hkd with ⟨hkp, -⟩ | ⟨hkn, hkdep⟩
            · obtain ⟨q, hq', hqk⟩ := hall k hkp
              exact hq ⟨q, hq', by rw [(hpv.op q hq').2, hqk]; exact hkd⟩
            · rcases D.all k hk with h | h
              · exact hkn h
              · rw [I.split] at h
                rcases List.mem_append.1 h with h | h
                · have := I.edges k h i hkdep
                  rw [hioff] at this; simp at this
                · have := I.roff k h
                  rw [hkon] at this; simp at this
        · exact .any _
      have hval : aStlW E ops (opAt ops i) sts (fun v => v = p.2.2) := by
        have h := I.pend p hp hiG
        rw [hpo] at h
        refine aStlW_congr (st := { st with t := pvT pv ++ st.t, h := st2.h }) (fun s hs => ?_) rfl h
        show getT (sl.map fun s => (s, getT full s)) s = getT full s
        rw [getT_map, if_pos (List.mem_append.2 hs)]
      refine aStlW_exec hE hRs hval (fun r w' q => ?_)
      obtain ⟨Es, hrel⟩ := q.rel
      have hdlt : d < a.tmps.size := by rw [I.rep.size, I.n]; exact hdn p hp d hpd
      refine ih _ _ _ G done rem st2 hL' hf' ⟨I.split, fun t ht => hmono t (I.don t ht), fun t ht => ?_, I.obl, ?_, I.n, fun j hj => hmono j (I.g j hj), fun q' hq' hon d' hd' => ?_, I.pend, I.mask, fun s hs => ?_, fun t ht j hj => hmono j (I.edges t ht j hj)⟩
      · rw [hset]
        split
        · rename_i h; subst h
          exact absurd (by rw [I.split]; simp [ht]) (D.hpre _ hip).2
        · exact I.roff t ht
      · refine Rep.putAny (I.rep.move hrel q.tr q.same).rep r (fun s hs => ?_)
        rw [hd] at hs; cases hs
        exact I.mask p hp hiG d hpd
      · rw [hset] at hon
        by_cases hqi : q'.1 = i
        · have : q' = p := hpv.one q' hq' p hp (by rw [hqi, hpi])
          subst this
          rw [hpd] at hd'; cases hd'
          rw [hd, put_same hdlt]
          exact q.val
        · rw [if_neg hqi] at hon
          rw [put_get]
          · exact (I.val q' hq' hon d' hd').tr q.tr
          · rw [hd]
            intro he
            cases he
            have := pv_dst D hpv hq' hp hd' hpd
            exact hqi (by rw [this, hpi])
      · rw [put_get (hs i hilt (by rw [hset]; simp))]
        exact (I.frame s (fun k hk hkon => hs k hk (hmono k hkon))).tr q.tr
    · have hit : i ∈ rem := by
        rcases D.all i hilt with h | h
        · exact absurd h hip
        · rw [I.split] at h
          rcases List.mem_append.1 h with h | h
          · have := I.don i h; rw [hioff] at this; simp at this
          · exact h
      have hitail : i ∈ tail := by rw [I.split]; simp [hit]
      obtain ⟨rest, hrem⟩ : ∃ rest, rem = i :: rest := by
        cases hq : rem with
        | nil => rw [hq] at hit; simp at hit
        | cons b rest =>
          by_cases hb : b = i
          · exact ⟨rest, by rw [hb]⟩
          · exfalso
            have hch := chain_drop done rem (by rw [← I.split]; exact D.chn)
            rw [hq] at hch
            have : i ∈ (b :: rest).tail := by
              rw [hq] at hit
              rcases List.mem_cons.1 hit with h | h
              · exact absurd h.symm hb
              · exact h
            obtain ⟨q, hq1, hq2⟩ := chain_head _ hch i this
            have h1 := hidep q hq2
            have h2 := I.roff q (by rw [hq]; exact hq1)
            rw [h1] at h2; simp at h2
      have hobl := I.obl
      rw [hrem] at hobl
      simp only [List.map_cons, aTail] at hobl
      rw [if_pos (by simp [Region.wanted, D.grd i hitail])]
      refine .inl (aOp_sound hE (Rep.addPv D (hpv.filter _) I.rep (fun q hq d hd => ?_)) hobl (fun r w' hs => ?_))
      · have hq' := (List.mem_filter.1 hq).1
        have hq2 := (List.mem_filter.1 hq).2
        simp only [Bool.and_eq_true] at hq2
        exact I.val q hq' (hidep _ hq2.1) d hd
      · obtain ⟨av, h', ⟨hpend, hobl'⟩, hrep, htr, hvr⟩ := hs
        have htr := htr (hlo.resolve_left (fun h0 => by rw [h0] at hitail; simp at hitail))
        have hh : ∀ s2 : ASt, (s2.aft (opAt ops i).dst av h').h = h' := fun s2 => by unfold ASt.aft; split <;> rfl
        have hnn : ∀ s2 : ASt, (s2.aft (opAt ops i).dst av h').n = s2.n := fun s2 => by unfold ASt.aft; split <;> rfl
        have haft : ∀ (s2 : ASt) (s : Nat), (opAt ops i).dst ≠ some s → getT (s2.aft (opAt ops i).dst av h').t s = getT s2.t s := by
          intro s2 s hne
          unfold ASt.aft
          split
          · rfl
          · rename_i d hd
            simp only [getT]
            rw [if_neg (fun he => hne (by rw [hd, he]))]
        have hdp : ∀ q ∈ pv, ∀ d, q.2.1.dst = some d → (opAt ops i).dst ≠ some d := by
          intro q hq d hd he
          obtain ⟨q1, q2⟩ := hpv.op q hq
          rw [q2] at hd
          have := D.dst _ (D.hpre _ q1).1 i hilt d hd he
          exact hip (this ▸ q1)
        refine ih _ _ _ _ (done ++ [i]) rest _ hL' hf' ⟨by rw [I.split, hrem]; simp, fun t ht => ?_, fun t ht => ?_, hobl', hrep, (hnn _).trans I.n, fun j hj => ?_, fun q hq hon d hd => ?_, fun q hq hqG => ?_, fun q hq hqG d hd => ?_, fun s hs => ?_, fun t ht j hj => ?_⟩
        · rw [hset]
          rcases List.mem_append.1 ht with ht | ht
          · split
            · rfl
            · exact I.don t ht
          · simp at ht; rw [if_pos ht]
        · rw [hset]
          have hinc := D.itail
          rw [I.split, hrem] at hinc
          have hinc' : incr (i :: rest) = true := incr_drop done _ hinc
          have := incr_lt _ hinc' i (by simp) t (by simpa using ht)
          rw [if_neg (by omega)]
          exact I.roff t (by rw [hrem]; simp [ht])
        · rcases List.mem_append.1 hj with hj | hj
          · obtain ⟨q, hq, rfl⟩ := List.mem_map.1 hj
            have hq2 := (List.mem_filter.1 hq).2
            simp only [Bool.and_eq_true] at hq2
            exact hmono _ (hidep _ hq2.1)
          · exact hmono j (I.g j hj)
        · rw [hh, put_get (hdp q hq d hd)]
          rw [hset] at hon
          split at hon
          · rename_i he
            exact absurd (he ▸ (hpv.op q hq).1) hip
          · exact (I.val q hq hon d hd).tr htr
        · have := hpend q (List.mem_filter.2 ⟨hq, by
            simp only [Bool.and_eq_true, Bool.not_eq_true']
            refine ⟨?_, ?_⟩
            · cases hdep : depOn (opAt ops i) q.1 with
              | false => rfl
              | true =>
                exfalso
                by_cases hg : q.1 ∈ G
                · exact hqG (List.mem_append.2 (.inr hg))
                · exact hqG (List.mem_append.2 (.inl (List.mem_map.2 ⟨q, List.mem_filter.2 ⟨hq, by simp [hdep, hg]⟩, rfl⟩)))
            · cases hg : G.contains q.1 with
              | false => rfl
              | true => exact absurd (List.mem_append.2 (.inr (by simpa using hg))) hqG⟩)
          exact this
        · rw [haft _ _ (hdp q hq d hd)]
          show getT (pvT _ ++ st2.t) d = _
          rw [getT_pv_none (fun q' hq' hd' => ?_)]
          · exact I.mask q hq (fun hg => hqG (List.mem_append.2 (.inr hg))) d hd
          · have := pv_dst D hpv ((List.mem_filter.1 hq').1) hq hd' hd
            subst this
            exact hqG (List.mem_append.2 (.inl (List.mem_map.2 ⟨q', hq', rfl⟩)))
        · rw [hh, put_get (hs i hilt (by rw [hset]; simp))]
          exact (I.frame s (fun k hk hkon => hs k hk (hmono k hkon))).tr htr
        · rcases List.mem_append.1 ht with ht | ht
          · exact hmono j (I.edges t ht j hj)
          · simp at ht; subst ht; exact hmono j (hidep j hj)

theorem DrawT.intro2 {E : Env} (hE : EOk E) (hm : E.P.follows .mixedOrders = true) {id : Nat} {ops : List Oper} {Q : Exit → ASt → Prop} {st : ASt} (pre tail : List Nat) (hlo : tail = [] ∨ E.base.loose = false) (hok : drawOk ops pre tail = true) (K : PV → ASt → Prop)
    (h : aPre E ops st [] (pre.map fun i => (i, opAt ops i)) fun pv => (∀ p ∈ pv, ∀ d, p.2.1.dst = some d → d < st.n) ∧ aTail E ops st pv [] (tail.map fun i => (i, opAt ops i)) { st with t := maskT pv ++ st.t } (K pv))
    (hfin : ∀ pv st' a w, K pv st' → Rep E.w0 E.base st' a w → ∃ st'', Q .normal st'' ∧ Rep E.w0 E.base st'' a w) : DrawT E id ops Q st := by
  intro a w hR
  have D := drawOk_sound hok
  obtain ⟨pv, ⟨hdn, hobl⟩, hpv, hall, hval⟩ := aPre_spec D pre [] [] (by simp) ⟨by simp, by simp⟩ (by simp) (by simp) (by simp) h
  refine wp_region_any hm ?_
  have hR' : Rep E.w0 E.base { st with t := maskT pv ++ st.t } a { w with drawn := w.drawn + 1 } := by
    obtain ⟨Es, H⟩ := hR.heap
    have t : Tr st.h.M w st.h.M { w with drawn := w.drawn + 1 } := ⟨Nat.le_refl _, fun _ _ _ => rfl, fun _ _ h => h⟩
    have hR1 : Rep E.w0 E.base st a { w with drawn := w.drawn + 1 } := (hR.move (h' := st.h) (E' := Es) ⟨fun k => (H.obj k).tr t (fun _ _ => rfl) (fun _ hc _ => hc), H.inj, H.low, H.elow, H.einj, H.em⟩ t ⟨rfl, rfl, rfl⟩).rep
    refine ⟨hR1.dfr, hR1.size, fun s => ?_, hR1.heap, hR1.below, hR1.base_le⟩
    by_cases hs : ∃ p ∈ maskT pv, p.1 = s
    · obtain ⟨p, hp, rfl⟩ := hs
      have hany : ∀ q ∈ maskT pv, q.2 = .any := by
        intro q hq
        unfold maskT at hq
        rw [List.mem_filterMap] at hq
        obtain ⟨x, -, hx⟩ := hq
        rw [Option.map_eq_some_iff] at hx
        obtain ⟨d, -, rfl⟩ := hx
        rfl
      show VRel _ st.h.M (getT (maskT pv ++ st.t) p.1) _
      rw [getT_append_mem (v := .any) (by have := hany p hp; rw [← this]; exact hp) (fun q hq _ => hany q hq)]
      exact .any _
    · show VRel _ st.h.M (getT (maskT pv ++ st.t) s) _
      rw [getT_append (fun p hp he => hs ⟨p, hp, he⟩)]
      exact hR1.tmp s
  have hoff : ∀ i, on (Array.replicate ops.toArray.size false) i = false := by
    intro i
    unfold on
    simp only [Array.getD_eq_getD_getElem?, Array.getElem?_replicate]
    split <;> rfl
  refine draw_sound hE D hpv hall hdn hlo (K := K pv) (fun st' a' w' h1 h2 => hfin pv st' a' w' h1 h2) ops.toArray.size (Array.replicate ops.toArray.size false) a _ [] [] tail { st with t := maskT pv ++ st.t } (by simp) ?_
    ⟨rfl, by simp, fun t _ => hoff t, hobl, hR', rfl, by simp, fun p _ hon => by rw [hoff] at hon; simp at hon, fun p hp _ => hval p hp, fun p hp _ d hd => ?_, fun s _ => ?_, by simp⟩
  · have := List.length_filter_le (fun i => !on (Array.replicate ops.toArray.size false) i) (List.range ops.length)
    simpa using this
  · show getT (maskT pv ++ st.t) d = _
    refine getT_append_mem ?_ (fun q hq _ => ?_)
    · unfold maskT; rw [List.mem_filterMap]; exact ⟨p, hp, by rw [hd]; rfl⟩
    · unfold maskT at hq
      rw [List.mem_filterMap] at hq
      obtain ⟨x, -, hx⟩ := hq
      rw [Option.map_eq_some_iff] at hx
      obtain ⟨d, -, rfl⟩ := hx
      rfl
  · exact (hR.tmp s).tr ⟨Nat.le_refl _, fun _ _ _ => rfl, fun _ _ h => h⟩

/-- the same, with calls that turn nothing -/
def Env.tight (E : Env) : Env := ⟨E.P, E.T, E.w0, ⟨E.base.F, E.base.G, false⟩⟩

theorem Rep.loose {w0 : World} {F G : Nat → Prop} {l l' : Bool} {st : ASt} {a : Act} {w : World} (hR : Rep w0 ⟨F, G, l⟩ st a w) : Rep w0 ⟨F, G, l'⟩ st a w := by
  obtain ⟨h1, h2, h3, ⟨E, h4⟩, h5, h6⟩ := hR
  exact ⟨h1, h2, h3, ⟨E, h4.obj, h4.inj, h4.low, h4.elow, h4.einj, h4.em⟩, h5, h6⟩

theorem DrawT.intro {E : Env} (hE : EOk E) (hm : E.P.follows .mixedOrders = true) {id : Nat} {ops : List Oper} {Q : Exit → ASt → Prop} {st : ASt} (pre tail : List Nat) (hok : drawOk ops pre tail = true) (h : aDraw E.tight ops pre tail (Q .normal) st) : DrawT E id ops Q st := by
  obtain ⟨P, T, w0, ⟨F, G, l⟩⟩ := E
  have h1 := DrawT.intro2 (E := ⟨P, T, w0, ⟨F, G, false⟩⟩) hE hm (id := id) (Q := Q) pre tail (.inr rfl) hok (fun _ => Q .normal) h (fun _ st' _ _ h1 h2 => ⟨st', h1, h2⟩)
  intro a w hR
  refine wp_mono (h1 a w hR.loose) ?_
  rintro e a' w' ⟨st', hq, hR'⟩
  exact ⟨st', hq, hR'.loose⟩

end Go.AM
