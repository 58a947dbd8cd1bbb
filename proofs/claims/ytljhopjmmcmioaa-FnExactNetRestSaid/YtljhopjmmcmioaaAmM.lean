/-
  Contracts, loops: how a function is proved and used.
-/
import Derived.Test.YtljhopjmmcmioaaAmL
import Derived.Deep.LoopGhost
namespace Go.AM
open Go.RowKit

/-- an argument, as data -/
inductive VD where
  | c (d : CD)
  | agg (ds : List CD)

/-- a result, as data; beside a slice: how many cells a row has -/
inductive RV where
  | c (d : CD) (sz : Nat)
  | agg (ds : List (CD × Nat))

inductive RR where
  | one (x : RV)
  | tup (l : List RV)

def VD.toAV : VD → AV
  | .c d => AM.toAV d
  | .agg ds => .agg (ds.map AM.toAV)

def RdV (w : World) (v : Value) : VD → Prop
  | .c d => Rd w false (fun _ => True) v d
  | .agg ds => ∃ xs : Array Value, v = .agg xs ∧ xs.size = ds.length ∧ ∀ j d, ds[j]? = some d → Rd w false (fun _ => True) (xs.getD j undef) d

/-- a cell of a result: it is the call's own, to the bottom -/
def RdTop (w : World) (S : Nat → Prop) (v : Value) : CD × Nat → Prop
  | (.v u, _) => v = u ∧ plain u = true
  | (.h _ _ _ _, _) => False
  | (.s rows, sz) => 0 < sz ∧ (∀ row ∈ rows, row.length = sz) ∧ ((rows = [] ∧ ∃ a, v = .slice a 0 0) ∨
      ∃ (b off cap : Nat) (cs : Array Value) (T : TypeId) (F : Nat → Nat → Nat → Prop), v = .slice (some ⟨b, off, none⟩) rows.length cap ∧ S b ∧ w.heap[b]? = some (.cells cs T (0, 0)) ∧ rows.length ≤ cap ∧ cap ≤ maxLen ∧
        off + cap * sz ≤ cs.size ∧ (∀ i j c, F i j c → S c ∧ c ≠ b) ∧ (∀ i j i' j' c, F i j c → F i' j' c → i = i' ∧ j = j') ∧
        ∀ i j row d, rows[i]? = some row → row[j]? = some d → Rd w true (F i j) (cs.getD (off + (i * sz + j)) undef) d)

def RdRV (w : World) (S : Nat → Prop) (v : Value) : RV → Prop
  | .c d sz => RdTop w S v (d, sz)
  | .agg ts => ∃ (xs : Array Value) (F : Nat → Nat → Prop), v = .agg xs ∧ xs.size = ts.length ∧ (∀ j c, F j c → S c) ∧ (∀ j j' c, F j c → F j' c → j = j') ∧ ∀ j t, ts[j]? = some t → RdTop w (F j) (xs.getD j undef) t

def RdRR (w : World) (S : Nat → Prop) (v : Value) : RR → Prop
  | .one r => RdRV w S v r
  | .tup l => ∃ (xs : Array Value) (F : Nat → Nat → Prop), v = .tuple xs ∧ xs.size = l.length ∧ (∀ j c, F j c → S c) ∧ (∀ j j' c, F j c → F j' c → j = j') ∧ ∀ j t, l[j]? = some t → RdRV w (F j) (xs.getD j undef) t

/-- the contract of a function that computes: read as these, its arguments give this result, in memory of its own -/
def PureC (P : Program) (f : Nat) (args : List VD) (res : RR) : Prop :=
  FnOk P f ∧ ∀ (w : World) (xs : Array Value), xs.size = args.length → (∀ i vd, args[i]? = some vd → RdV w (xs.getD i undef) vd) →
    Calls P f xs w fun e w' => ∃ v, e = .returned v ∧ Below w.heap.size w w' ∧ RdRR w' (fun c => w.heap.size ≤ c ∧ c < w'.heap.size) v res

/-- what a value hands out -/
def aOut (h : AH) (x : AV) (t : CD × Nat) (K : AH → Prop) : Prop :=
  match x with
  | .v u => t.1 = .v u ∧ K h
  | .nil => t.1 = .s [] ∧ 0 < t.2 ∧ K h
  | .sl k H sz off len => match h.get k with
    | .rows H' sz' rows own => H = H' ∧ sz = sz' ∧ t.2 = sz ∧ 0 < sz ∧ own = true ∧ off + len ≤ rows.length ∧ (∀ row ∈ rows, row.length = sz) ∧ t.1 = .s (cut rows off len) ∧ K ((k, .dead) :: h)
    | _ => False
  | _ => False

def aOutL (h : AH) (l : List AV) (ts : List (CD × Nat)) (K : AH → Prop) : Prop :=
  match l, ts with
  | [], [] => K h
  | a :: l, t :: ts => aOut h a t fun h' => aOutL h' l ts K
  | _, _ => False

def aOutV (h : AH) (x : AV) (r : RV) (K : AH → Prop) : Prop :=
  match r with
  | .c d sz => aOut h x (d, sz) K
  | .agg ts => match x with
    | .agg l => aOutL h l ts K
    | _ => False

def aOutVs (h : AH) (l : List AV) (rs : List RV) (K : AH → Prop) : Prop :=
  match l, rs with
  | [], [] => K h
  | a :: l, r :: rs => aOutV h a r fun h' => aOutVs h' l rs K
  | _, _ => False

def aRes (E : Env) (st : ASt) (rs : List ResultVar) (K : List AV → Prop) : Prop :=
  match rs with
  | [] => K []
  | .tmp t :: rs => aRes E st rs fun l => K (getT st.t t :: l)
  | .cell t T :: rs => aLoad E st.h T (getT st.t t) fun v => aRes E st rs fun l => K (v :: l)

def retQ (h : AH) (rr : RR) (l : List AV) : Prop :=
  match rr with
  | .one r => match l with
    | [x] => aOutV h x r fun _ => True
    | _ => False
  | .tup rs => l.length ≠ 1 ∧ aOutVs h l rs fun _ => True

/-- a body's end -/
def bodyQ (E : Env) (rs : List ResultVar) (rr : RR) : Exit → ASt → Prop
  | .normal, st => aRes E st rs (retQ st.h rr)
  | .ret, st => aRes E st rs (retQ st.h rr)
  | _, _ => False

def argT : Nat → List VD → List (Nat × AV)
  | _, [] => []
  | i, v :: l => (i, v.toAV) :: argT (i + 1) l

theorem rows_top {w : World} {M E : Nat → Prop} {b o C sz off len : Nat} {rows : List (List CD)} (h : ObjRel w M E (.rows (some (b, o, C)) sz rows true))
    (hM : M b) {u : Value} (hu : SlV (some (b, o, C)) sz off len u) (hlen : off + len ≤ rows.length) :
    RdTop w (fun c => c = b ∨ E c ∧ ¬ M c) u (.s (cut rows off len), sz) := by
  obtain ⟨cs, T, F, hb, hl, hC, hsz, hfit, hrl, hF, hd, hr⟩ := h
  have hcl : (cut rows off len).length = len := cut_length _ _ _ hlen
  refine ⟨hsz, fun row hrow => ?_, ?_⟩
  · rw [cut_eq] at hrow
    exact hrl _ (List.mem_of_mem_drop (List.mem_of_mem_take hrow))
  · rcases hu with ⟨rfl, hle⟩ | ⟨rfl, _, a, rfl⟩
    · have hm : (off + (C - off)) * sz ≤ C * sz := Nat.mul_le_mul_right sz (by omega)
      rw [Nat.add_mul] at hm
      refine .inr ⟨b, o + off * sz, C - off, cs, T, fun i j c => F (off + i) j c, by rw [hcl], .inl rfl, hb, by omega, by omega, by omega, fun i j c hc => ⟨.inr ⟨(hF _ _ _ hc).1 rfl, (hF _ _ _ hc).2⟩, fun he => (hF _ _ _ hc).2 (he ▸ hM)⟩,
        fun i j i' j' c hc hc' => by have := hd rfl _ _ _ _ c hc hc'; omega, fun i j row d hi hj => ?_⟩
      rw [cut_get] at hi
      split at hi
      · have := hr (off + i) j row d hi hj
        have e : o + off * sz + (i * sz + j) = o + ((off + i) * sz + j) := by rw [Nat.add_mul]; omega
        rw [e]
        exact this
      · simp at hi
    · exact .inl ⟨List.eq_nil_of_length_eq_zero (by omega), a, rfl⟩

theorem RdTop.mono {w : World} {S S' : Nat → Prop} {v : Value} {t : CD × Nat} (h : RdTop w S v t) (hS : ∀ c, S c → S' c) : RdTop w S' v t := by
  obtain ⟨d, sz⟩ := t
  cases d with
  | v u => exact h
  | h => exact h
  | s rows =>
    obtain ⟨h1, h2, h3⟩ := h
    refine ⟨h1, h2, ?_⟩
    rcases h3 with h3 | ⟨b, off, cap, cs, T, F, g1, g2, g3, g4, g5, g6, g7, g8, g9⟩
    · exact .inl h3
    · exact .inr ⟨b, off, cap, cs, T, F, g1, hS _ g2, g3, g4, g5, g6, fun i j c hc => ⟨hS _ (g7 i j c hc).1, (g7 i j c hc).2⟩, g8, g9⟩

/-- what is handed out -/
structure Outs (base : Bs) (h : AH) (w : World) (E : Nat → Nat → Prop) (h' : AH) (E' : Nat → Nat → Prop) (S : Nat → Prop) : Prop where
  rel : HRel base h' w E'
  tr : Tr h.M w h'.M w
  own : ∀ c, S c → ((∃ k, E k c) ∨ h.M c) ∧ (∀ j, ¬ E' j c) ∧ ¬ h'.M c
  sub : ∀ j c, E' j c → E j c

theorem Outs.refl {base : Bs} {h : AH} {w : World} {E : Nat → Nat → Prop} (H : HRel base h w E) : Outs base h w E h E (fun _ => False) := ⟨H, Tr.refl _ _, fun _ hc => hc.elim, fun _ _ hc => hc⟩

theorem aOut_sound {base : Bs} {h : AH} {w : World} {E : Nat → Nat → Prop} (H : HRel base h w E) {x : AV} {u : Value} (hv : VRel w h.M x u) {t : CD × Nat} {K : AH → Prop} (hk : aOut h x t K) :
    ∃ h' E' S, K h' ∧ RdTop w S u t ∧ Outs base h w E h' E' S := by
  obtain ⟨d, tz⟩ := t
  unfold aOut at hk
  split at hk
  · obtain ⟨rfl, hK⟩ := hk
    cases hv with
    | v u hp => exact ⟨h, E, _, hK, ⟨rfl, hp⟩, Outs.refl H⟩
  · obtain ⟨rfl, hz, hK⟩ := hk
    cases hv
    exact ⟨h, E, _, hK, ⟨hz, by simp, .inl ⟨rfl, _, rfl⟩⟩, Outs.refl H⟩
  · rename_i k Hd sz off len
    split at hk
    · rename_i H' sz' rows own hget
      obtain ⟨rfl, rfl, rfl, hz, rfl, hlen, hrl, rfl, hK⟩ := hk
      cases hv with
      | sl _ _ _ _ _ _ hx =>
        have ho := H.obj k
        rw [hget] at ho
        cases Hd with
        | none =>
          obtain ⟨⟨a, rfl⟩, rfl⟩ := hx
          have hr0 : rows = [] := ho
          subst hr0
          refine ⟨_, _, fun _ => False, hK, ⟨hz, by simp [cut_eq], .inl ⟨by simp [cut_eq], a, rfl⟩⟩, H.kill k, Tr.kill H k, fun _ hc => hc.elim, fun j c hc => ?_⟩
          split at hc
          · exact hc.elim
          · exact hc
        | some q =>
          obtain ⟨b, o, C⟩ := q
          have hblk : (h.get k).blk = some b := by rw [hget]; rfl
          refine ⟨_, _, _, hK, rows_top ho ⟨k, hblk⟩ hx hlen, H.kill k, Tr.kill H k, ?_, fun j c hc => ?_⟩
          · rintro c (rfl | ⟨he, hn⟩)
            · refine ⟨.inr ⟨k, hblk⟩, fun j hj => ?_, not_M_kill H hblk⟩
              split at hj
              · exact hj
              · exact H.em j c hj ⟨k, hblk⟩
            · refine ⟨.inl ⟨k, he⟩, fun j hj => ?_, fun hM => hn (M_kill hM)⟩
              split at hj
              · exact hj
              · rename_i hne; exact hne (H.einj _ _ _ hj he)
          · split at hc
            · exact hc.elim
            · exact hc
    · exact hk.elim
  · exact hk.elim

theorem Outs.trans {base : Bs} {h h1 h2 : AH} {w : World} {E E1 E2 : Nat → Nat → Prop} {S1 S2 : Nat → Prop} (H : HRel base h w E) (a : Outs base h w E h1 E1 S1) (b : Outs base h1 w E1 h2 E2 S2) :
    Outs base h w E h2 E2 (fun c => S1 c ∨ S2 c) ∧ ∀ c, S1 c → S2 c → False := by
  have lt : ∀ c, S1 c → c < w.heap.size := fun c hc => by
    rcases (a.own c hc).1 with ⟨k, hk⟩ | ⟨k, hk⟩
    · exact (H.elow k c hk).2
    · exact H.lt hk
  refine ⟨⟨b.rel, a.tr.trans b.tr, ?_, fun j c hc => a.sub j c (b.sub j c hc)⟩, fun c h1 h2 => ?_⟩
  · rintro c (hc | hc)
    · obtain ⟨g1, g2, g3⟩ := a.own c hc
      exact ⟨g1, fun j hj => g2 j (b.sub j c hj), fun hM => g3 (b.tr.mono c (lt c hc) hM)⟩
    · obtain ⟨g1, g2, g3⟩ := b.own c hc
      refine ⟨?_, g2, g3⟩
      rcases g1 with ⟨k, hk⟩ | ⟨k, hk⟩
      · exact .inl ⟨k, a.sub k c hk⟩
      · exact .inr (a.tr.mono c (a.rel.lt hk) ⟨k, hk⟩)
  · obtain ⟨g1, g2, g3⟩ := a.own c h1
    rcases (b.own c h2).1 with ⟨k, hk⟩ | hM
    · exact g2 k hk
    · exact g3 hM

theorem aOutL_sound {base : Bs} {w : World} : ∀ (l : List AV) (ts : List (CD × Nat)) {h : AH} {E : Nat → Nat → Prop} (_ : HRel base h w E) {us : Nat → Value} (_ : ∀ i av, l[i]? = some av → VRel w h.M av (us i)) {K : AH → Prop} (_ : aOutL h l ts K),
    ∃ h' E' S, ∃ F : Nat → Nat → Prop, K h' ∧ ts.length = l.length ∧ (∀ j c, F j c → S c) ∧ (∀ j j' c, F j c → F j' c → j = j') ∧ (∀ j t, ts[j]? = some t → RdTop w (F j) (us j) t) ∧ Outs base h w E h' E' S
  | [], [], h, E, H, us, hv, K, hk => ⟨h, E, _, fun _ _ => False, hk, rfl, fun _ _ hc => hc.elim, fun _ _ _ hc => hc.elim, fun j t ht => by simp at ht, Outs.refl H⟩
  | a :: l, t :: ts, h, E, H, us, hv, K, hk => by
    unfold aOutL at hk
    obtain ⟨h1, E1, S1, hk1, hr1, O1⟩ := aOut_sound H (hv 0 a rfl) hk
    obtain ⟨h2, E2, S2, F2, hk2, hl2, hF2, hd2, hr2, O2⟩ := aOutL_sound l ts O1.rel (us := fun i => us (i + 1)) (fun i av hi => (hv (i + 1) av (by simpa using hi)).tr O1.tr) hk1
    obtain ⟨O, hdis⟩ := O1.trans H O2
    refine ⟨h2, E2, _, fun j c => match j with | 0 => S1 c | j + 1 => F2 j c, hk2, by simp [hl2], ?_, ?_, ?_, O⟩
    · intro j c hc
      cases j with
      | zero => exact .inl hc
      | succ j => exact .inr (hF2 j c hc)
    · intro j j' c hc hc'
      cases j <;> cases j'
      · rfl
      · exact (hdis c hc (hF2 _ c hc')).elim
      · exact (hdis c hc' (hF2 _ c hc)).elim
      · rw [hd2 _ _ c hc hc']
    · intro j t' hj
      cases j with
      | zero => simp at hj; subst hj; exact hr1
      | succ j => exact hr2 j t' (by simpa using hj)
  | [], _ :: _, h, E, H, us, hv, K, hk => hk.elim
  | _ :: _, [], h, E, H, us, hv, K, hk => hk.elim

theorem aOutV_sound {base : Bs} {h : AH} {w : World} {E : Nat → Nat → Prop} (H : HRel base h w E) {x : AV} {u : Value} (hv : VRel w h.M x u) {r : RV} {K : AH → Prop} (hk : aOutV h x r K) :
    ∃ h' E' S, K h' ∧ RdRV w S u r ∧ Outs base h w E h' E' S := by
  unfold aOutV at hk
  split at hk
  · exact aOut_sound H hv hk
  · split at hk
    · rename_i ts _ l
      cases hv with
      | agg _ xs hs hl =>
        obtain ⟨h', E', S, F, h1, h2, h3, h4, h5, h6⟩ := aOutL_sound l ts H hl hk
        exact ⟨h', E', S, h1, ⟨xs, F, rfl, by omega, h3, h4, h5⟩, h6⟩
    · exact hk.elim

theorem RdRV.mono {w : World} {S S' : Nat → Prop} {v : Value} {t : RV} (h : RdRV w S v t) (hS : ∀ c, S c → S' c) : RdRV w S' v t := by
  cases t with
  | c d sz => exact RdTop.mono h hS
  | agg ts =>
    obtain ⟨xs, F, h1, h2, h3, h4, h5⟩ := h
    exact ⟨xs, F, h1, h2, fun j c hc => hS c (h3 j c hc), h4, h5⟩

theorem aOutVs_sound {base : Bs} {w : World} : ∀ (l : List AV) (ts : List RV) {h : AH} {E : Nat → Nat → Prop} (_ : HRel base h w E) {us : Nat → Value} (_ : ∀ i av, l[i]? = some av → VRel w h.M av (us i)) {K : AH → Prop} (_ : aOutVs h l ts K),
    ∃ h' E' S, ∃ F : Nat → Nat → Prop, K h' ∧ ts.length = l.length ∧ (∀ j c, F j c → S c) ∧ (∀ j j' c, F j c → F j' c → j = j') ∧ (∀ j t, ts[j]? = some t → RdRV w (F j) (us j) t) ∧ Outs base h w E h' E' S
  | [], [], h, E, H, us, hv, K, hk => ⟨h, E, _, fun _ _ => False, hk, rfl, fun _ _ hc => hc.elim, fun _ _ _ hc => hc.elim, fun j t ht => by simp at ht, Outs.refl H⟩
  | a :: l, t :: ts, h, E, H, us, hv, K, hk => by
    unfold aOutVs at hk
    obtain ⟨h1, E1, S1, hk1, hr1, O1⟩ := aOutV_sound H (hv 0 a rfl) hk
    obtain ⟨h2, E2, S2, F2, hk2, hl2, hF2, hd2, hr2, O2⟩ := aOutVs_sound l ts O1.rel (us := fun i => us (i + 1)) (fun i av hi => (hv (i + 1) av (by simpa using hi)).tr O1.tr) hk1
    obtain ⟨O, hdis⟩ := O1.trans H O2
    refine ⟨h2, E2, _, fun j c => match j with | 0 => S1 c | j + 1 => F2 j c, hk2, by simp [hl2], ?_, ?_, ?_, O⟩
    · intro j c hc
      cases j with
      | zero => exact .inl hc
      | succ j => exact .inr (hF2 j c hc)
    · intro j j' c hc hc'
      cases j <;> cases j'
      · rfl
      · exact (hdis c hc (hF2 _ c hc')).elim
      · exact (hdis c hc' (hF2 _ c hc)).elim
      · rw [hd2 _ _ c hc hc']
    · intro j t' hj
      cases j with
      | zero => simp at hj; subst hj; exact hr1
      | succ j => exact hr2 j t' (by simpa using hj)
  | [], _ :: _, h, E, H, us, hv, K, hk => hk.elim
  | _ :: _, [], h, E, H, us, hv, K, hk => hk.elim

def resStep (tmps : Array Value) : ResultVar → Sem Value
  | .tmp t => pure (tmps.getD t undef)
  | .cell a t => do loadVar t (← asAddr (tmps.getD a undef))

theorem results_eq (fn : Func) (tmps : Array Value) : results fn tmps = (do let vs ← fn.results.mapM (resStep tmps); pure (if h : vs.size = 1 then vs[0] else .tuple vs)) := rfl

/-- the results of a body -/
theorem aRes_sound {E : Env} (hE : EOk E) {st : ASt} {a : Act} {w : World} (hR : Rep E.w0 E.base st a w) : ∀ (rs : List ResultVar) {K : List AV → Prop} (_ : aRes E st rs K),
    ∃ (vs : List Value) (l : List AV), (rs.mapM (resStep a.tmps)).run E.P w = .ok vs w ∧ vs.length = l.length ∧
      (∀ i av, l[i]? = some av → VRel w st.h.M av (vs.getD i undef)) ∧ K l
  | [], K, h => ⟨[], [], by simp, rfl, fun i av hi => by simp at hi, h⟩
  | .tmp t :: rs, K, h => by
    unfold aRes at h
    obtain ⟨vs, l, h1, h2, h3, h4⟩ := aRes_sound hE hR rs h
    refine ⟨a.tmps.getD t undef :: vs, getT st.t t :: l, by simp only [List.mapM_cons, resStep, Sem.run_bind, Sem.run_pure, Result.andThen_ok, h1], by simp [h2], fun i av hi => ?_, h4⟩
    cases i with
    | zero => simp at hi; subst hi; exact hR.tmp t
    | succ i => exact h3 i av (by simpa using hi)
  | .cell q T :: rs, K, h => by
    unfold aRes aLoad at h
    split at h
    · rename_i ti hti
      obtain ⟨Es, hH⟩ := hR.heap
      obtain ⟨v, av, h1, h2, h3⟩ := loadAt_sound hH (hE _ _ hti) (hR.tmp q) h
      obtain ⟨vs, l, g1, g2, g3, g4⟩ := aRes_sound hE hR rs h3
      have hload : (do loadVar T (← asAddr (a.tmps.getD q undef)) : Sem Value).run E.P w = .ok v w := by
        generalize a.tmps.getD q undef = u at h1 ⊢
        cases u with
        | pointer ad =>
          cases ad with
          | none => simp [Instr.loadAt, Instr.sureAddr] at h1
          | some ad => simpa [Instr.loadAt, Instr.sureAddr, asAddr] using h1
        | _ => simp [Instr.loadAt, Instr.sureAddr] at h1
      refine ⟨v :: vs, av :: l, ?_, by simp [g2], fun i x hi => ?_, g4⟩
      · have hload' : (resStep a.tmps (.cell q T)).run E.P w = .ok v w := hload
        simp only [List.mapM_cons, Sem.run_bind, Sem.run_pure, hload', Result.andThen_ok, g1]
      · cases i with
        | zero => simp at hi; subst hi; exact h2
        | succ i => exact g3 i x (by simpa using hi)
    · exact h.elim

theorem argT_get : ∀ (l : List VD) (k i : Nat), getT (argT k l) i = if k ≤ i then (match l[i - k]? with | some v => v.toAV | none => .any) else .any
  | [], k, i => by simp [argT, getT]
  | v :: l, k, i => by
    unfold argT getT
    by_cases h : i = k
    · subst h; simp
    · rw [if_neg h, argT_get l (k + 1) i]
      by_cases h1 : k + 1 ≤ i
      · rw [if_pos h1, if_pos (by omega), show i - k = (i - (k + 1)) + 1 by omega]
        rfl
      · rw [if_neg h1]
        by_cases h2 : k ≤ i
        · omega
        · rw [if_neg h2]

theorem RdV.rel {w : World} {v : Value} {d : VD} (h : RdV w v d) : VRel w (fun _ => False) d.toAV v := by
  cases d with
  | c d => exact toAV_rel (Rd.map h (fun _ _ _ => rfl) (fun _ _ _ h => h))
  | agg ds =>
    obtain ⟨xs, rfl, hs, hr⟩ := h
    refine .agg _ _ (by simp [hs]) (fun i av hi => ?_)
    simp only [List.getElem?_map, Option.map_eq_some_iff] at hi
    obtain ⟨d, hd, rfl⟩ := hi
    exact toAV_rel (Rd.map (hr i d hd) (fun _ _ _ => rfl) (fun _ _ _ h => h))

/-- a function is proved by its body -/
theorem PureC.intro {P : Program} {T : Nat → Option TI} (hT : ∀ t ti, T t = some ti → TIok P t ti) {f : Nat} {fn : Func} {c : Code} (hf : P.funcs[f]? = some fn) (hname : (fn.name == "runtime.NumGoroutine") = false) (hb : fn.body = some c)
    {args : List VD} {res : RR} (hn : args.length ≤ fn.ntmps)
    (h : ∀ w0 b, aSem ⟨P, T, w0, ⟨b, b, false⟩⟩ c (bodyQ ⟨P, T, w0, ⟨b, b, false⟩⟩ fn.results.toList res) { n := fn.ntmps, kb := 0, t := argT 0 args, h := [] }) : PureC P f args res := by
  refine ⟨⟨fn, hf, hname, by rw [hb]; rfl⟩, fun w xs hs hx => calls_of_wp hf hb ?_⟩
  let bs : Bs := ⟨fun c => c < w.heap.size, fun c => c < w.heap.size, false⟩
  have hE : EOk ⟨P, T, w, bs⟩ := hT
  have hM : ∀ b, ¬ AH.M [] b := by rintro b ⟨k, hk⟩; simp [AH.get, AObj.blk] at hk
  have hR : Rep w bs { n := fn.ntmps, kb := 0, t := argT 0 args, h := [] } { tmps := xs ++ Array.replicate (fn.ntmps - xs.size) undef, defers := [] } w := by
    refine ⟨rfl, by simp; omega, fun i => ?_, ⟨fun _ _ => False, fun k => trivial, fun k k' b hk => by simp [AH.get, AObj.blk] at hk, fun k b hk => by simp [AH.get, AObj.blk] at hk, fun k c hc => hc.elim, fun k k' c hc => hc.elim, fun k c hc => hc.elim⟩, BelowF.refl _ _, fun b hb => hb.elim id id⟩
    show VRel w (AH.M []) (getT (argT 0 args) i) _
    rw [argT_get, if_pos (Nat.zero_le i), Nat.sub_zero]
    split
    · rename_i v hv
      have hlt : i < xs.size := by rw [hs]; exact (List.getElem?_eq_some_iff.1 hv).1
      have e : (xs ++ Array.replicate (fn.ntmps - xs.size) undef).getD i undef = xs.getD i undef := by
        simp only [Array.getD_eq_getD_getElem?]
        rw [Array.getElem?_append_left hlt]
      rw [e]
      exact (hx i v hv).rel.tr ⟨Nat.le_refl _, fun _ _ _ => rfl, fun b _ h => hM b h⟩
    · exact .any _
  refine wp_mono (aSem_sound hE c _ _ _ w hR (h w (fun c => c < w.heap.size))) ?_
  rintro e a' w' ⟨st', hq, hR'⟩
  have key : aRes ⟨P, T, w, bs⟩ st' fn.results.toList (retQ st'.h res) → a'.defers = [] ∧ ∃ v, (results fn a'.tmps).run P w' = .ok v w' ∧ ∃ v', Ending.returned v = .returned v' ∧ Below w.heap.size w w' ∧ RdRR w' (fun c => w.heap.size ≤ c ∧ c < w'.heap.size) v' res := by
    intro hq
    obtain ⟨vs, l, h1, h2, h3, h4⟩ := aRes_sound hE hR' fn.results.toList hq
    obtain ⟨Es, hH⟩ := hR'.heap
    refine ⟨hR'.dfr, if vs.length = 1 then vs.getD 0 undef else .tuple vs.toArray, ?_, _, rfl, ⟨hR'.below.os, hR'.below.tape, hR'.below.output, hR'.below.size, hR'.below.block⟩, ?_⟩
    · have h1' : (fn.results.toList.mapM (resStep a'.tmps)).run P w' = .ok vs w' := h1
      rw [results_eq, Array.mapM_eq_mapM_toList]
      simp only [Sem.run_bind, Sem.run_map, h1', Result.andThen_ok, Sem.run_pure]
      cases vs with
      | nil => simp
      | cons v vs => cases vs <;> simp
    · have low : ∀ c, ((∃ k, Es k c) ∨ st'.h.M c) → w.heap.size ≤ c ∧ c < w'.heap.size := by
        rintro c (⟨k, hk⟩ | ⟨k, hk⟩)
        · exact ⟨Nat.le_of_not_lt (hH.elow k c hk).1, (hH.elow k c hk).2⟩
        · exact ⟨Nat.le_of_not_lt (hH.low k c hk).1, hH.lt hk⟩
      unfold retQ at h4
      split at h4
      · split at h4
        · rename_i r x
          obtain ⟨h', E', S, -, hr, O⟩ := aOutV_sound hH (h3 0 x rfl) h4
          rw [if_pos (by simpa using h2)]
          exact RdRV.mono hr (fun c hc => low c (O.own c hc).1)
        · exact h4.elim
      · rename_i rs _
        obtain ⟨hne, h4⟩ := h4
        obtain ⟨h', E', S, F, -, hl, hF, hd, hr, O⟩ := aOutVs_sound l rs hH h3 h4
        rw [if_neg (by omega)]
        exact ⟨vs.toArray, F, rfl, by simp; omega, fun j c hc => low c (O.own c (hF j c hc)).1, hd, fun j t hj => by simpa using hr j t hj⟩
  cases e with
  | normal => exact key hq
  | ret => exact key hq
  | _ => exact hq.elim

end Go.AM
