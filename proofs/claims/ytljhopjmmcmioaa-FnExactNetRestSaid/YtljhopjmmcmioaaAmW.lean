/-
  Functions that turn their argument, laws that keep theirs: how they are proved.
-/
import Derived.Test.YtljhopjmmcmioaaAmZ
namespace Go.AM
open Go.RowKit

def initK : Nat → List (CD × Nat) → (List AV → AH → Prop) → Prop
  | _, [], K => K [] []
  | key, (.v u, _) :: ts, K => initK (key + 1) ts fun l h => K (.v u :: l) h
  | key, (.s rows, sz) :: ts, K => ∀ H, initK (key + 1) ts fun l h => K (.ml key H sz rows.length :: l) ((key, .rows H sz rows true) :: h)
  | _, (.h .., _) :: _, _ => False

def initV (a : RV) (K : AV → AH → Prop) : Prop :=
  match a with
  | .c d sz => initK 0 [(d, sz)] fun l h => K (l.headD .any) h
  | .agg ts => initK 0 ts fun l h => K (.agg l) h

def finK (h : AH) : List AV → List (CD × Nat) → Prop
  | [], [] => True
  | a :: l, t :: ts => match a with
    | .v u => t.1 = .v u ∧ finK h l ts
    | .ml k H sz len => (match h.get k with
        | .rows H' sz' rows' own => H' = H ∧ sz' = sz ∧ t.2 = sz ∧ own = true ∧ rows'.length = len ∧ 0 < sz ∧ (∀ row ∈ rows', row.length = sz) ∧ t.1 = .s rows'
        | _ => False) ∧ finK h l ts
    | _ => False
  | _, _ => False

def finV (h : AH) (x : AV) (a' : RV) : Prop :=
  match a' with
  | .c d sz => finK h [x] [(d, sz)]
  | .agg ts => match x with
    | .agg l => finK h l ts
    | _ => False

def markQ (E : Env) (rs : List ResultVar) (r : Int) (x : AV) (a' : RV) : Exit → ASt → Prop
  | .normal, st => aRes E st rs (fun l => l = [.v (.int .i64 r)]) ∧ finV st.h x a'
  | .ret, st => aRes E st rs (fun l => l = [.v (.int .i64 r)]) ∧ finV st.h x a'
  | _, _ => False

def lOf (Hs : Nat → Hd) : Nat → List (CD × Nat) → List AV
  | _, [] => []
  | key, (.v u, _) :: ts => .v u :: lOf Hs (key + 1) ts
  | key, (.s rows, sz) :: ts => .ml key (Hs key) sz rows.length :: lOf Hs (key + 1) ts
  | key, (.h .., _) :: ts => .any :: lOf Hs (key + 1) ts

def hOf (Hs : Nat → Hd) : Nat → List (CD × Nat) → AH
  | _, [] => []
  | key, (.v _, _) :: ts => hOf Hs (key + 1) ts
  | key, (.s rows, sz) :: ts => (key, .rows (Hs key) sz rows true) :: hOf Hs (key + 1) ts
  | key, (.h .., _) :: ts => hOf Hs (key + 1) ts

theorem initK_inst (Hs : Nat → Hd) : ∀ (ts : List (CD × Nat)) (key : Nat) (K : List AV → AH → Prop), initK key ts K → K (lOf Hs key ts) (hOf Hs key ts)
  | [], _, K, h => h
  | (.v u, _) :: ts, key, K, h => initK_inst Hs ts (key + 1) _ h
  | (.s rows, sz) :: ts, key, K, h => initK_inst Hs ts (key + 1) _ (h (Hs key))
  | (.h .., _) :: _, _, _, h => h.elim

theorem lOf_get (Hs : Nat → Hd) : ∀ (ts : List (CD × Nat)) (key j : Nat), (lOf Hs key ts)[j]? = (ts[j]?).map fun t => match t.1 with | .v u => .v u | .s rows => .ml (key + j) (Hs (key + j)) t.2 rows.length | .h .. => .any
  | [], key, j => by simp [lOf]
  | (.v u, _) :: ts, key, j => by
    cases j with
    | zero => rfl
    | succ j => simp only [lOf, List.getElem?_cons_succ]; rw [lOf_get Hs ts (key + 1) j]; simp only [show key + 1 + j = key + (j + 1) by omega]
  | (.s rows, sz) :: ts, key, j => by
    cases j with
    | zero => rfl
    | succ j => simp only [lOf, List.getElem?_cons_succ]; rw [lOf_get Hs ts (key + 1) j]; simp only [show key + 1 + j = key + (j + 1) by omega]
  | (.h .., _) :: ts, key, j => by
    cases j with
    | zero => rfl
    | succ j => simp only [lOf, List.getElem?_cons_succ]; rw [lOf_get Hs ts (key + 1) j]; simp only [show key + 1 + j = key + (j + 1) by omega]

theorem hOf_get (Hs : Nat → Hd) : ∀ (ts : List (CD × Nat)) (key q : Nat), (hOf Hs key ts).get q = if key ≤ q then (match ts[q - key]? with | some (.s rows, sz) => .rows (Hs q) sz rows true | _ => .dead) else .dead
  | [], key, q => by simp [hOf, AH.get]
  | (.v u, _) :: ts, key, q => by
    rw [hOf, hOf_get Hs ts (key + 1) q]
    by_cases h : key + 1 ≤ q
    · rw [if_pos h, if_pos (by omega), show q - key = (q - (key + 1)) + 1 by omega, List.getElem?_cons_succ]
    · rw [if_neg h]
      split
      · have : q = key := by omega
        subst this; simp
      · rfl
  | (.s rows, sz) :: ts, key, q => by
    rw [hOf, get_cons]
    by_cases hq : q = key
    · subst hq; simp
    · rw [if_neg hq, hOf_get Hs ts (key + 1) q]
      by_cases h : key + 1 ≤ q
      · rw [if_pos h, if_pos (by omega), show q - key = (q - (key + 1)) + 1 by omega, List.getElem?_cons_succ]
      · rw [if_neg h, if_neg (by omega)]
  | (.h .., _) :: ts, key, q => by
    rw [hOf, hOf_get Hs ts (key + 1) q]
    by_cases h : key + 1 ≤ q
    · rw [if_pos h, if_pos (by omega), show q - key = (q - (key + 1)) + 1 by omega, List.getElem?_cons_succ]
    · rw [if_neg h]
      split
      · have : q = key := by omega
        subst this; simp
      · rfl

theorem finK_get {h : AH} : ∀ (l : List AV) (ts : List (CD × Nat)), finK h l ts → l.length = ts.length ∧ ∀ (j : Nat) (t : CD × Nat), ts[j]? = some t →
    (∃ u sz, l[j]? = some (.v u) ∧ t = (.v u, sz)) ∨ ∃ k H sz rows', l[j]? = some (.ml k H sz rows'.length) ∧ h.get k = .rows H sz rows' true ∧ 0 < sz ∧ (∀ row ∈ rows', row.length = sz) ∧ t = (.s rows', sz)
  | [], [], _ => ⟨rfl, fun j t hj => by simp at hj⟩
  | a :: l, t :: ts, hk => by
    have step : finK h l ts → ((∃ u sz, a = .v u ∧ t = (.v u, sz)) ∨ ∃ k H sz rows', a = .ml k H sz rows'.length ∧ h.get k = .rows H sz rows' true ∧ 0 < sz ∧ (∀ row ∈ rows', row.length = sz) ∧ t = (.s rows', sz)) →
        (a :: l).length = (t :: ts).length ∧ ∀ (j : Nat) (t' : CD × Nat), (t :: ts)[j]? = some t' → (∃ u sz, (a :: l)[j]? = some (.v u) ∧ t' = (.v u, sz)) ∨ ∃ k H sz rows', (a :: l)[j]? = some (.ml k H sz rows'.length) ∧ h.get k = .rows H sz rows' true ∧ 0 < sz ∧ (∀ row ∈ rows', row.length = sz) ∧ t' = (.s rows', sz) := by
      intro hk hc
      obtain ⟨h1, h2⟩ := finK_get l ts hk
      refine ⟨by simp [h1], fun j t' hj => ?_⟩
      cases j with
      | zero => simp at hj; subst hj; simpa using hc
      | succ j => simpa using h2 j t' (by simpa using hj)
    unfold finK at hk
    obtain ⟨t1, t2⟩ := t
    split at hk
    · rename_i u
      obtain ⟨h1, h2⟩ := hk
      simp only at h1
      subst h1
      exact step h2 (.inl ⟨u, t2, rfl, rfl⟩)
    · rename_i k H sz len
      obtain ⟨h1, h2⟩ := hk
      split at h1
      · rename_i H' sz' rows' own hg
        obtain ⟨rfl, rfl, h4, rfl, rfl, h5, h6, h7⟩ := h1
        simp only at h4 h7
        subst h4 h7
        exact step h2 (.inr ⟨k, _, _, rows', rfl, hg, h5, h6, rfl⟩)
      · exact h1.elim
    · exact hk.elim
  | [], _ :: _, hk => hk.elim
  | _ :: _, [], hk => hk.elim

theorem MarkC.intro {P : Program} {T : Nat → Option TI} (hT : ∀ t ti, T t = some ti → TIok P t ti) {f : Nat} {fn : Func} {c : Code} (hf : P.funcs[f]? = some fn) (hname : (fn.name == "runtime.NumGoroutine") = false) (hb : fn.body = some c)
    {n : Nat} {rs : List ResultVar} (hnt : fn.ntmps = n) (hrs : fn.results = ⟨rs⟩) {a a' : RV} {k r : Int} (hn : 2 ≤ n)
    (h : ∀ w0 b, initV a fun x h0 => aSem ⟨P, T, w0, ⟨b, b, true⟩⟩ c (markQ ⟨P, T, w0, ⟨b, b, true⟩⟩ rs r x a') { n := n, kb := 0, t := [(0, x), (1, .v (.int .i64 k))], h := h0 }) : MarkC P f a k r a' := by
  subst hnt
  have hrs' : fn.results.toList = rs := by rw [hrs]
  subst hrs'
  refine ⟨⟨fn, hf, hname, by rw [hb]; rfl⟩, fun w S u us hS hsh hin => calls_of_wp hf hb ?_⟩
  obtain ⟨F, hFS, hFd, hrd⟩ := hin
  let bs : Bs := ⟨fun c => c < w.heap.size ∧ ¬ S c, fun c => c < w.heap.size ∧ ¬ S c, true⟩
  have hE : EOk ⟨P, T, w, bs⟩ := hT
  let Hs (j : Nat) : Hd := match a.cells[j]? with
    | some (.s (_ :: _), _) => (match us j with | .slice (some ad) _ cap => some (ad.block, ad.off, cap) | _ => none)
    | _ => none
  -- what a cell with rows reads
  have full : ∀ (j : Nat) (rows : List (List CD)) (sz : Nat), a.cells[j]? = some (.s rows, sz) → rows ≠ [] → ∃ (b off cap : Nat) (cs : Array Value) (Ty : TypeId) (G : Nat → Nat → Nat → Prop), Hs j = some (b, off, cap) ∧ us j = .slice (some ⟨b, off, none⟩) rows.length cap ∧ F j b ∧ w.heap[b]? = some (.cells cs Ty (0, 0)) ∧ rows.length ≤ cap ∧ cap ≤ maxLen ∧ 0 < sz ∧
        off + cap * sz ≤ cs.size ∧ (∀ row ∈ rows, row.length = sz) ∧ (∀ i j' c, G i j' c → F j c ∧ c ≠ b) ∧ (∀ i j i' j' c, G i j c → G i' j' c → i = i' ∧ j = j') ∧
        ∀ i j row d, rows[i]? = some row → row[j]? = some d → Rd w true (G i j) (cs.getD (off + (i * sz + j)) undef) d := by
    intro j rows sz hj h0
    obtain ⟨h1, h2, h3⟩ := hrd j _ hj
    rcases h3 with ⟨h3, -⟩ | ⟨-, -, -, h4⟩
    · exact absurd h3 h0
    · rcases h4 with ⟨h4, -⟩ | ⟨b, off, cap, cs, Ty, G, g1, g2, g3, g4, g5, g6, g7, g8, g9⟩
      · exact absurd h4 h0
      · refine ⟨b, off, cap, cs, Ty, G, ?_, g1, g2, g3, g4, g5, h1, g6, h2, g7, g8, g9⟩
        obtain ⟨r0, rl, rfl⟩ := List.exists_cons_of_ne_nil h0
        simp only [Hs, hj, g1]
  have hHs0 : ∀ (j sz : Nat), a.cells[j]? = some (.s [], sz) → Hs j = none := by
    intro j sz hj; simp only [Hs, hj]
  obtain ⟨h0, hh0⟩ : ∃ h0, hOf Hs 0 a.cells = h0 := ⟨_, rfl⟩
  have hget : ∀ q, h0.get q = match a.cells[q]? with | some (.s rows, sz) => .rows (Hs q) sz rows true | _ => .dead := by
    intro q; rw [← hh0, hOf_get, if_pos (Nat.zero_le _), Nat.sub_zero]
  have hblk : ∀ q b, (h0.get q).blk = some b → F q b ∧ ∃ rows sz off cap, a.cells[q]? = some (.s rows, sz) ∧ rows ≠ [] ∧ Hs q = some (b, off, cap) := by
    intro q b hq
    rw [hget] at hq
    split at hq
    · rename_i rows sz hc
      by_cases hr : rows = []
      · subst hr; rw [hHs0 q sz hc] at hq; simp [AObj.blk] at hq
      · obtain ⟨b', off, cap, cs, Ty, G, g1, g2, g3, -⟩ := full q rows sz hc hr
        rw [g1] at hq
        simp [AObj.blk] at hq
        subst hq
        exact ⟨g3, rows, sz, off, cap, hc, hr, g1⟩
    · simp [AObj.blk] at hq
  have hMF : ∀ q c, F q c → h0.M c → (h0.get q).blk = some c := by
    rintro q c hc ⟨q', hq'⟩
    have := hFd _ _ _ hc (hblk q' c hq').1
    subst this; exact hq'
  let Es (q c : Nat) : Prop := F q c ∧ ∃ b, (h0.get q).blk = some b ∧ c ≠ b
  have HH : HRel bs h0 w Es := by
    refine ⟨fun q => ?_, fun q q' b h1 h2 => hFd _ _ _ (hblk q b h1).1 (hblk q' b h2).1, fun q b h1 => ?_, fun q c hc => ?_, fun q q' c hc hc' => hFd _ _ _ hc.1 hc'.1, fun q c hc hm => ?_⟩
    · have hq := hget q
      split at hq
      · rename_i rows sz hc
        by_cases hr : rows = []
        · subst hr; rw [hq, hHs0 q sz hc]; rfl
        · obtain ⟨b, off, cap, cs, Ty, G, g1, g2, g3, g4, g5, g6, g7, g8, g9, g10, g11, g12⟩ := full q rows sz hc hr
          rw [g1] at hq
          have hb' : (h0.get q).blk = some b := by rw [hq]; rfl
          rw [hq]
          refine ⟨cs, Ty, G, g4, g5, g6, g7, g8, g9, fun i j c hc => ⟨fun _ => ⟨(g10 i j c hc).1, b, hb', (g10 i j c hc).2⟩, fun hm => ?_⟩, fun _ => g11, g12⟩
          have := hMF q c (g10 i j c hc).1 hm
          rw [hb'] at this; cases this
          exact (g10 i j _ hc).2 rfl
      · rw [hq]; trivial
    · have := hFS q b (hblk q b h1).1
      exact ⟨fun h => h.2 this, fun h => h.2 this⟩
    · have := hFS q c hc.1
      exact ⟨fun h => h.2 this, hS c this⟩
    · obtain ⟨h1, b, h2, h3⟩ := hc
      have := hMF q c h1 hm
      rw [h2] at this; cases this
      exact h3 rfl
  have hvr : ∀ (j : Nat) (av : AV), (lOf Hs 0 a.cells)[j]? = some av → VRel w h0.M av (us j) := by
    intro j av hj
    rw [lOf_get, Option.map_eq_some_iff] at hj
    obtain ⟨⟨d, sz⟩, hj, rfl⟩ := hj
    have hr := hrd j _ hj
    cases d with
    | v x => obtain ⟨h1, h2⟩ := hr; rw [h1]; exact .v _ h2
    | h => exact hr.elim
    | s rows =>
      simp only [Nat.zero_add]
      refine .ml _ _ _ _ _ ?_
      by_cases h0 : rows = []
      · subst h0
        rcases hr.2.2 with ⟨-, ad, c, h3⟩ | ⟨h3, -⟩
        · exact .inr ⟨rfl, ad, c, h3⟩
        · exact absurd rfl h3
      · obtain ⟨b, off, cap, cs, Ty, G, g1, g2, g3, g4, g5, -⟩ := full j rows sz hj h0
        rw [g1, g2]
        exact .inl ⟨List.length_pos_iff.2 h0, .inl ⟨by simp, by omega⟩⟩
  have hinit : ∃ x, VRel w h0.M x u ∧ aSem ⟨P, T, w, bs⟩ c (markQ ⟨P, T, w, bs⟩ fn.results.toList r x a') { n := fn.ntmps, kb := 0, t := [(0, x), (1, .v (.int .i64 k))], h := h0 } ∧ ((∃ ts, a = .agg ts ∧ x = .agg (lOf Hs 0 ts)) ∨ ∃ d sz, a = .c d sz ∧ x = (lOf Hs 0 [(d, sz)]).headD .any) := by
    have hi := h w (fun c => c < w.heap.size ∧ ¬ S c)
    cases a with
    | c d sz =>
      have := initK_inst Hs _ _ _ hi
      rw [show hOf Hs 0 [(d, sz)] = h0 from hh0] at this
      refine ⟨_, ?_, this, .inr ⟨d, sz, rfl, rfl⟩⟩
      have e : us 0 = u := hsh
      rw [← e]
      have hv0 := hvr 0
      cases hl : lOf Hs 0 [(d, sz)] with
      | nil => have := congrArg List.length hl; cases d <;> simp [lOf] at this
      | cons y l => exact hv0 y (by show (lOf Hs 0 [(d, sz)])[0]? = _; rw [hl]; rfl)
    | agg ts =>
      have := initK_inst Hs _ _ _ hi
      rw [show hOf Hs 0 ts = h0 from hh0] at this
      refine ⟨_, ?_, this, .inl ⟨ts, rfl, rfl⟩⟩
      obtain ⟨xs, rfl, hxs, hus⟩ := hsh
      have hll : (lOf Hs 0 ts).length = ts.length := by
        have : ∀ (l : List (CD × Nat)) (key : Nat), (lOf Hs key l).length = l.length := by
          intro l
          induction l with
          | nil => intro key; rfl
          | cons t l ih => intro key; obtain ⟨d, sz⟩ := t; cases d <;> simp [lOf, ih]
        exact this ts 0
      exact .agg _ _ (by omega) (fun i av hi => by rw [← hus]; exact hvr i av hi)
  obtain ⟨x, hx, hsem, hxa⟩ := hinit
  have hR : Rep w bs { n := fn.ntmps, kb := 0, t := [(0, x), (1, .v (.int .i64 k))], h := h0 } { tmps := #[u, .int .i64 k] ++ Array.replicate (fn.ntmps - (#[u, .int .i64 k] : Array Value).size) undef, defers := [] } w := by
    refine ⟨rfl, by simp; omega, fun i => ?_, ⟨Es, HH⟩, BelowF.refl _ _, fun b hb => hb.elim (fun h => h.1) (fun h => h.1)⟩
    show VRel w h0.M (getT [(0, x), (1, .v (.int .i64 k))] i) _
    have e : ∀ i, i < 2 → (#[u, .int .i64 k] ++ Array.replicate (fn.ntmps - (#[u, .int .i64 k] : Array Value).size) undef).getD i undef = (#[u, .int .i64 k] : Array Value).getD i undef := by
      intro i hi
      simp only [Array.getD_eq_getD_getElem?]
      rw [Array.getElem?_append_left (by simpa using hi)]
    match i with
    | 0 => rw [e 0 (by omega)]; exact hx
    | 1 => rw [e 1 (by omega)]; exact VRel.v (w := w) (M := h0.M) (.int .i64 k) rfl
    | i + 2 => exact .any _
  refine wp_mono (aSem_sound hE c _ _ _ w hR hsem) ?_
  rintro e ac' w' ⟨st', hq, hR'⟩
  have key : (aRes ⟨P, T, w, bs⟩ st' fn.results.toList (fun l => l = [.v (.int .i64 r)]) ∧ finV st'.h x a') → ac'.defers = [] ∧ ∃ v, (results fn ac'.tmps).run P w' = .ok v w' ∧ Ending.returned v = .returned (.int .i64 r) ∧ BelowF (fun b => b < w.heap.size ∧ ¬ S b) w w' ∧ RdMs w' (fun c => S c ∨ w.heap.size ≤ c ∧ c < w'.heap.size) us a'.cells := by
    rintro ⟨hres, hfin⟩
    obtain ⟨vs, l, h1, h2, h3, rfl⟩ := aRes_sound hE hR' fn.results.toList hres
    have hvs : vs = [.int .i64 r] := by
      match vs, h2 with
      | [v], _ =>
        have := h3 0 _ rfl
        simp at this
        cases this; rfl
    subst hvs
    obtain ⟨E', H'⟩ := hR'.heap
    refine ⟨hR'.dfr, .int .i64 r, ?_, rfl, hR'.below, ?_⟩
    · have h1' : (fn.results.toList.mapM (resStep ac'.tmps)).run P w' = .ok [.int .i64 r] w' := h1
      rw [results_eq, Array.mapM_eq_mapM_toList]
      simp only [Sem.run_bind, Sem.run_map, h1', Result.andThen_ok, Sem.run_pure]
      simp
    · have hfin' : finK st'.h (lOf Hs 0 a.cells) a'.cells := by
        rcases hxa with ⟨ts, rfl, rfl⟩ | ⟨d, sz, rfl, rfl⟩
        · unfold finV at hfin
          cases a' with
          | agg ts' => exact hfin
          | c d' sz' => exact hfin.elim
        · unfold finV at hfin
          cases a' with
          | c d' sz' => cases d <;> exact hfin
          | agg ts' => cases d <;> exact hfin.elim
      obtain ⟨hll, hfk⟩ := finK_get _ _ hfin'
      have hbk : ∀ q c, ((st'.h.get q).blk = some c ∨ E' q c) → S c ∨ w.heap.size ≤ c ∧ c < w'.heap.size := by
        intro q c hc
        have h4 : ¬ (c < w.heap.size ∧ ¬ S c) ∧ c < w'.heap.size := by
          rcases hc with hc | hc
          · exact ⟨(H'.low q c hc).2, H'.lt hc⟩
          · exact H'.elow q c hc
        by_cases hs : S c
        · exact .inl hs
        · exact .inr ⟨Nat.le_of_not_lt (fun h => h4.1 ⟨h, hs⟩), h4.2⟩
      refine ⟨fun q c => (st'.h.get q).blk = some c ∨ E' q c, hbk, ?_, fun j t hj => ?_⟩
      · intro q q' c hc hc'
        rcases hc with hc | hc <;> rcases hc' with hc' | hc'
        · exact H'.inj _ _ c hc hc'
        · exact absurd ⟨q, hc⟩ (H'.em q' c hc')
        · exact absurd ⟨q', hc'⟩ (H'.em q c hc)
        · exact H'.einj _ _ c hc hc'
      · rcases hfk j t hj with ⟨u', sz, h4, rfl⟩ | ⟨q, Hq, sz, rows', h4, h5, h6, h7, rfl⟩
        · have hv := hvr j _ h4
          generalize us j = y at hv
          cases hv with | v _ hp => exact ⟨rfl, hp⟩
        · have hqj : q = j := by
            rw [lOf_get, Option.map_eq_some_iff] at h4
            obtain ⟨⟨d, s⟩, h8, h9⟩ := h4
            cases d with
            | v => simp at h9
            | h => simp at h9
            | s rows => simp at h9; exact h9.1.symm
          subst hqj
          have hv := hvr q _ h4
          obtain ⟨h8, ad, c, h9⟩ := slice_of hv (.inr rfl)
          refine ⟨h6, h7, ?_⟩
          by_cases hr0 : rows' = []
          · subst hr0; exact .inl ⟨rfl, ad, c, h9⟩
          · have hpos := List.length_pos_iff.2 hr0
            have hs := h8 hpos
            obtain ⟨b, o, C, rfl, -, -⟩ := hs.some_of hpos
            have ho := H'.obj q
            rw [h5] at ho
            have := rows_top ho ⟨q, by rw [h5]; rfl⟩ hs (show 0 + rows'.length ≤ rows'.length by omega)
            rw [show cut rows' 0 rows'.length = rows' by simp [cut]] at this
            refine .inr ⟨hr0, this.mono (fun c hc => ?_)⟩
            rcases hc with rfl | hc
            · exact .inl (by rw [h5]; rfl)
            · exact .inr hc.1
  cases e with
  | normal => exact key hq
  | ret => exact key hq
  | _ => exact hq.elim

/-- a kept value reads -/
def rdW (w0 : World) (F : Nat → Prop) (u : Value) (d : CD) : Prop := Rd w0 false F u d

theorem rd_eq {P : Program} {T : Nat → Option TI} {w0 : World} {F G : Nat → Prop} {l : Bool} {u : Value} {d : CD} : Env.rd ⟨P, T, w0, ⟨F, G, l⟩⟩ u d = rdW w0 F u d := (rfl)
theorem rd_fun {P : Program} {T : Nat → Option TI} {w0 : World} {F G : Nat → Prop} {l : Bool} : Env.rd ⟨P, T, w0, ⟨F, G, l⟩⟩ = rdW w0 F := (rfl)
theorem tight_eq {P : Program} {T : Nat → Option TI} {w0 : World} {F G : Nat → Prop} {l : Bool} : Env.tight ⟨P, T, w0, ⟨F, G, l⟩⟩ = ⟨P, T, w0, ⟨F, G, false⟩⟩ := (rfl)

def cvC (u : Value) : CD → AV
  | .v x => .v x
  | .s rows => .cv u rows.length
  | .h .. => .any

def cvL (us : Nat → Value) : Nat → List CD → List AV
  | _, [] => []
  | j, d :: ds => cvC (us j) d :: cvL us (j + 1) ds

def argC (us : Nat → Nat → Value) : Nat → List VD → List (Nat × AV)
  | _, [] => []
  | i, .c d :: l => (i, cvC (us i 0) d) :: argC us (i + 1) l
  | i, .agg ds :: l => (i, .agg (cvL (us i) 0 ds)) :: argC us (i + 1) l

def rdC (R : Value → CD → Prop) (u : Value) : CD → Prop
  | .s rows => R u (.s rows)
  | _ => True

def rdL (R : Value → CD → Prop) (us : Nat → Value) : Nat → List CD → Prop
  | _, [] => True
  | j, d :: ds => rdC R (us j) d ∧ rdL R us (j + 1) ds

def rdA (R : Value → CD → Prop) (us : Nat → Nat → Value) : Nat → List VD → Prop
  | _, [] => True
  | i, .c d :: l => rdC R (us i 0) d ∧ rdA R us (i + 1) l
  | i, .agg ds :: l => rdL R (us i) 0 ds ∧ rdA R us (i + 1) l

theorem cvL_get (us : Nat → Value) : ∀ (ds : List CD) (j i : Nat), (cvL us j ds)[i]? = (ds[i]?).map (cvC (us (j + i)))
  | [], j, i => by simp [cvL]
  | d :: ds, j, i => by
    cases i with
    | zero => rfl
    | succ i => simp only [cvL, List.getElem?_cons_succ]; rw [cvL_get us ds (j + 1) i, show j + 1 + i = j + (i + 1) by omega]

theorem cvL_length (us : Nat → Value) : ∀ (ds : List CD) (j : Nat), (cvL us j ds).length = ds.length
  | [], _ => rfl
  | d :: ds, j => by simp [cvL, cvL_length us ds (j + 1)]

theorem argC_get (us : Nat → Nat → Value) : ∀ (l : List VD) (k i : Nat), getT (argC us k l) i = if k ≤ i then (match l[i - k]? with | some (.c d) => cvC (us i 0) d | some (.agg ds) => .agg (cvL (us i) 0 ds) | none => .any) else .any
  | [], k, i => by simp [argC, getT]
  | v :: l, k, i => by
    by_cases h : i = k
    · subst h; cases v <;> simp [argC, getT]
    · have e : getT (argC us k (v :: l)) i = getT (argC us (k + 1) l) i := by cases v <;> simp [argC, getT, h]
      rw [e, argC_get us l (k + 1) i]
      by_cases h1 : k + 1 ≤ i
      · rw [if_pos h1, if_pos (by omega), show i - k = (i - (k + 1)) + 1 by omega]
        rfl
      · rw [if_neg h1, if_neg (by omega)]

theorem cvC_rel {w : World} {M F : Nat → Prop} {u : Value} {d : CD} (h : Rd w false F u d) (hh : ∀ k H sz len, d ≠ .h k H sz len) : VRel w M (cvC u d) u := by
  cases d with
  | v x => cases h with | plain hp => exact .v _ hp
  | s rows =>
    refine .cv _ _ ?_
    cases h with
    | empty a cap => exact ⟨a, cap, rfl⟩
    | slice b off cap => exact ⟨_, cap, rfl⟩
  | h k H sz len => exact absurd rfl (hh k H sz len)

theorem rdL_of {R : Value → CD → Prop} {us : Nat → Value} : ∀ (ds : List CD) (j : Nat), (∀ (i : Nat) (d : CD), ds[i]? = some d → R (us (j + i)) d) → rdL R us j ds
  | [], _, _ => trivial
  | d :: ds, j, h => by
    refine ⟨?_, rdL_of ds (j + 1) (fun i d' hi => by rw [show j + 1 + i = j + (i + 1) by omega]; exact h (i + 1) d' (by simpa using hi))⟩
    cases d with
    | s rows => exact h 0 _ rfl
    | _ => trivial

theorem rdA_of {R : Value → CD → Prop} {us : Nat → Nat → Value} : ∀ (l : List VD) (k : Nat), (∀ (i : Nat) (v : VD), l[i]? = some v → (∀ d, v = .c d → R (us (k + i) 0) d) ∧ (∀ ds, v = .agg ds → ∀ (j : Nat) (d : CD), ds[j]? = some d → R (us (k + i) j) d)) → rdA R us k l
  | [], _, _ => trivial
  | v :: l, k, h => by
    have hl := rdA_of l (k + 1) (fun i v' hi => by rw [show k + 1 + i = k + (i + 1) by omega]; exact h (i + 1) v' (by simpa using hi))
    have h0 := h 0 v rfl
    cases v with
    | c d =>
      refine ⟨?_, hl⟩
      have := h0.1 d rfl
      cases d with
      | s rows => exact this
      | _ => trivial
    | agg ds =>
      refine ⟨rdL_of ds 0 (fun i d hi => ?_), hl⟩
      rw [Nat.zero_add]
      exact h0.2 ds rfl i d hi

/-- data of a law's arguments holds no opened slice -/
def noH : CD → Bool
  | .h .. => false
  | _ => true

def VD.noH : VD → Bool
  | .c d => AM.noH d
  | .agg ds => ds.all AM.noH

theorem PureC.introL {P : Program} {T : Nat → Option TI} (hT : ∀ t ti, T t = some ti → TIok P t ti) {f : Nat} {fn : Func} {c : Code} (hf : P.funcs[f]? = some fn) (hname : (fn.name == "runtime.NumGoroutine") = false) (hb : fn.body = some c)
    {n : Nat} {rs : List ResultVar} (hnt : fn.ntmps = n) (hrs : fn.results = ⟨rs⟩) {args : List VD} {res : RR} (hn : args.length ≤ n) (hno : args.all VD.noH = true)
    (h : ∀ w0 b us, rdA (rdW w0 b) us 0 args → aSem ⟨P, T, w0, ⟨b, b, true⟩⟩ c (bodyQ ⟨P, T, w0, ⟨b, b, true⟩⟩ rs res) { n := n, kb := 0, t := argC us 0 args, h := [] }) : PureC P f args res := by
  subst hnt
  have hrs' : fn.results.toList = rs := by rw [hrs]
  subst hrs'
  refine ⟨⟨fn, hf, hname, by rw [hb]; rfl⟩, fun w xs hs hx => calls_of_wp hf hb ?_⟩
  let bs : Bs := ⟨fun c => c < w.heap.size, fun c => c < w.heap.size, true⟩
  have hE : EOk ⟨P, T, w, bs⟩ := hT
  have hM : ∀ b, ¬ AH.M [] b := by rintro b ⟨k, hk⟩; simp [AH.get, AObj.blk] at hk
  let us (i j : Nat) : Value := match xs.getD i undef with
    | .agg ys => ys.getD j undef
    | y => y
  have hargs : ∀ (i : Nat) (v : VD), args[i]? = some v → (∀ d, v = .c d → xs.getD i undef = us i 0 ∧ Rd w false (fun _ => True) (us i 0) d) ∧ (∀ ds, v = .agg ds → ∃ ys : Array Value, xs.getD i undef = .agg ys ∧ ys.size = ds.length ∧ (∀ j, us i j = ys.getD j undef) ∧ ∀ (j : Nat) (d : CD), ds[j]? = some d → Rd w false (fun _ => True) (us i j) d) := by
    intro i v hi
    have h1 := hx i v hi
    constructor
    · rintro d rfl
      have h2 : Rd w false (fun _ => True) (xs.getD i undef) d := h1
      have e : us i 0 = xs.getD i undef := by
        simp only [us]
        generalize xs.getD i undef = y at h2
        have h2' := h2
        cases h2 with
        | plain hp => cases y <;> simp [plain] at hp <;> rfl
        | empty => rfl
        | slice => rfl
        | h k H sz len =>
          obtain ⟨a, c, rfl⟩ := h2'.mlv.slice
          rfl
      rw [e]; exact ⟨rfl, h2⟩
    · rintro ds rfl
      obtain ⟨ys, e1, e2, e3⟩ := h1
      have e4 : ∀ j, us i j = ys.getD j undef := fun j => by simp only [us, e1]
      exact ⟨ys, e1, e2, e4, fun j d hj => by rw [e4]; exact e3 j d hj⟩
  have hrd : rdA (rdW w fun c => c < w.heap.size) us 0 args := by
    refine rdA_of args 0 (fun i v hi => ?_)
    obtain ⟨h1, h2⟩ := hargs i v hi
    rw [Nat.zero_add]
    refine ⟨fun d hd => ((h1 d hd).2.within).map (fun _ _ _ => rfl) (fun c hc _ => hc.2), fun ds hds j d hj => ?_⟩
    obtain ⟨ys, -, -, -, h3⟩ := h2 ds hds
    exact ((h3 j d hj).within).map (fun _ _ _ => rfl) (fun c hc _ => hc.2)
  have nh : ∀ (d : CD), AM.noH d = true → ∀ k H sz len, d ≠ .h k H sz len := by
    intro d hd k H sz len e; subst e; simp [AM.noH] at hd
  have hR : Rep w bs { n := fn.ntmps, kb := 0, t := argC us 0 args, h := [] } { tmps := xs ++ Array.replicate (fn.ntmps - xs.size) undef, defers := [] } w := by
    refine ⟨rfl, by simp; omega, fun i => ?_, ⟨fun _ _ => False, fun k => trivial, fun k k' b hk => by simp [AH.get, AObj.blk] at hk, fun k b hk => by simp [AH.get, AObj.blk] at hk, fun k c hc => hc.elim, fun k k' c hc => hc.elim, fun k c hc => hc.elim⟩, BelowF.refl _ _, fun b hb => hb.elim id id⟩
    show VRel w (AH.M []) (getT (argC us 0 args) i) _
    rw [argC_get, if_pos (Nat.zero_le i), Nat.sub_zero]
    cases hv : args[i]? with
    | none => exact .any _
    | some v =>
      have hlt : i < xs.size := by rw [hs]; exact (List.getElem?_eq_some_iff.1 hv).1
      have e : (xs ++ Array.replicate (fn.ntmps - xs.size) undef).getD i undef = xs.getD i undef := by
        simp only [Array.getD_eq_getD_getElem?]
        rw [Array.getElem?_append_left hlt]
      show VRel w (AH.M []) _ ((xs ++ Array.replicate (fn.ntmps - xs.size) undef).getD i undef)
      rw [e]
      obtain ⟨h1, h2⟩ := hargs i v hv
      have hnv := List.all_eq_true.1 hno v (List.mem_of_getElem? hv)
      cases v with
      | c d =>
        obtain ⟨e1, e2⟩ := h1 d rfl
        rw [e1]
        exact cvC_rel e2 (nh d (by simpa [VD.noH] using hnv))
      | agg ds =>
        obtain ⟨ys, e1, e2, e3, e4⟩ := h2 ds rfl
        rw [e1]
        refine .agg _ _ (by rw [cvL_length]; omega) (fun j av hj => ?_)
        rw [cvL_get, Nat.zero_add, Option.map_eq_some_iff] at hj
        obtain ⟨d, hd, rfl⟩ := hj
        rw [← e3]
        exact cvC_rel (e4 j d hd) (nh d (List.all_eq_true.1 (by simpa [VD.noH] using hnv) d (List.mem_of_getElem? hd)))
  refine wp_mono (aSem_sound hE c _ _ _ w hR (h w (fun c => c < w.heap.size) us hrd)) ?_
  rintro e a' w' ⟨st', hq, hR'⟩
  have key : aRes ⟨P, T, w, bs⟩ st' fn.results.toList (retQ st'.h res) → a'.defers = [] ∧ ∃ v, (results fn a'.tmps).run P w' = .ok v w' ∧ ∃ v', Ending.returned v = .returned v' ∧ Below w.heap.size w w' ∧ RdRR w' (fun c => w.heap.size ≤ c ∧ c < w'.heap.size) v' res := by
    intro hq
    obtain ⟨vs, l, h1, h2, h3, h4⟩ := aRes_sound hE hR' fn.results.toList hq
    obtain ⟨Es, hH⟩ := hR'.heap
    refine ⟨hR'.dfr, if vs.length = 1 then vs.getD 0 undef else .tuple vs.toArray, ?_, _, rfl, ⟨hR'.below.os, hR'.below.tape, hR'.below.output, hR'.below.size, hR'.below.block⟩, ?_⟩
    · have h1' : (fn.results.toList.mapM (resStep a'.tmps)).run P w' = .ok vs w' := h1
      rw [results_eq, Array.mapM_eq_mapM_toList]
      simp only [Sem.run_bind, Sem.run_map, h1', Result.andThen_ok, Sem.run_pure]
      cases vs with
      | nil => simp
      | cons v vs => cases vs <;> simp
    · have low : ∀ c, ((∃ k, Es k c) ∨ st'.h.M c) → w.heap.size ≤ c ∧ c < w'.heap.size := by
        rintro c (⟨k, hk⟩ | ⟨k, hk⟩)
        · exact ⟨Nat.le_of_not_lt (hH.elow k c hk).1, (hH.elow k c hk).2⟩
        · exact ⟨Nat.le_of_not_lt (hH.low k c hk).1, hH.lt hk⟩
      unfold retQ at h4
      split at h4
      · split at h4
        · rename_i r x
          obtain ⟨h', E', S, -, hr, O⟩ := aOutV_sound hH (h3 0 x rfl) h4
          rw [if_pos (by simpa using h2)]
          exact RdRV.mono hr (fun c hc => low c (O.own c hc).1)
        · exact h4.elim
      · rename_i rs _
        obtain ⟨hne, h4⟩ := h4
        obtain ⟨h', E', S, F, -, hl, hF, hd, hr, O⟩ := aOutVs_sound l rs hH h3 h4
        rw [if_neg (by omega)]
        exact ⟨vs.toArray, F, rfl, by simp; omega, fun j c hc => low c (O.own c (hF j c hc)).1, hd, fun j t hj => by simpa using hr j t hj⟩
  cases e with
  | normal => exact key hq
  | ret => exact key hq
  | _ => exact hq.elim

/-- temporaries that read are let go -/
def hv (v : AV) : AV := bif v.q then v else .any
def hush (t : List (Nat × AV)) : List (Nat × AV) := t.map fun p => (p.1, hv p.2)

theorem hush_get : ∀ (t : List (Nat × AV)) (i : Nat), getT (hush t) i = hv (getT t i)
  | [], _ => rfl
  | (k, v) :: t, i => by
    simp only [hush, List.map_cons, getT]
    split
    · rfl
    · exact hush_get t i

theorem Rep.hush {w0 : World} {base : Bs} {n kb : Nat} {t : List (Nat × AV)} {h : AH} {a : Act} {w : World} (hR : Rep w0 base ⟨n, kb, t, h⟩ a w) : Rep w0 base ⟨n, kb, AM.hush t, h⟩ a w := by
  refine ⟨hR.dfr, hR.size, fun i => ?_, hR.heap, hR.below, hR.base_le⟩
  show VRel w h.M (getT (AM.hush t) i) _
  rw [hush_get]
  have := hR.tmp i
  unfold hv
  cases (getT t i).q
  · exact .any _
  · exact this

/-- a region that draws its order and only computes; what its temporaries read is let go -/
theorem DrawT.quietH {E : Env} (hE : EOk E) (hm : E.P.follows .mixedOrders = true) {id : Nat} {ops : List Oper} {Q : Exit → ASt → Prop} {n kb : Nat} {t : List (Nat × AV)} {h : AH} (hok : quietOk n ops = true)
    (hx : aAll E ops n kb h ops t fun t' => Q .normal ⟨n, kb, AM.hush t', h⟩) : DrawT E id ops Q ⟨n, kb, t, h⟩ := by
  intro a w hR
  have := DrawT.quiet hE hm (id := id) (Q := fun e st => Q e ⟨st.n, st.kb, AM.hush st.t, st.h⟩) hok hx a w hR
  refine wp_mono this ?_
  rintro e a' w' ⟨st', hq, hR'⟩
  exact ⟨_, hq, Rep.hush hR'⟩

theorem DrawT.introH {E : Env} (hE : EOk E) (hm : E.P.follows .mixedOrders = true) {id : Nat} {ops : List Oper} {Q : Exit → ASt → Prop} {st : ASt} (pre tail : List Nat) (hok : drawOk ops pre tail = true)
    (h : aDraw E.tight ops pre tail (fun st => Q .normal ⟨st.n, st.kb, AM.hush st.t, st.h⟩) st) : DrawT E id ops Q st := by
  intro a w hR
  have := DrawT.intro hE hm (id := id) (Q := fun e st => Q e ⟨st.n, st.kb, AM.hush st.t, st.h⟩) pre tail hok h a w hR
  refine wp_mono this ?_
  rintro e a' w' ⟨st', hq, hR'⟩
  exact ⟨_, hq, Rep.hush hR'⟩

section rules
variable {P : Program} {T : Nat → Option TI} {w0 : World} {base : Bs} {E : Env} {Q : Exit → ASt → Prop} {K : ASt → Prop} {st : ASt} {h : AH} {l : List AV} {t t' : CD × Nat} {ts ts' : List (CD × Nat)} {ks : List Nat} {KA : AH → Prop} {KL : AH → List Nat → Prop} {KI : List AV → AH → Prop} {key k sz off len : Nat} {H : Hd} {u : Value} {rows : List (List CD)}
theorem hv_v : hv (.v u) = .v u := (rfl)
theorem hv_any : hv .any = .any := (rfl)
theorem hv_un : hv .un = .un := (rfl)
theorem hv_nil : hv .nil = .nil := (rfl)
theorem hv_ro : hv (.ro rows) = .any := (rfl)
theorem hv_rp {row : List CD} : hv (.rp row) = .any := (rfl)
theorem hv_sl : hv (.sl k H sz off len) = .sl k H sz off len := (rfl)
theorem hv_cv : hv (.cv u len) = .cv u len := (rfl)
theorem hv_ml : hv (.ml k H sz len) = .ml k H sz len := (rfl)
theorem hv_p {b c : Nat} : hv (.p k b c) = .p k b c := (rfl)
theorem hv_e {r c : Nat} : hv (.e k H sz r c) = .e k H sz r c := (rfl)
theorem hv_agg : hv (.agg l) = bif AV.qL l then .agg l else .any := (rfl)
theorem hv_tup : hv (.tup l) = bif AV.qL l then .tup l else .any := (rfl)
theorem hv_clo {f : Nat} : hv (.clo f l) = bif AV.qL l then .clo f l else .any := (rfl)
theorem hush_nil : AM.hush [] = [] := (rfl)
theorem hush_cons {i : Nat} {v : AV} {t : List (Nat × AV)} : AM.hush ((i, v) :: t) = (i, hv v) :: AM.hush t := (rfl)
theorem q_v : AV.q (.v u) = true := (rfl)
theorem q_any : AV.q .any = true := (rfl)
theorem q_un : AV.q .un = true := (rfl)
theorem q_nil : AV.q .nil = true := (rfl)
theorem q_ro : AV.q (.ro rows) = false := (rfl)
theorem q_rp {row : List CD} : AV.q (.rp row) = false := (rfl)
theorem q_sl : AV.q (.sl k H sz off len) = true := (rfl)
theorem q_cv : AV.q (.cv u len) = true := (rfl)
theorem q_ml : AV.q (.ml k H sz len) = true := (rfl)
theorem q_p {b c : Nat} : AV.q (.p k b c) = true := (rfl)
theorem q_e {r c : Nat} : AV.q (.e k H sz r c) = true := (rfl)
theorem q_agg : AV.q (.agg l) = AV.qL l := (rfl)
theorem q_tup : AV.q (.tup l) = AV.qL l := (rfl)
theorem q_clo {f : Nat} : AV.q (.clo f l) = AV.qL l := (rfl)
theorem qL_nil : AV.qL [] = true := (rfl)
theorem qL_cons {a : AV} : AV.qL (a :: l) = (a.q && AV.qL l) := (rfl)
theorem quiet_eq {n kb : Nat} {t : List (Nat × AV)} : ASt.quiet ⟨n, kb, t, h⟩ = (qT t = true ∧ qH h = true) := (rfl)
theorem qT_nil : qT [] = true := (rfl)
theorem qT_cons {i : Nat} {v : AV} {t : List (Nat × AV)} : qT ((i, v) :: t) = (v.q && qT t) := (rfl)
theorem qH_nil : qH [] = true := (rfl)
theorem qH_cons {i : Nat} {o : AObj} : qH ((i, o) :: h) = (o.q && qH h) := (rfl)
theorem oq_dead : AObj.q .dead = true := (rfl)
theorem oq_vars {b : Nat} {T : TypeId} : AObj.q (.vars b T l) = AV.qL l := (rfl)
theorem oq_rows {own : Bool} : AObj.q (.rows H sz rows own) = own := (rfl)
theorem mkK_nil : mkK h [] [] [] ks KA = KA h := (rfl)
theorem mkK_v : mkK h (.v u :: l) (t :: ts) (t' :: ts') ks KA = (t.1 = .v u ∧ t'.1 = .v u ∧ mkK h l ts ts' ks KA) := (rfl)
theorem mkK_sl : mkK h (.sl k H sz off len :: l) (t :: ts) (t' :: ts') ks KA = (off = 0 ∧ mkS h k H sz len t t' ks fun h' ks' => mkK h' l ts ts' ks' KA) := (rfl)
theorem mkK_ml : mkK h (.ml k H sz len :: l) (t :: ts) (t' :: ts') ks KA = (mkS h k H sz len t t' ks fun h' ks' => mkK h' l ts ts' ks' KA) := (rfl)
theorem mkS_eq {d : CD} {z : Nat} {rows' : List (List CD)} {z' : Nat} : mkS h k H sz len (d, z) (.s rows', z') ks KL = (ks.contains k = false ∧ wR (h.get k) fun H' sz' rows own => H = H' ∧ sz = sz' ∧ z = sz ∧ z' = sz ∧ 0 < sz ∧ own = true ∧ len = rows.length ∧ (∀ row ∈ rows, row.length = sz) ∧ d = .s rows ∧ KL ((k, .rows H sz rows' true) :: h) (k :: ks)) := by
  simp only [mkS, wR]; cases h.get k <;> rfl
theorem mkV_c {x : AV} {d d' : CD} {z z' : Nat} : mkV h x (.c d z) (.c d' z') KA = mkK h [x] [(d, z)] [(d', z')] [] KA := (rfl)
theorem mkV_agg : mkV h (.agg l) (.agg ts) (.agg ts') KA = mkK h l ts ts' [] KA := (rfl)
theorem initK_nil : initK key [] KI = KI [] [] := (rfl)
theorem initK_v {z : Nat} : initK key ((.v u, z) :: ts) KI = initK (key + 1) ts fun l h => KI (.v u :: l) h := (rfl)
theorem initK_s {z : Nat} : initK key ((.s rows, z) :: ts) KI = ∀ H, initK (key + 1) ts fun l h => KI (.ml key H z rows.length :: l) ((key, .rows H z rows true) :: h) := (rfl)
theorem initV_c {d : CD} {z : Nat} {KV : AV → AH → Prop} : initV (.c d z) KV = initK 0 [(d, z)] fun l h => KV (l.headD .any) h := (rfl)
theorem initV_agg {KV : AV → AH → Prop} : initV (.agg ts) KV = initK 0 ts fun l h => KV (.agg l) h := (rfl)
theorem headD_cons {a : AV} : List.headD (a :: l) .any = a := (rfl)
theorem finK_nil : finK h [] [] = True := (rfl)
theorem finK_v : finK h (.v u :: l) (t :: ts) = (t.1 = .v u ∧ finK h l ts) := (rfl)
theorem finK_ml : finK h (.ml k H sz len :: l) (t :: ts) = ((wR (h.get k) fun H' sz' rows' own => H' = H ∧ sz' = sz ∧ t.2 = sz ∧ own = true ∧ rows'.length = len ∧ 0 < sz ∧ (∀ row ∈ rows', row.length = sz) ∧ t.1 = .s rows') ∧ finK h l ts) := by
  simp only [finK, wR]; cases h.get k <;> rfl
theorem finV_c {x : AV} {d : CD} {z : Nat} : finV h x (.c d z) = finK h [x] [(d, z)] := (rfl)
theorem finV_agg : finV h (.agg l) (.agg ts) = finK h l ts := (rfl)
variable {rs : List ResultVar} {r : Int} {x : AV} {a' : RV}
theorem markQ_n : markQ E rs r x a' .normal st = (aRes E st rs (fun l => l = [.v (.int .i64 r)]) ∧ finV st.h x a') := (rfl)
theorem markQ_r : markQ E rs r x a' .ret st = (aRes E st rs (fun l => l = [.v (.int .i64 r)]) ∧ finV st.h x a') := (rfl)
theorem loopG_n {β : Type} {Inv : β → Prop} {I : β → ASt} {μ : β → Nat} {x : β} : loopG E Inv I μ x Q .normal st = Ent E st fun st' => ∃ x', Inv x' ∧ μ x' < μ x ∧ Weak st' (I x') := (rfl)
theorem loopG_r {β : Type} {Inv : β → Prop} {I : β → ASt} {μ : β → Nat} {x : β} : loopG E Inv I μ x Q .ret st = Q .ret st := (rfl)
theorem loopG_e {β : Type} {Inv : β → Prop} {I : β → ASt} {μ : β → Nat} {x : β} {i : Nat} : loopG E Inv I μ x Q (.exit i) st = Q (.exit i) st := (rfl)
theorem setC_nil {i j : Nat} {d : CD} : setC [] i j d = [] := by simp [setC]
end rules
attribute [simp ↓] rd_fun tight_eq mkK_nil mkK_v mkK_sl mkK_ml mkS_eq mkV_c mkV_agg initK_nil initK_v initK_s initV_c initV_agg headD_cons finK_nil finK_v finK_ml finV_c finV_agg markQ_n markQ_r loopG_n loopG_r loopG_e hush_nil hush_cons
attribute [simp] hv_v hv_any hv_un hv_nil hv_ro hv_rp hv_sl hv_cv hv_ml hv_p hv_e hv_agg hv_tup hv_clo q_v q_any q_un q_nil q_ro q_rp q_sl q_cv q_ml q_p q_e q_agg q_tup q_clo qL_nil qL_cons quiet_eq qT_nil qT_cons qH_nil qH_cons oq_dead oq_vars oq_rows cvC cvL argC rdC rdL rdA setC_length
end Go.AM
