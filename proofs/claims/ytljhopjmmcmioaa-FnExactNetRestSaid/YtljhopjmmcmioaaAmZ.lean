/-
  Calls that turn what is owned, to the bottom: the contract, how it is used.
-/
import Derived.Test.YtljhopjmmcmioaaAmY
namespace Go.AM
open Go.RowKit

/-- a cell that may be turned: all of it lies in S -/
def RdM (w : World) (S : Nat → Prop) (u : Value) : CD × Nat → Prop
  | (.v x, _) => u = x ∧ plain x = true
  | (.s rows, sz) => 0 < sz ∧ (∀ row ∈ rows, row.length = sz) ∧ ((rows = [] ∧ ∃ a c, u = .slice a 0 c) ∨ (rows ≠ [] ∧ RdTop w S u (.s rows, sz)))
  | (.h .., _) => False

def RdMs (w : World) (S : Nat → Prop) (us : Nat → Value) (ts : List (CD × Nat)) : Prop :=
  ∃ F : Nat → Nat → Prop, (∀ j c, F j c → S c) ∧ (∀ j j' c, F j c → F j' c → j = j') ∧ ∀ j t, ts[j]? = some t → RdM w (F j) (us j) t

def RV.cells : RV → List (CD × Nat)
  | .c d sz => [(d, sz)]
  | .agg ts => ts

def Sh (u : Value) (us : Nat → Value) : RV → Prop
  | .c _ _ => us 0 = u
  | .agg ts => ∃ xs : Array Value, u = .agg xs ∧ xs.size = ts.length ∧ ∀ j, us j = xs.getD j undef

/-- the contract of a function that turns its argument's cells and counts on -/
def MarkC (P : Program) (f : Nat) (a : RV) (k r : Int) (a' : RV) : Prop :=
  FnOk P f ∧ ∀ (w : World) (S : Nat → Prop) (u : Value) (us : Nat → Value), (∀ c, S c → c < w.heap.size) → Sh u us a → RdMs w S us a.cells →
    Calls P f #[u, .int .i64 k] w fun e w' => e = .returned (.int .i64 r) ∧ BelowF (fun b => b < w.heap.size ∧ ¬ S b) w w' ∧ RdMs w' (fun c => S c ∨ w.heap.size ≤ c ∧ c < w'.heap.size) us a'.cells

/-- the object behind a slice that is handed to be turned -/
def mkS (h : AH) (k : Nat) (H : Hd) (sz len : Nat) (t t' : CD × Nat) (ks : List Nat) (K : AH → List Nat → Prop) : Prop :=
  ks.contains k = false ∧ match h.get k with
    | .rows H' sz' rows own => H = H' ∧ sz = sz' ∧ t.2 = sz ∧ t'.2 = sz ∧ 0 < sz ∧ own = true ∧ len = rows.length ∧ (∀ row ∈ rows, row.length = sz) ∧ t.1 = .s rows ∧
        (match t'.1 with
          | .s rows' => K ((k, .rows H sz rows' true) :: h) (k :: ks)
          | _ => False)
    | _ => False

def mkK (h : AH) : List AV → List (CD × Nat) → List (CD × Nat) → List Nat → (AH → Prop) → Prop
  | [], [], [], _, K => K h
  | a :: l, t :: ts, t' :: ts', ks, K => match a with
    | .v u => t.1 = .v u ∧ t'.1 = .v u ∧ mkK h l ts ts' ks K
    | .sl k H sz off len => off = 0 ∧ mkS h k H sz len t t' ks fun h' ks' => mkK h' l ts ts' ks' K
    | .ml k H sz len => mkS h k H sz len t t' ks fun h' ks' => mkK h' l ts ts' ks' K
    | _ => False
  | _, _, _, _, _ => False

def mkV (h : AH) (x : AV) (a a' : RV) (K : AH → Prop) : Prop :=
  match a, a' with
  | .c d sz, .c d' sz' => mkK h [x] [(d, sz)] [(d', sz')] [] K
  | .agg ts, .agg ts' => match x with
    | .agg l => mkK h l ts ts' [] K
    | _ => False
  | _, _ => False

/-- what is known of one cell -/
inductive MCell (h h' : AH) : AV → CD × Nat → CD × Nat → Prop
  | v (u : Value) (sz sz' : Nat) : MCell h h' (.v u) (.v u, sz) (.v u, sz')
  | s (av : AV) (k : Nat) (H : Hd) (sz : Nat) (rows rows' : List (List CD)) (ha : av = .sl k H sz 0 rows.length ∨ av = .ml k H sz rows.length) (hz : 0 < sz) (hr : ∀ row ∈ rows, row.length = sz)
      (hg : h.get k = .rows H sz rows true) (hg' : h'.get k = .rows H sz rows' true) : MCell h h' av (.s rows, sz) (.s rows', sz)

def AV.key : AV → Option Nat
  | .sl k _ _ _ _ => some k
  | .ml k _ _ _ => some k
  | _ => none

theorem mkK_spec : ∀ (l : List AV) (ts ts' : List (CD × Nat)) (h : AH) (ks : List Nat) (K : AH → Prop), mkK h l ts ts' ks K →
    ∃ h', K h' ∧ l.length = ts.length ∧ ts'.length = ts.length ∧ (∀ (j : Nat) (av : AV) (t t' : CD × Nat), l[j]? = some av → ts[j]? = some t → ts'[j]? = some t' → MCell h h' av t t') ∧
      (∀ (j j' : Nat) (av av' : AV) (k : Nat), l[j]? = some av → l[j']? = some av' → av.key = some k → av'.key = some k → j = j') ∧
      (∀ av ∈ l, ∀ k, av.key = some k → k ∉ ks) ∧ ∀ q, (∀ av ∈ l, av.key ≠ some q) → h'.get q = h.get q
  | [], [], [], h, ks, K, hk => ⟨h, hk, rfl, rfl, fun j av t t' hj => by simp at hj, fun j j' av av' k hj => by simp at hj, fun av ha => by simp at ha, fun q _ => rfl⟩
  | a :: l, t :: ts, t' :: ts', h, ks, K, hk => by
    have slice : ∀ (k : Nat) (H : Hd) (sz len : Nat), (a = .sl k H sz 0 len ∨ a = .ml k H sz len) → mkS h k H sz len t t' ks (fun h' ks' => mkK h' l ts ts' ks' K) → ∃ h', K h' ∧ (a :: l).length = (t :: ts).length ∧ (t' :: ts').length = (t :: ts).length ∧ (∀ (j : Nat) (av : AV) (x x' : CD × Nat), (a :: l)[j]? = some av → (t :: ts)[j]? = some x → (t' :: ts')[j]? = some x' → MCell h h' av x x') ∧
      (∀ (j j' : Nat) (av av' : AV) (k : Nat), (a :: l)[j]? = some av → (a :: l)[j']? = some av' → av.key = some k → av'.key = some k → j = j') ∧
      (∀ av ∈ a :: l, ∀ k, av.key = some k → k ∉ ks) ∧ ∀ q, (∀ av ∈ a :: l, av.key ≠ some q) → h'.get q = h.get q := by
      intro k H sz len ha hs
      unfold mkS at hs
      obtain ⟨hks, hs⟩ := hs
      have hkk : a.key = some k := by rcases ha with rfl | rfl <;> rfl
      split at hs
      · rename_i H' sz' rows own hget
        obtain ⟨rfl, rfl, h1, h2, h3, rfl, rfl, h4, h5, h6⟩ := hs
        split at h6
        · rename_i rows' ht'
          obtain ⟨h', g1, g2, g3, g4, g5, g6, g7⟩ := mkK_spec l ts ts' _ _ K h6
          have hne : ∀ av ∈ l, av.key ≠ some k := fun av hav hk => g6 av hav k hk (List.mem_cons_self ..)
          have hgk : h'.get k = .rows H sz rows' true := by rw [g7 k hne, get_cons, if_pos rfl]
          refine ⟨h', g1, by simp [g2], by simp [g3], fun j av x x' hj hx hx' => ?_, fun j j' av av' q hj hj' hq hq' => ?_, fun av hav q hq => ?_, fun q hq => ?_⟩
          · cases j with
            | zero =>
              simp at hj hx hx'
              subst hj hx hx'
              obtain ⟨t1, t2⟩ := t
              obtain ⟨t1', t2'⟩ := t'
              simp only at h1 h2 h5 ht'
              subst h1 h5 ht'
              rw [h2]
              exact .s a k H t2 rows rows' ha h3 h4 hget hgk
            | succ j =>
              have hj' : l[j]? = some av := by simpa using hj
              have := g4 j av x x' hj' (by simpa using hx) (by simpa using hx')
              cases this with
              | v u s s' => exact .v u s s'
              | s _ k2 H2 sz2 r r' q1 q2 q3 q4 q5 =>
                have hk2 : av.key = some k2 := by rcases q1 with rfl | rfl <;> rfl
                have : k2 ≠ k := by rintro rfl; exact hne av (List.mem_of_getElem? hj') hk2
                rw [get_cons, if_neg this] at q4
                exact .s av k2 H2 sz2 r r' q1 q2 q3 q4 q5
          · cases j with
            | zero =>
              simp at hj; subst hj
              cases j' with
              | zero => rfl
              | succ j' =>
                rw [hkk] at hq; cases hq
                exact absurd hq' (hne av' (List.mem_of_getElem? (by simpa using hj')))
            | succ j =>
              cases j' with
              | zero =>
                simp at hj'; subst hj'
                rw [hkk] at hq'; cases hq'
                exact absurd hq (hne av (List.mem_of_getElem? (by simpa using hj)))
              | succ j' => rw [g5 j j' av av' q (by simpa using hj) (by simpa using hj') hq hq']
          · rcases List.mem_cons.1 hav with rfl | hav
            · rw [hkk] at hq; cases hq
              simpa using hks
            · exact fun hm => g6 av hav q hq (List.mem_cons_of_mem _ hm)
          · have hqk : q ≠ k := by rintro rfl; exact hq a (List.mem_cons_self ..) hkk
            rw [g7 q (fun av hav => hq av (List.mem_cons_of_mem _ hav)), get_cons, if_neg hqk]
        · exact h6.elim
      · exact hs.elim
    unfold mkK at hk
    split at hk
    · rename_i u
      obtain ⟨h1, h2, h3⟩ := hk
      obtain ⟨h', g1, g2, g3, g4, g5, g6, g7⟩ := mkK_spec l ts ts' _ _ K h3
      refine ⟨h', g1, by simp [g2], by simp [g3], fun j av x x' hj hx hx' => ?_, fun j j' av av' q hj hj' hq hq' => ?_, fun av hav q hq => ?_, fun q hq => g7 q (fun av hav => hq av (List.mem_cons_of_mem _ hav))⟩
      · cases j with
        | zero =>
          simp at hj hx hx'
          subst hj hx hx'
          obtain ⟨t1, t2⟩ := t
          obtain ⟨t1', t2'⟩ := t'
          simp only at h1 h2
          subst h1 h2
          exact .v u _ _
        | succ j => exact g4 j av x x' (by simpa using hj) (by simpa using hx) (by simpa using hx')
      · cases j with
        | zero => simp at hj; subst hj; simp [AV.key] at hq
        | succ j =>
          cases j' with
          | zero => simp at hj'; subst hj'; simp [AV.key] at hq'
          | succ j' => rw [g5 j j' av av' q (by simpa using hj) (by simpa using hj') hq hq']
      · rcases List.mem_cons.1 hav with rfl | hav
        · simp [AV.key] at hq
        · exact g6 av hav q hq
    · rename_i k H sz off len
      obtain ⟨rfl, hs⟩ := hk
      exact slice k H sz len (.inl rfl) hs
    · rename_i k H sz len
      exact slice k H sz len (.inr rfl) hk
    · exact hk.elim
  | [], _ :: _, _, _, _, _, hk => hk.elim
  | [], [], _ :: _, _, _, _, hk => hk.elim
  | _ :: _, [], _, _, _, _, hk => hk.elim
  | _ :: _, _ :: _, [], _, _, _, hk => hk.elim

theorem ObjRel.still {w w' : World} {M M' E : Nat → Prop} {o : AObj} (h : ObjRel w M E o) (hq : o.q = true) (hb : ∀ b, o.blk = some b → w'.heap[b]? = w.heap[b]?) (hE : ∀ c, E c → w'.heap[c]? = w.heap[c]?)
    (hM : ∀ c, E c → ¬ M c → ¬ M' c) : ObjRel w' M' E o := by
  cases o with
  | dead => exact h
  | vars b T cells =>
    obtain ⟨cs, h1, h2, h3⟩ := h
    exact ⟨cs, (hb b rfl).trans h1, h2, fun j av hj => (h3 j av hj).quiet (AV.qL_get _ (by simpa [AObj.q] using hq) j av hj)⟩
  | rows H sz rows own =>
    cases H with
    | none => exact h
    | some q =>
      obtain ⟨b, o, C⟩ := q
      obtain ⟨cs, T, F, h1, h2, h3, h4, h5, h6, h7, h8, h9⟩ := h
      have hown : own = true := by simpa [AObj.q] using hq
      refine ⟨cs, T, F, (hb b rfl).trans h1, h2, h3, h4, h5, h6, fun i j c hc => ⟨(h7 i j c hc).1, ?_⟩, h8, fun i j row d h10 h11 => (h9 i j row d h10 h11).map (fun c hc _ => hE c ((h7 i j c hc).1 hown)) (fun c hc _ => hc)⟩
      exact hM c ((h7 i j c hc).1 hown) (h7 i j c hc).2

/-- a slice with cells reads through its block -/
theorem SlV.some_of {H : Hd} {sz len : Nat} {u : Value} (h : SlV H sz 0 len u) (hl : 0 < len) : ∃ b o C, H = some (b, o, C) ∧ u = .slice (some ⟨b, o, none⟩) len C ∧ len ≤ C := by
  cases H with
  | none => obtain ⟨_, h0⟩ := h; omega
  | some q =>
    obtain ⟨b, o, C⟩ := q
    rcases h with ⟨rfl, h2⟩ | ⟨rfl, _⟩
    · exact ⟨b, o, C, rfl, by simp, by omega⟩
    · omega

theorem slice_of {w : World} {M : Nat → Prop} {av : AV} {k : Nat} {H : Hd} {sz len : Nat} {u : Value} (h : VRel w M av u) (ha : av = .sl k H sz 0 len ∨ av = .ml k H sz len) :
    (0 < len → SlV H sz 0 len u) ∧ ∃ a c, u = .slice a len c := by
  rcases ha with rfl | rfl
  · cases h with
    | sl _ _ _ _ _ _ h =>
      refine ⟨fun _ => h, ?_⟩
      cases H with
      | none => obtain ⟨⟨a, rfl⟩, rfl⟩ := h; exact ⟨a, 0, rfl⟩
      | some q =>
        obtain ⟨b, o, C⟩ := q
        rcases h with ⟨rfl, _⟩ | ⟨rfl, _, a, rfl⟩
        · exact ⟨_, _, rfl⟩
        · exact ⟨_, _, rfl⟩
  · cases h with
    | ml _ _ _ _ _ h => exact ⟨fun h0 => h.elim (fun h => h.2) (fun h => by omega), h.slice⟩

theorem mark_heap {E : Env} {f : Nat} {a a' : RV} {k r : Int} (hc : MarkC E.P f a k r a') (hFG : ∀ b, E.base.F b → E.base.G b) {st : ASt} (hq : st.quiet) {x : AV} {K : AH → Prop} (hk : mkV st.h x a a' K)
    {ac : Act} {w : World} (hR : Rep E.w0 E.base st ac w) {u : Value} (hu : VRel w st.h.M x u) :
    Calls E.P f #[u, .int .i64 k] w fun e w' => e = .returned (.int .i64 r) ∧ ∃ h', K h' ∧ Rep E.w0 E.base { st with h := h' } ac w' := by
  obtain ⟨Es, HH⟩ := hR.heap
  -- the cells
  have hcells : ∃ (l : List AV) (us : Nat → Value), Sh u us a ∧ (∀ (j : Nat) (av : AV), l[j]? = some av → VRel w st.h.M av (us j)) ∧ mkK st.h l a.cells a'.cells [] K := by
    unfold mkV at hk
    split at hk
    · exact ⟨[x], fun _ => u, rfl, fun j av hj => by rcases j with _ | j <;> simp at hj; subst hj; exact hu, hk⟩
    · split at hk
      · rename_i l
        cases hu with
        | agg _ xs hs hl =>
          have := (mkK_spec _ _ _ _ _ _ hk)
          obtain ⟨_, _, h2, _⟩ := this
          exact ⟨l, fun j => xs.getD j undef, ⟨xs, rfl, by omega, fun _ => rfl⟩, hl, hk⟩
      · exact hk.elim
    · exact hk.elim
  obtain ⟨l, us, hsh, hus, hmk⟩ := hcells
  obtain ⟨h', hK, hlen, hlen', hcell, hdis, -, hrest⟩ := mkK_spec _ _ _ _ _ _ hmk
  -- who is turned: key, block
  let T (q : Nat) : Prop := ∃ (j : Nat) (av : AV) (H : Hd) (sz : Nat) (rows : List (List CD)), l[j]? = some av ∧ av.key = some q ∧ st.h.get q = .rows H sz rows true ∧ rows ≠ []
  let G (j c : Nat) : Prop := ∃ (av : AV) (q : Nat) (H : Hd) (sz : Nat) (rows : List (List CD)), l[j]? = some av ∧ av.key = some q ∧ st.h.get q = .rows H sz rows true ∧ rows ≠ [] ∧ ((st.h.get q).blk = some c ∨ Es q c)
  let S (c : Nat) : Prop := ∃ j, G j c
  have hST : ∀ c, S c → ∃ q, T q ∧ ((st.h.get q).blk = some c ∨ Es q c) := by
    rintro c ⟨j, av, q, H, sz, rows, h1, h2, h3, h4, h5⟩
    exact ⟨q, ⟨j, av, H, sz, rows, h1, h2, h3, h4⟩, h5⟩
  have hSlt : ∀ c, S c → c < w.heap.size := by
    intro c hc
    obtain ⟨q, -, h | h⟩ := hST c hc
    · exact HH.lt h
    · exact (HH.elow q c h).2
  have hSG : ∀ c, S c → ¬ E.base.G c := by
    intro c hc
    obtain ⟨q, -, h | h⟩ := hST c hc
    · exact (HH.low q c h).2
    · exact (HH.elow q c h).1
  have getc : ∀ (j : Nat) (av : AV), l[j]? = some av → ∃ t t', a.cells[j]? = some t ∧ a'.cells[j]? = some t' ∧ MCell st.h h' av t t' := by
    intro j av hj
    have h1 : j < l.length := (List.getElem?_eq_some_iff.1 hj).1
    have h2 : j < a.cells.length := by omega
    have h3 : j < a'.cells.length := by omega
    exact ⟨_, _, List.getElem?_eq_getElem h2, List.getElem?_eq_getElem h3, hcell j av _ _ hj (List.getElem?_eq_getElem h2) (List.getElem?_eq_getElem h3)⟩
  have hin : RdMs w S us a.cells := by
    refine ⟨G, fun j c hc => ⟨j, hc⟩, ?_, ?_⟩
    · rintro j j' c ⟨av, q, H, sz, rows, h1, h2, h3, h4, h5⟩ ⟨av', q', H', sz', rows', g1, g2, g3, g4, g5⟩
      have : q = q' := by
        rcases h5 with h5 | h5 <;> rcases g5 with g5 | g5
        · exact HH.inj _ _ c h5 g5
        · exact absurd ⟨q, h5⟩ (HH.em q' c g5)
        · exact absurd ⟨q', g5⟩ (HH.em q c h5)
        · exact HH.einj _ _ c h5 g5
      subst this
      exact hdis j j' av av' q h1 g1 h2 g2
    · intro j t hj
      have h1 : j < a.cells.length := (List.getElem?_eq_some_iff.1 hj).1
      have h2 : j < l.length := by omega
      obtain ⟨t0, t', e1, e2, hm⟩ := getc j _ (List.getElem?_eq_getElem h2)
      rw [hj] at e1; cases e1
      have hv := hus j _ (List.getElem?_eq_getElem h2)
      have hlj : l[j]? = some l[j] := List.getElem?_eq_getElem h2
      generalize l[j] = av at hm hv hlj
      cases hm with
      | v u' s s' => cases hv with | v _ hp => exact ⟨rfl, hp⟩
      | s _ q H sz rows rows' ha hz hr hg hg' =>
        obtain ⟨h5, h6⟩ := slice_of hv ha
        refine ⟨hz, hr, ?_⟩
        by_cases h0 : rows = []
        · subst h0
          obtain ⟨ad, c, hu⟩ := h6
          exact .inl ⟨rfl, ad, c, hu⟩
        · have hpos : 0 < rows.length := List.length_pos_iff.2 h0
          have hs := h5 hpos
          obtain ⟨b, o, C, rfl, -, -⟩ := hs.some_of hpos
          have ho := HH.obj q
          rw [hg] at ho
          have := rows_top ho ⟨q, by rw [hg]; rfl⟩ hs (show 0 + rows.length ≤ rows.length by omega)
          rw [show cut rows 0 rows.length = rows by simp [cut]] at this
          refine .inr ⟨h0, this.mono (fun c hc => ⟨av, q, _, sz, rows, hlj, by rcases ha with rfl | rfl <;> rfl, hg, h0, ?_⟩)⟩
          rcases hc with rfl | hc
          · exact .inl (by rw [hg]; rfl)
          · exact .inr hc.1
  refine (hc.2 w S u us hSlt hsh hin).mono ?_
  rintro e w' ⟨rfl, hb, F', hF', hd', hr'⟩
  refine ⟨rfl, h', hK, ?_⟩
  -- the turned objects, read anew
  have turned : ∀ (j : Nat) (av : AV) (q : Nat) (H : Hd) (sz : Nat) (rows : List (List CD)), l[j]? = some av → av.key = some q → st.h.get q = .rows H sz rows true → rows ≠ [] →
      ∃ b o C rows', H = some (b, o, C) ∧ h'.get q = .rows (some (b, o, C)) sz rows' true ∧ F' j b ∧ rows'.length = rows.length ∧ 0 < sz ∧ (∀ row ∈ rows', row.length = sz) ∧
        ∃ (cs : Array Value) (Ty : TypeId) (F : Nat → Nat → Nat → Prop), w'.heap[b]? = some (.cells cs Ty (0, 0)) ∧ rows'.length ≤ C ∧ C ≤ maxLen ∧ o + C * sz ≤ cs.size ∧ (∀ i j' c, F i j' c → F' j c ∧ c ≠ b) ∧ (∀ i j i' j' c, F i j c → F i' j' c → i = i' ∧ j = j') ∧
          ∀ i j row d, rows'[i]? = some row → row[j]? = some d → Rd w' true (F i j) (cs.getD (o + (i * sz + j)) undef) d := by
    intro j av q H sz rows hj hkey hg h0
    obtain ⟨t, t', e1, e2, hm⟩ := getc j av hj
    have hv := hus j av hj
    cases hm with
    | v u' s s' => simp [AV.key] at hkey
    | s _ q2 H2 sz2 rows2 rows' ha hz hr hg2 hg' =>
      have : q2 = q := by rcases ha with rfl | rfl <;> simpa [AV.key] using hkey
      subst this
      rw [hg] at hg2
      cases hg2
      have hpos : 0 < rows.length := List.length_pos_iff.2 h0
      obtain ⟨b, o, C, rfl, hu, hle⟩ := ((slice_of hv ha).1 hpos).some_of hpos
      have h3 := hr' j _ e2
      obtain ⟨h4, h5, h6⟩ := h3
      rcases h6 with ⟨rfl, ad, c, h7⟩ | ⟨h7, h8, h9, h10⟩
      · rw [hu, Value.slice.injEq] at h7
        exact absurd (List.eq_nil_of_length_eq_zero h7.2.1) h0
      · rcases h10 with ⟨h11, _⟩ | ⟨b', off', cap', cs, Ty, F, g1, g2, g3, g4, g5, g6, g7, g8, g9⟩
        · exact absurd h11 h7
        · rw [hu] at g1
          simp at g1
          obtain ⟨⟨rfl, rfl⟩, g10, rfl⟩ := g1
          exact ⟨b, o, C, rows', rfl, hg', g2, g10.symm, h4, h5, cs, Ty, F, g3, g4, g5, g6, g7, g8, g9⟩
  -- an object that is not turned is as it was
  have same : ∀ q, ¬ T q → h'.get q = st.h.get q := by
    intro q hT
    by_cases hk : ∀ av ∈ l, av.key ≠ some q
    · exact hrest q hk
    · simp only [Classical.not_forall, Classical.not_not] at hk
      obtain ⟨av, hav, hkey⟩ := hk
      obtain ⟨j, hj⟩ := List.getElem?_of_mem hav
      obtain ⟨t, t', e1, e2, hm⟩ := getc j av hj
      have hv := hus j av hj
      cases hm with
      | v u' s s' => simp [AV.key] at hkey
      | s _ q2 H2 sz2 rows2 rows' ha hz hr hg2 hg' =>
        have : q2 = q := by rcases ha with rfl | rfl <;> simpa [AV.key] using hkey
        subst this
        have h0 : rows2 = [] := Classical.byContradiction fun h0 => hT ⟨j, av, H2, sz2, rows2, hj, hkey, hg2, h0⟩
        subst h0
        obtain ⟨ad, c, hu⟩ := (slice_of hv ha).2
        obtain ⟨h4, h5, h6⟩ := hr' j _ e2
        have : rows' = [] := by
          rcases h6 with ⟨h7, _⟩ | ⟨h7, h8, h9, h10⟩
          · exact h7
          · rcases h10 with ⟨h11, _⟩ | ⟨b', off', cap', cs, Ty, F, g1, -⟩
            · exact h11
            · rw [hu] at g1
              simp at g1
              exact List.eq_nil_of_length_eq_zero g1.2.1.symm
        subst this
        rw [hg2, hg']
  have hblk : ∀ q, (h'.get q).blk = (st.h.get q).blk := by
    intro q
    by_cases hT : T q
    · obtain ⟨j, av, H, sz, rows, h1, h2, h3, h4⟩ := hT
      obtain ⟨b, o, C, rows', rfl, h5, -⟩ := turned j av q H sz rows h1 h2 h3 h4
      rw [h5, h3]; rfl
    · rw [same q hT]
  have hM : ∀ c, h'.M c ↔ st.h.M c := by intro c; unfold AH.M; simp only [hblk]
  have hnS : ∀ q c, ¬ T q → ((st.h.get q).blk = some c ∨ Es q c) → ¬ S c := by
    intro q c hT h hS
    obtain ⟨q', hT', h2⟩ := hST c hS
    have : q = q' := by
      rcases h with h | h <;> rcases h2 with h2 | h2
      · exact HH.inj _ _ c h h2
      · exact absurd ⟨q, h⟩ (HH.em q' c h2)
      · exact absurd ⟨q', h2⟩ (HH.em q c h)
      · exact HH.einj _ _ c h h2
    subst this
    exact hT hT'
  -- F' j beside the block: nobody's block
  have hFM : ∀ (j : Nat) (av : AV) (q : Nat) (H : Hd) (sz : Nat) (rows : List (List CD)), l[j]? = some av → av.key = some q → st.h.get q = .rows H sz rows true → rows ≠ [] → ∀ c, F' j c → (st.h.get q).blk ≠ some c → ¬ st.h.M c := by
    rintro j av q H sz rows h1 h2 h3 h4 c hc hne ⟨q', hq'⟩
    rcases hF' j c hc with hS | ⟨hS, -⟩
    · obtain ⟨j2, av2, q2, H2, sz2, rows2, g1, g2, g3, g4, g5⟩ := hS
      rcases g5 with g5 | g5
      · obtain ⟨b, o, C, rows', rfl, h5, hb2, -⟩ := turned j2 av2 q2 H2 sz2 rows2 g1 g2 g3 g4
        have : b = c := by rw [g3] at g5; simpa [AObj.blk] using g5
        subst this
        have := hd' _ _ _ hc hb2
        subst this
        rw [h1] at g1; cases g1
        rw [h2] at g2; cases g2
        exact hne g5
      · exact HH.em q2 c g5 ⟨q', hq'⟩
    · have := HH.lt hq'; omega
  let E' (q c : Nat) : Prop := (∃ (j : Nat) (av : AV) (H : Hd) (sz : Nat) (rows : List (List CD)), l[j]? = some av ∧ av.key = some q ∧ st.h.get q = .rows H sz rows true ∧ rows ≠ [] ∧ F' j c ∧ (st.h.get q).blk ≠ some c) ∨ (¬ T q ∧ Es q c)
  have H' : HRel E.base h' w' E' := by
    refine ⟨fun q => ?_, fun q q' c h1 h2 => HH.inj _ _ c (by rw [← hblk]; exact h1) (by rw [← hblk]; exact h2), fun q c h1 => HH.low q c (by rw [← hblk]; exact h1), fun q c hc => ?_, fun q q' c hc hc' => ?_, fun q c hc hm => ?_⟩
    · by_cases hT : T q
      · obtain ⟨j, av, H, sz, rows, h1, h2, h3, h4⟩ := hT
        obtain ⟨b, o, C, rows', rfl, h5, hb2, hl', hz, hrl, cs, Ty, F, g1, g2, g3, g4, g5, g6, g7⟩ := turned j av q H sz rows h1 h2 h3 h4
        rw [h5]
        have hne : ∀ c, c ≠ b → (st.h.get q).blk ≠ some c := fun c hcb he => by rw [h3] at he; simp [AObj.blk] at he; exact hcb he.symm
        exact ⟨cs, Ty, F, g1, g2, g3, hz, g4, hrl, fun i j2 c hc => ⟨fun _ => .inl ⟨j, av, _, sz, rows, h1, h2, h3, h4, (g5 i j2 c hc).1, hne c (g5 i j2 c hc).2⟩, fun hm => hFM j av q _ sz rows h1 h2 h3 h4 c (g5 i j2 c hc).1 (hne c (g5 i j2 c hc).2) ((hM c).1 hm)⟩, fun _ => g6, g7⟩
      · rw [same q hT]
        refine ((HH.obj q).still (qH_get _ hq.2 q) (M' := h'.M) (fun b hbq => hb.block b ⟨HH.lt hbq, hnS q b hT (.inl hbq)⟩) (fun c hc => hb.block c ⟨(HH.elow q c hc).2, hnS q c hT (.inr hc)⟩) (fun c _ hm hm' => hm ((hM c).1 hm'))).mono (fun _ _ h => h) (fun c hc => .inr ⟨hT, hc⟩)
    · rcases hc with ⟨j, av, H, sz, rows, h1, h2, h3, h4, h5, h6⟩ | ⟨hT, hc⟩
      · rcases hF' j c h5 with hS | hS
        · exact ⟨hSG c hS, Nat.lt_of_lt_of_le (hSlt c hS) hb.size⟩
        · exact ⟨(hR.newer hS.1).2, hS.2⟩
      · exact ⟨(HH.elow q c hc).1, Nat.lt_of_lt_of_le (HH.elow q c hc).2 hb.size⟩
    · have mixed : ∀ q q', (∃ (j : Nat) (av : AV) (H : Hd) (sz : Nat) (rows : List (List CD)), l[j]? = some av ∧ av.key = some q ∧ st.h.get q = .rows H sz rows true ∧ rows ≠ [] ∧ F' j c ∧ (st.h.get q).blk ≠ some c) → (¬ T q' ∧ Es q' c) → False := by
        rintro q q' ⟨j, av, H, sz, rows, h1, h2, h3, h4, h5, h6⟩ ⟨hT, hc⟩
        rcases hF' j c h5 with hS | hS
        · exact hnS q' c hT (.inr hc) hS
        · have := (HH.elow q' c hc).2; omega
      rcases hc with hc | hc <;> rcases hc' with hc' | hc'
      · obtain ⟨j, av, H, sz, rows, h1, h2, h3, h4, h5, h6⟩ := hc
        obtain ⟨j2, av2, H2, sz2, rows2, g1, g2, g3, g4, g5, g6⟩ := hc'
        have := hd' _ _ _ h5 g5
        subst this
        rw [h1] at g1; cases g1
        rw [h2] at g2; cases g2
        rfl
      · exact (mixed q q' hc hc').elim
      · exact (mixed q' q hc' hc).elim
      · exact HH.einj _ _ c hc.2 hc'.2
    · rcases hc with ⟨j, av, H, sz, rows, h1, h2, h3, h4, h5, h6⟩ | ⟨hT, hc⟩
      · exact hFM j av q H sz rows h1 h2 h3 h4 c h5 h6 ((hM c).1 hm)
      · exact HH.em q c hc ((hM c).1 hm)
  refine ⟨hR.dfr, hR.size, fun i => (hR.tmp i).quiet (qT_get _ hq.1 i), ⟨E', H'⟩, hR.below.trans ⟨hb.os, hb.tape, hb.output, hb.size, fun b hbF => hb.block b ⟨hR.base_le b (.inl hbF), fun hS => hSG b hS (hFG b hbF)⟩⟩, fun b hb' => Nat.lt_of_lt_of_le (hR.base_le b hb') hb.size⟩

theorem ACall.mark {E : Env} {f : Nat} {a a' : RV} {k r : Int} (hc : MarkC E.P f a k r a') (hlo : E.base.loose = true) (hFG : ∀ b, E.base.F b → E.base.G b) {st : ASt} {x : AV} {dst : Option Nat} {K : ASt → Prop} (hq : st.quiet)
    (hk : mkV st.h x a a' fun h' => aPut { st with h := h' } dst (.v (.int .i64 r)) K) : ACall E f [x, .v (.int .i64 k)] st dst K := by
  refine ⟨hc.1, fun ac w hR xs hs hx => ?_⟩
  have hx0 := hx 0 x rfl
  have hx1 := hx 1 _ rfl
  have hxs : xs = #[xs.getD 0 undef, .int .i64 k] := by
    have h1 : xs.getD 1 undef = .int .i64 k := by
      generalize xs.getD 1 undef = y at hx1
      cases hx1; rfl
    have h2 : xs.size = 2 := by simpa using hs
    refine Array.ext (by simp [h2]) (fun i hi hi' => ?_)
    have hi2 : i < 2 := by omega
    rcases i with _ | _ | i
    · simp [hi]
    · simp at h1
      simp [hi] at h1
      simp [h1]
    · omega
  rw [hxs]
  refine (mark_heap hc hFG hq hk hR hx0).mono ?_
  rintro e w' ⟨rfl, h', hK, hR'⟩
  obtain ⟨h1, h2⟩ := hR'.put (v := .int .i64 r) (.v _ rfl) hK
  have e : ∀ (s : ASt), (({ s with h := h' } : ASt).aft dst (.v (.int .i64 r)) h') = s.aft dst (.v (.int .i64 r)) h' := fun s => by unfold ASt.aft; cases dst <;> rfl
  rw [show ({ st with h := h' } : ASt).h = h' from rfl, e] at h1 h2
  exact ⟨_, _, h', rfl, h1, h2, (fun h => by rw [hlo] at h; cases h), .v _ rfl⟩
end Go.AM
