/-
  Calls by contract; loops; regions that draw their order and only compute.
-/
import Derived.Test.YtljhopjmmcmioaaAmM
namespace Go.AM
open Go.RowKit

/-- what a kept value reads as -/
def Env.rd (E : Env) (u : Value) (d : CD) : Prop := Rd E.w0 false E.base.F u d

/-- a value is read as this datum -/
def aIn (R : Value → CD → Prop) (h : AH) (x : AV) (d : CD) : Prop :=
  match x with
  | .cv u _ => R u d
  | .ml k H sz len => match h.get k with
    | .rows H' sz' rows _ => H = H' ∧ sz = sz' ∧ len = rows.length ∧ d = .s rows
    | _ => False
  | .v u => d = .v u
  | .nil => d = .s []
  | .ro rows => d = .s rows
  | .sl k H sz off len => match h.get k with
    | .rows H' sz' rows _ => H = H' ∧ sz = sz' ∧ off + len ≤ rows.length ∧ d = .s (cut rows off len)
    | _ => False
  | _ => False

def aInL (R : Value → CD → Prop) (h : AH) : List AV → List CD → Prop
  | [], [] => True
  | a :: l, d :: ds => aIn R h a d ∧ aInL R h l ds
  | _, _ => False

def aInV (R : Value → CD → Prop) (h : AH) (x : AV) (v : VD) : Prop :=
  match v with
  | .c d => aIn R h x d
  | .agg ds => match x with
    | .agg l => aInL R h l ds
    | _ => False

def aInVs (R : Value → CD → Prop) (h : AH) : List AV → List VD → Prop
  | [], [] => True
  | a :: l, d :: ds => aInV R h a d ∧ aInVs R h l ds
  | _, _ => False

/-- a result becomes the call's own -/
def landT (h : AH) (key : Nat) (t : CD × Nat) (K : AV → AH → Prop) : Prop :=
  match t.1 with
  | .v u => K (.v u) h
  | .h .. => False
  | .s rows => ∀ H, K (.sl key H t.2 0 rows.length) ((key, .rows H t.2 rows true) :: h)

def landL (h : AH) (key : Nat) (ts : List (CD × Nat)) (K : List AV → AH → Nat → Prop) : Prop :=
  match ts with
  | [] => K [] h key
  | t :: ts => landT h key t fun v h' => landL h' (key + 1) ts fun l h'' key' => K (v :: l) h'' key'

def landV (h : AH) (key : Nat) (r : RV) (K : AV → AH → Nat → Prop) : Prop :=
  match r with
  | .c d sz => landT h key (d, sz) fun v h' => K v h' (key + 1)
  | .agg ts => landL h key ts fun l h' key' => K (.agg l) h' key'

def landVs (h : AH) (key : Nat) (rs : List RV) (K : List AV → AH → Prop) : Prop :=
  match rs with
  | [] => K [] h
  | r :: rs => landV h key r fun v h' key' => landVs h' key' rs fun l h'' => K (v :: l) h''

def landR (h : AH) (key : Nat) (r : RR) (K : AV → AH → Prop) : Prop :=
  match r with
  | .one r => landV h key r fun v h' _ => K v h'
  | .tup rs => landVs h key rs fun l h' => K (.tup l) h'

theorem aIn_sound {base : Bs} {h : AH} {w : World} {E : Nat → Nat → Prop} (H : HRel base h w E) {x : AV} {u : Value} {R : Value → CD → Prop} (hR : ∀ u d, R u d → Rd w false (fun _ => True) u d) (hv : VRel w h.M x u) {d : CD} (hk : aIn R h x d) : Rd w false (fun _ => True) u d := by
  unfold aIn at hk
  split at hk
  · cases hv; exact hR _ _ hk
  · rename_i k Hd sz len
    split at hk
    · rename_i H' sz' rows own hget
      obtain ⟨rfl, rfl, rfl, rfl⟩ := hk
      cases hv with
      | ml _ _ _ _ _ hx =>
        rcases hx with ⟨hp, hx⟩ | ⟨h0, a, c, rfl⟩
        · have ho := H.obj k
          rw [hget] at ho
          cases Hd with
          | none => obtain ⟨-, h0⟩ := hx; omega
          | some q =>
            obtain ⟨b, o, C⟩ := q
            obtain ⟨S, hrd, -⟩ := rows_read ho ⟨k, by rw [hget]; rfl⟩ hx (show 0 + rows.length ≤ rows.length by omega)
            have := hrd.weaken.map (S' := fun _ => True) (fun _ _ _ => rfl) (fun _ _ _ => trivial)
            simpa [cut_eq] using this
        · rw [List.eq_nil_of_length_eq_zero h0]
          exact .empty _ _ (by intro h; cases h)
    · exact hk.elim
  · subst hk; cases hv with | v u hp => exact .plain hp
  · subst hk; cases hv; exact .empty _ _ (by intro h; cases h)
  · subst hk; cases hv with | ro rows x hr => exact hr.map (fun _ _ _ => rfl) (fun _ _ _ => trivial)
  · rename_i k Hd sz off len
    split at hk
    · rename_i H' sz' rows own hget
      obtain ⟨rfl, rfl, hlen, rfl⟩ := hk
      cases hv with
      | sl _ _ _ _ _ _ hx =>
        have ho := H.obj k
        rw [hget] at ho
        cases Hd with
        | none =>
          obtain ⟨⟨a, rfl⟩, rfl⟩ := hx
          rw [show rows = [] from ho, show cut ([] : List (List CD)) off 0 = [] from by simp [cut_eq]]
          exact .empty _ _ (by intro h; cases h)
        | some q =>
          obtain ⟨b, o, C⟩ := q
          obtain ⟨S, hrd, -⟩ := rows_read ho ⟨k, by rw [hget]; rfl⟩ hx hlen
          exact hrd.weaken.map (fun _ _ _ => rfl) (fun _ _ _ => trivial)
    · exact hk.elim
  · exact hk.elim

theorem aInL_sound {base : Bs} {h : AH} {w : World} {E : Nat → Nat → Prop} (H : HRel base h w E) {R : Value → CD → Prop} (hR : ∀ u d, R u d → Rd w false (fun _ => True) u d) : ∀ (l : List AV) (ds : List CD) {us : Nat → Value} (_ : ∀ i av, l[i]? = some av → VRel w h.M av (us i)) (_ : aInL R h l ds),
    l.length = ds.length ∧ ∀ i d, ds[i]? = some d → Rd w false (fun _ => True) (us i) d
  | [], [], us, hv, hk => ⟨rfl, fun i d hd => by simp at hd⟩
  | a :: l, d :: ds, us, hv, hk => by
    obtain ⟨h1, h2⟩ := aInL_sound H hR l ds (us := fun i => us (i + 1)) (fun i av hi => hv (i + 1) av (by simpa using hi)) hk.2
    refine ⟨by simp [h1], fun i d' hd => ?_⟩
    cases i with
    | zero => simp at hd; subst hd; exact aIn_sound H hR (hv 0 a rfl) hk.1
    | succ i => exact h2 i d' (by simpa using hd)
  | [], _ :: _, us, hv, hk => hk.elim
  | _ :: _, [], us, hv, hk => hk.elim

theorem aInV_sound {base : Bs} {h : AH} {w : World} {E : Nat → Nat → Prop} (H : HRel base h w E) {x : AV} {u : Value} {R : Value → CD → Prop} (hR : ∀ u d, R u d → Rd w false (fun _ => True) u d) (hv : VRel w h.M x u) {d : VD} (hk : aInV R h x d) : RdV w u d := by
  unfold aInV at hk
  split at hk
  · exact aIn_sound H hR hv hk
  · split at hk
    · rename_i ds _ l
      cases hv with
      | agg _ xs hs hl =>
        obtain ⟨h1, h2⟩ := aInL_sound H hR l ds hl hk
        exact ⟨xs, rfl, by omega, h2⟩
    · exact hk.elim

theorem aInVs_sound {base : Bs} {h : AH} {w : World} {E : Nat → Nat → Prop} (H : HRel base h w E) {R : Value → CD → Prop} (hR : ∀ u d, R u d → Rd w false (fun _ => True) u d) : ∀ (l : List AV) (ds : List VD) {us : Nat → Value} (_ : ∀ i av, l[i]? = some av → VRel w h.M av (us i)) (_ : aInVs R h l ds),
    l.length = ds.length ∧ ∀ i d, ds[i]? = some d → RdV w (us i) d
  | [], [], us, hv, hk => ⟨rfl, fun i d hd => by simp at hd⟩
  | a :: l, d :: ds, us, hv, hk => by
    obtain ⟨h1, h2⟩ := aInVs_sound H hR l ds (us := fun i => us (i + 1)) (fun i av hi => hv (i + 1) av (by simpa using hi)) hk.2
    refine ⟨by simp [h1], fun i d' hd => ?_⟩
    cases i with
    | zero => simp at hd; subst hd; exact aInV_sound H hR (hv 0 a rfl) hk.1
    | succ i => exact h2 i d' (by simpa using hd)
  | [], _ :: _, us, hv, hk => hk.elim
  | _ :: _, [], us, hv, hk => hk.elim

/-- the heap relation beside a set X that nothing looks at -/
structure HX (base : Bs) (h : AH) (w : World) (E : Nat → Nat → Prop) (X : Nat → Prop) : Prop where
  obj : ∀ k, ObjRel w (fun c => h.M c ∨ X c) (E k) (h.get k)
  inj : ∀ k k' b, (h.get k).blk = some b → (h.get k').blk = some b → k = k'
  low : ∀ k b, (h.get k).blk = some b → ¬ base.F b ∧ ¬ base.G b
  elow : ∀ k c, E k c → ¬ base.G c ∧ c < w.heap.size
  einj : ∀ k k' c, E k c → E k' c → k = k'
  em : ∀ k c, E k c → ¬ h.M c ∧ ¬ X c
  xm : ∀ c, X c → (¬ base.F c ∧ ¬ base.G c) ∧ c < w.heap.size ∧ ¬ h.M c

theorem ObjRel.mono {w : World} {M M' E E' : Nat → Prop} {o : AObj} (h : ObjRel w M E o) (hM : ∀ c, c < w.heap.size → M' c → M c) (hE : ∀ c, E c → E' c) : ObjRel w M' E' o :=
  h.tr ⟨Nat.le_refl _, fun _ _ _ => rfl, hM⟩ (fun _ _ => rfl) (fun c hc _ => hE c hc)

theorem HX.toRel {base : Bs} {h : AH} {w : World} {E : Nat → Nat → Prop} {X : Nat → Prop} (H : HX base h w E X) : HRel base h w E :=
  ⟨fun k => (H.obj k).mono (fun _ _ => .inl) (fun _ h => h), H.inj, H.low, H.elow, H.einj, fun k c hc => (H.em k c hc).1⟩

/-- one slice of a result lands -/
theorem landT_sound {base : Bs} {h : AH} {w : World} {E : Nat → Nat → Prop} {X S : Nat → Prop} (H : HX base h w E X) {u : Value} {t : CD × Nat} (hr : RdTop w S u t) (hS : ∀ c, S c → X c) {key : Nat} {K : AV → AH → Prop} (hk : landT h key t K) :
    ∃ av h' E' X', K av h' ∧ HX base h' w E' X' ∧ (∀ c, X c → ¬ S c → X' c) ∧ (∀ c, h'.M c ∨ X' c → h.M c ∨ X c) ∧ ∀ M : Nat → Prop, VRel w M av u := by
  obtain ⟨d, sz⟩ := t
  unfold landT at hk
  cases d with
  | h => exact hk.elim
  | v x =>
    obtain ⟨rfl, hp⟩ := hr
    exact ⟨_, h, E, X, hk, H, fun c hc _ => hc, fun c hc => hc, fun M => .v _ hp⟩
  | s rows =>
    obtain ⟨hsz, hrl, hr⟩ := hr
    rcases hr with ⟨rfl, a, rfl⟩ | ⟨b, off, cap, cs, T, F, rfl, hb, hheap, hcap, hmax, hfit, hF, hd, hrd⟩
    · refine ⟨_, _, fun j => if j = key then (fun _ => False) else E j, X, hk none, ?_, fun c hc _ => hc, ?_, fun M => .sl _ _ _ _ _ _ ⟨⟨a, rfl⟩, rfl⟩⟩
      · have hM : ∀ c, AH.M ((key, .rows none sz [] true) :: h) c → h.M c := by
          intro c hc
          rcases M_cons.1 hc with h1 | ⟨j, _, hj⟩
          · simp [AObj.blk] at h1
          · exact ⟨j, hj⟩
        refine ⟨fun k => ?_, fun k k' b hk hk' => ?_, fun k b hk => ?_, fun k c hc => ?_, fun k k' c hc hc' => ?_, fun k c hc => ?_, fun c hc => ⟨(H.xm c hc).1, (H.xm c hc).2.1, fun h => (H.xm c hc).2.2 (hM c h)⟩⟩
        · rw [get_cons]
          split
          · rfl
          · exact (H.obj k).mono (fun c _ hc => hc.imp (hM c) id) (fun _ h => h)
        · rw [get_cons] at hk hk'
          split at hk
          · simp [AObj.blk] at hk
          · split at hk'
            · simp [AObj.blk] at hk'
            · exact H.inj _ _ b hk hk'
        · rw [get_cons] at hk
          split at hk
          · simp [AObj.blk] at hk
          · exact H.low k b hk
        · split at hc
          · exact hc.elim
          · exact H.elow k c hc
        · split at hc
          · exact hc.elim
          · split at hc'
            · exact hc'.elim
            · exact H.einj _ _ c hc hc'
        · split at hc
          · exact hc.elim
          · exact ⟨fun h => (H.em k c hc).1 (hM c h), (H.em k c hc).2⟩
      · intro c hc
        rcases hc with hc | hc
        · rcases M_cons.1 hc with h1 | ⟨j, _, hj⟩
          · simp [AObj.blk] at h1
          · exact .inl ⟨j, hj⟩
        · exact .inr hc
    · have hblk : (AObj.rows (some (b, off, cap)) sz rows true).blk = some b := rfl
      have hM : ∀ c, AH.M ((key, .rows (some (b, off, cap)) sz rows true) :: h) c → c = b ∨ h.M c := by
        intro c hc
        rcases M_cons.1 hc with h1 | ⟨j, _, hj⟩
        · simp [AObj.blk] at h1; exact .inl h1.symm
        · exact .inr ⟨j, hj⟩
      have hXb := hS b hb
      refine ⟨_, _, fun j => if j = key then (fun c => ∃ i j, F i j c) else E j, fun c => X c ∧ ¬ S c, hk (some (b, off, cap)), ?_, fun c hc hn => ⟨hc, hn⟩, ?_, fun M => .sl _ _ _ _ _ _ (.inl ⟨by simp, by omega⟩)⟩
      · refine ⟨fun k => ?_, fun k k' b' hk hk' => ?_, fun k b' hk => ?_, fun k c hc => ?_, fun k k' c hc hc' => ?_, fun k c hc => ?_, fun c hc => ⟨(H.xm c hc.1).1, (H.xm c hc.1).2.1, fun h => ?_⟩⟩
        · rw [get_cons]
          split
          · refine ⟨cs, T, F, hheap, hcap, hmax, hsz, hfit, hrl, fun i j c hc => ⟨fun _ => ⟨i, j, hc⟩, fun h => ?_⟩, fun _ => hd, hrd⟩
            obtain ⟨h1, h2⟩ := hF i j c hc
            rcases h with h | h
            · rcases hM c h with rfl | h
              · exact h2 rfl
              · exact (H.xm c (hS c h1)).2.2 h
            · exact h.2 h1
          · refine (H.obj k).mono (fun c _ hc => ?_) (fun _ h => h)
            rcases hc with hc | hc
            · rcases hM c hc with rfl | hc
              · exact .inr hXb
              · exact .inl hc
            · exact .inr hc.1
        · rw [get_cons] at hk hk'
          split at hk <;> split at hk'
          · simp_all
          · rw [hblk] at hk; cases hk
            exact ((H.xm b hXb).2.2 ⟨k', hk'⟩).elim
          · rw [hblk] at hk'; cases hk'
            exact ((H.xm b hXb).2.2 ⟨k, hk⟩).elim
          · exact H.inj _ _ b' hk hk'
        · rw [get_cons] at hk
          split at hk
          · rw [hblk] at hk; cases hk; exact (H.xm b hXb).1
          · exact H.low k b' hk
        · split at hc
          · obtain ⟨i, j, hc⟩ := hc
            have := H.xm c (hS c (hF i j c hc).1)
            exact ⟨this.1.2, this.2.1⟩
          · exact H.elow k c hc
        · split at hc <;> split at hc'
          · simp_all
          · obtain ⟨i, j, hc⟩ := hc
            exact ((H.em k' c hc').2 (hS c (hF i j c hc).1)).elim
          · obtain ⟨i, j, hc'⟩ := hc'
            exact ((H.em k c hc).2 (hS c (hF i j c hc').1)).elim
          · exact H.einj _ _ c hc hc'
        · split at hc
          · obtain ⟨i, j, hc⟩ := hc
            obtain ⟨h1, h2⟩ := hF i j c hc
            refine ⟨fun h => ?_, fun h => h.2 h1⟩
            rcases hM c h with rfl | h
            · exact h2 rfl
            · exact (H.xm c (hS c h1)).2.2 h
          · obtain ⟨h1, h2⟩ := H.em k c hc
            refine ⟨fun h => ?_, fun h => h2 h.1⟩
            rcases hM c h with rfl | h
            · exact h2 hXb
            · exact h1 h
        · rcases hM c h with rfl | h
          · exact hc.2 hb
          · exact (H.xm c hc.1).2.2 h
      · intro c hc
        rcases hc with hc | hc
        · rcases hM c hc with rfl | hc
          · exact .inr hXb
          · exact .inl hc
        · exact .inr hc.1

theorem landL_sound {base : Bs} {w : World} : ∀ (ts : List (CD × Nat)) {h : AH} {E : Nat → Nat → Prop} {X : Nat → Prop} (_ : HX base h w E X) {us : Nat → Value} {F : Nat → Nat → Prop} (_ : ∀ j j' c, F j c → F j' c → j = j') (_ : ∀ j c, F j c → X c)
    (_ : ∀ j t, ts[j]? = some t → RdTop w (F j) (us j) t) {key : Nat} {K : List AV → AH → Nat → Prop} (_ : landL h key ts K),
    ∃ l h' key' E' X', K l h' key' ∧ l.length = ts.length ∧ HX base h' w E' X' ∧ (∀ c, X c → (∀ j, ¬ F j c) → X' c) ∧ (∀ c, h'.M c ∨ X' c → h.M c ∨ X c) ∧ ∀ j av, l[j]? = some av → ∀ M : Nat → Prop, VRel w M av (us j)
  | [], h, E, X, H, us, F, hd, hF, hr, key, K, hk => ⟨[], h, key, E, X, hk, rfl, H, fun c hc _ => hc, fun c hc => hc, fun j av hj => by simp at hj⟩
  | t :: ts, h, E, X, H, us, F, hd, hF, hr, key, K, hk => by
    unfold landL at hk
    obtain ⟨av, h1, E1, X1, hk1, H1, hX1, hm1, hv1⟩ := landT_sound H (hr 0 t rfl) (hF 0) hk
    obtain ⟨l, h2, key', E2, X2, hk2, hl, H2, hX2, hm2, hv2⟩ := landL_sound ts H1 (us := fun j => us (j + 1)) (F := fun j => F (j + 1)) (fun j j' c hc hc' => by have := hd _ _ c hc hc'; omega)
      (fun j c hc => hX1 c (hF _ c hc) (fun h0 => by have := hd _ _ c hc h0; omega)) (fun j t' hj => hr (j + 1) t' (by simpa using hj)) hk1
    refine ⟨av :: l, h2, key', E2, X2, hk2, by simp [hl], H2, fun c hc hn => hX2 c (hX1 c hc (hn 0)) (fun j => hn (j + 1)), fun c hc => hm1 c (hm2 c hc), fun j x hj => ?_⟩
    cases j with
    | zero => simp at hj; subst hj; exact hv1
    | succ j => exact hv2 j x (by simpa using hj)

theorem landV_sound {base : Bs} {h : AH} {w : World} {E : Nat → Nat → Prop} {X S : Nat → Prop} (H : HX base h w E X) {u : Value} {r : RV} (hr : RdRV w S u r) (hS : ∀ c, S c → X c) {key : Nat} {K : AV → AH → Nat → Prop} (hk : landV h key r K) :
    ∃ av h' key' E' X', K av h' key' ∧ HX base h' w E' X' ∧ (∀ c, X c → ¬ S c → X' c) ∧ (∀ c, h'.M c ∨ X' c → h.M c ∨ X c) ∧ ∀ M : Nat → Prop, VRel w M av u := by
  cases r with
  | c d sz =>
    unfold landV at hk
    obtain ⟨av, h', E', X', h1, h2, h3, h4, h5⟩ := landT_sound H hr hS hk
    exact ⟨av, h', _, E', X', h1, h2, h3, h4, h5⟩
  | agg ts =>
    unfold landV at hk
    obtain ⟨xs, F, rfl, hs, hF, hd, hr⟩ := hr
    obtain ⟨l, h', key', E', X', h1, h2, h3, h4, h5, h6⟩ := landL_sound ts H hd (fun j c hc => hS c (hF j c hc)) hr hk
    exact ⟨_, h', key', E', X', h1, h3, fun c hc hn => h4 c hc (fun j hj => hn (hF j c hj)), h5, fun M => .agg _ _ (by omega) (fun i av hi => h6 i av hi M)⟩

theorem landVs_sound {base : Bs} {w : World} : ∀ (ts : List RV) {h : AH} {E : Nat → Nat → Prop} {X : Nat → Prop} (_ : HX base h w E X) {us : Nat → Value} {F : Nat → Nat → Prop} (_ : ∀ j j' c, F j c → F j' c → j = j') (_ : ∀ j c, F j c → X c)
    (_ : ∀ j t, ts[j]? = some t → RdRV w (F j) (us j) t) {key : Nat} {K : List AV → AH → Prop} (_ : landVs h key ts K),
    ∃ l h' E' X', K l h' ∧ l.length = ts.length ∧ HX base h' w E' X' ∧ (∀ c, h'.M c ∨ X' c → h.M c ∨ X c) ∧ ∀ j av, l[j]? = some av → ∀ M : Nat → Prop, VRel w M av (us j)
  | [], h, E, X, H, us, F, hd, hF, hr, key, K, hk => ⟨[], h, E, X, hk, rfl, H, fun c hc => hc, fun j av hj => by simp at hj⟩
  | t :: ts, h, E, X, H, us, F, hd, hF, hr, key, K, hk => by
    unfold landVs at hk
    obtain ⟨av, h1, key1, E1, X1, hk1, H1, hX1, hm1, hv1⟩ := landV_sound H (hr 0 t rfl) (hF 0) hk
    obtain ⟨l, h2, E2, X2, hk2, hl, H2, hm2, hv2⟩ := landVs_sound ts H1 (us := fun j => us (j + 1)) (F := fun j => F (j + 1)) (fun j j' c hc hc' => by have := hd _ _ c hc hc'; omega)
      (fun j c hc => hX1 c (hF _ c hc) (fun h0 => by have := hd _ _ c hc h0; omega)) (fun j t' hj => hr (j + 1) t' (by simpa using hj)) hk1
    refine ⟨av :: l, h2, E2, X2, hk2, by simp [hl], H2, fun c hc => hm1 c (hm2 c hc), fun j x hj => ?_⟩
    cases j with
    | zero => simp at hj; subst hj; exact hv1
    | succ j => exact hv2 j x (by simpa using hj)

theorem landR_sound {base : Bs} {h : AH} {w : World} {E : Nat → Nat → Prop} {X : Nat → Prop} (H : HX base h w E X) {u : Value} {r : RR} (hr : RdRR w X u r) {key : Nat} {K : AV → AH → Prop} (hk : landR h key r K) :
    ∃ av h' E', K av h' ∧ HRel base h' w E' ∧ (∀ c, h'.M c → h.M c ∨ X c) ∧ VRel w h'.M av u := by
  cases r with
  | one r =>
    unfold landR at hk
    obtain ⟨av, h', key', E', X', h1, h2, h3, h4, h5⟩ := landV_sound H hr (fun c hc => hc) hk
    exact ⟨av, h', E', h1, h2.toRel, fun c hc => h4 c (.inl hc), h5 _⟩
  | tup rs =>
    unfold landR at hk
    obtain ⟨xs, F, rfl, hs, hF, hd, hr⟩ := hr
    obtain ⟨l, h', E', X', h1, h2, h3, h4, h5⟩ := landVs_sound rs H hd hF hr hk
    exact ⟨_, h', E', h1, h3.toRel, fun c hc => h4 c (.inl hc), .tup _ _ (by omega) (fun i av hi => h5 i av hi _)⟩

theorem Rep.rd {E : Env} {st : ASt} {a : Act} {w : World} (hR : Rep E.w0 E.base st a w) (u : Value) (d : CD) (h : E.rd u d) : Rd w false (fun _ => True) u d :=
  Rd.map h (fun b hb _ => hR.below.block b hb) (fun _ _ _ => trivial)

/-- a call by contract -/
theorem ACall.pure {E : Env} {f : Nat} {args : List VD} {rr : RR} (hc : PureC E.P f args rr) {avs : List AV} {st : ASt} {dst : Option Nat} {K : ASt → Prop} (hin : aInVs E.rd st.h avs args)
    (hout : landR st.h (st.key dst) rr fun av h' => aPut { st with h := h' } dst av K) : ACall E f avs st dst K := by
  refine ⟨hc.1, fun a w hR xs hs hx => ?_⟩
  obtain ⟨Es, hH⟩ := hR.heap
  obtain ⟨hl, hr⟩ := aInVs_sound hH hR.rd avs args hx hin
  refine (hc.2 w xs (by omega) hr).mono ?_
  rintro e w' ⟨v, rfl, hb, hrr⟩
  have t : Tr st.h.M w (fun c => st.h.M c ∨ (w.heap.size ≤ c ∧ c < w'.heap.size)) w' := ⟨hb.size, fun b hlt _ => hb.block b hlt, fun b hlt hM => hM.elim id (fun h => by omega)⟩
  have HXr : HX E.base st.h w' Es (fun c => w.heap.size ≤ c ∧ c < w'.heap.size) := by
    refine ⟨fun k => (hH.obj k).tr t (fun b hk => hb.block b (hH.lt hk)) (fun c hc _ => hc), hH.inj, hH.low, fun k c hc => ⟨(hH.elow k c hc).1, Nat.lt_of_lt_of_le (hH.elow k c hc).2 hb.size⟩, hH.einj,
      fun k c hc => ⟨hH.em k c hc, fun h => by have := (hH.elow k c hc).2; omega⟩, fun c hc => ⟨hR.newer hc.1, hc.2, fun ⟨k, hk⟩ => by have := hH.lt hk; omega⟩⟩
  obtain ⟨av, h', E', hK, hH', hM', hv⟩ := landR_sound HXr hrr hout
  have t' : Tr st.h.M w h'.M w' := ⟨t.size, t.frame, fun b hlt hM => (hM' b hM).elim id (fun h => by omega)⟩
  obtain ⟨av', h'', h1, h2, h3, h4⟩ := (hR.move hH' t' ⟨hb.os, hb.tape, hb.output⟩).put hv hK
  exact ⟨v, av', h'', rfl, h1, h2, h3, h4⟩

/-- one state says less than another -/
def AVle (a : AV) : AV → Prop
  | .any => True
  | .sl k H sz off len => a = .sl k H sz off len ∨ (a = .nil ∧ H = none ∧ off = 0 ∧ len = 0)
  | .ro rows => a = .ro rows ∨ (a = .nil ∧ rows = [])
  | b => a = b

def ALe : List AV → List AV → Prop
  | [], [] => True
  | a :: l, b :: l' => AVle a b ∧ ALe l l'
  | _, _ => False

def ObjLe (o : AObj) : AObj → Prop
  | .dead => True
  | .vars b T cells => match o with
    | .vars b' T' cells' => b' = b ∧ T' = T ∧ ALe cells' cells
    | _ => False
  | .rows H sz rows own => o = .rows H sz rows own ∨ (o = .dead ∧ H = none ∧ rows = [])

def Weak (st st' : ASt) : Prop := st.n = st'.n ∧ st.kb = st'.kb ∧ (∀ p ∈ st'.t, AVle (getT st.t p.1) p.2) ∧ ∀ p ∈ st'.h, ObjLe (st.h.get p.1) p.2

theorem VRel.le {w : World} {M : Nat → Prop} {a b : AV} {u : Value} (h : VRel w M a u) (hl : AVle a b) : VRel w M b u := by
  cases b with
  | any => exact .any u
  | sl k H sz off len =>
    rcases hl with rfl | ⟨rfl, rfl, rfl, rfl⟩
    · exact h
    · cases h; exact .sl _ _ _ _ _ _ ⟨⟨_, rfl⟩, rfl⟩
  | ro rows =>
    rcases hl with rfl | ⟨rfl, rfl⟩
    · exact h
    · cases h; exact .ro _ _ (.empty _ _ (by intro h; cases h))
  | _ => first | (cases hl; exact h)

theorem ALe.get : ∀ (l l' : List AV), ALe l l' → l.length = l'.length ∧ ∀ (j : Nat) (b : AV), l'[j]? = some b → ∃ a, l[j]? = some a ∧ AVle a b
  | [], [], _ => ⟨rfl, fun j b hb => by simp at hb⟩
  | a :: l, b :: l', h => by
    obtain ⟨h1, h2⟩ := ALe.get l l' h.2
    refine ⟨by simp [h1], fun j b' hb => ?_⟩
    cases j with
    | zero => simp at hb; subst hb; exact ⟨a, rfl, h.1⟩
    | succ j => simpa using h2 j b' (by simpa using hb)
  | [], _ :: _, h => h.elim
  | _ :: _, [], h => h.elim

theorem getT_mem {t : List (Nat × AV)} {i : Nat} : getT t i = .any ∨ (i, getT t i) ∈ t := by
  induction t with
  | nil => exact .inl rfl
  | cons p t ih =>
    obtain ⟨k, v⟩ := p
    unfold getT
    split
    · rename_i h; subst h; exact .inr (List.mem_cons_self ..)
    · rcases ih with h | h
      · exact .inl h
      · exact .inr (List.mem_cons_of_mem _ h)

theorem AH.get_mem {h : AH} {i : Nat} : h.get i = .dead ∨ (i, h.get i) ∈ h := by
  induction h with
  | nil => exact .inl rfl
  | cons p t ih =>
    obtain ⟨k, v⟩ := p
    rw [get_cons]
    split
    · rename_i h; subst h; exact .inr (List.mem_cons_self ..)
    · rcases ih with h | h
      · exact .inl h
      · exact .inr (List.mem_cons_of_mem _ h)

theorem ObjLe.vars {o : AObj} {b : Nat} {T : TypeId} {cells : List AV} (h : ObjLe o (.vars b T cells)) : ∃ cells', o = .vars b T cells' ∧ ALe cells' cells := by
  cases o with
  | vars b' T' cells' => obtain ⟨rfl, rfl, hl⟩ := h; exact ⟨_, rfl, hl⟩
  | dead => exact h.elim
  | rows => exact h.elim

theorem Weak.rep {w0 : World} {base : Bs} {st st' : ASt} {a : Act} {w : World} (h : Weak st st') (hR : Rep w0 base st a w) : Rep w0 base st' a w := by
  obtain ⟨hn, hkb, ht, hh⟩ := h
  obtain ⟨E, H⟩ := hR.heap
  have hob : ∀ k, ObjLe (st.h.get k) (st'.h.get k) := by
    intro k
    rcases AH.get_mem (h := st'.h) (i := k) with h | h
    · rw [h]; trivial
    · exact hh _ h
  have hblk : ∀ k b, (st'.h.get k).blk = some b → (st.h.get k).blk = some b := by
    intro k b hb
    have := hob k
    revert hb this
    cases st'.h.get k with
    | dead => intro hb; simp [AObj.blk] at hb
    | vars b' T cells =>
      intro hb hl
      obtain ⟨cells', he, -⟩ := ObjLe.vars hl
      rw [he]; exact hb
    | rows Hd sz rows own =>
      intro hb hl
      rcases hl with hl | ⟨-, rfl, -⟩
      · rw [hl]; exact hb
      · simp [AObj.blk] at hb
  have hM : ∀ c, st'.h.M c → st.h.M c := fun c ⟨k, hk⟩ => ⟨k, hblk k c hk⟩
  have t : Tr st.h.M w st'.h.M w := ⟨Nat.le_refl _, fun _ _ _ => rfl, fun b _ hb => hM b hb⟩
  refine ⟨hR.dfr, hR.size.trans hn, fun i => ?_, ⟨E, fun k => ?_, fun k k' b hk hk' => H.inj _ _ b (hblk k b hk) (hblk k' b hk'), fun k b hk => H.low k b (hblk k b hk), H.elow, H.einj, fun k c hc hM' => H.em k c hc (hM c hM')⟩, hR.below, hR.base_le⟩
  · rcases getT_mem (t := st'.t) (i := i) with h | h
    · rw [h]; exact .any _
    · exact ((hR.tmp i).tr t).le (ht _ h)
  · have h1 := (H.obj k).tr t (fun _ _ => rfl) (E' := E k) (fun c hc _ => hc)
    have h2 := hob k
    revert h1 h2
    generalize st.h.get k = o
    cases st'.h.get k with
    | dead => intro _ _; trivial
    | vars b T cells =>
      intro h1 h2
      obtain ⟨cells', rfl, hl⟩ := ObjLe.vars h2
      obtain ⟨cs, g1, g2, g3⟩ := h1
      obtain ⟨g4, g5⟩ := ALe.get _ _ hl
      refine ⟨cs, g1, by omega, fun j av hj => ?_⟩
      obtain ⟨av', hj', hle⟩ := g5 j av hj
      exact (g3 j av' hj').le hle
    | rows Hd sz rows own =>
      intro h1 h2
      rcases h2 with rfl | ⟨rfl, rfl, rfl⟩
      · exact h1
      · rfl

/-- a round's end: to a smaller number, or out -/
def loopQ {β : Type} (Inv : β → Prop) (I : β → ASt) (μ : β → Nat) (x : β) (Q : Exit → ASt → Prop) : Exit → ASt → Prop
  | .normal, st => ∃ x', Inv x' ∧ μ x' < μ x ∧ Weak st (I x')
  | e, st => Q e st

theorem LoopT.intro {E : Env} (hE : EOk E) {body : Code} {Q : Exit → ASt → Prop} {st : ASt} {β : Type} (Inv : β → Prop) (I : β → ASt) (μ : β → Nat) (x0 : β) (h0 : Inv x0) (hw : Weak st (I x0))
    (hr : ∀ x, Inv x → aSem E body (loopQ Inv I μ x Q) (I x)) : LoopT E body Q st := by
  intro a w hR
  refine wp_loop_ghost (fun n a w => ∃ x, Inv x ∧ μ x = n ∧ Rep E.w0 E.base (I x) a w) (μ x0) ⟨x0, h0, rfl, hw.rep hR⟩ ?_
  rintro n a w ⟨x, hx, rfl, hR⟩
  refine wp_mono (aSem_sound hE body _ _ a w hR (hr x hx)) ?_
  rintro e a' w' ⟨st', hq, hR'⟩
  cases e with
  | normal =>
    obtain ⟨x', h1, h2, h3⟩ := hq
    exact ⟨μ x', h2, x', h1, rfl, h3.rep hR'⟩
  | _ => exact ⟨st', hq, hR'⟩

end Go.AM
