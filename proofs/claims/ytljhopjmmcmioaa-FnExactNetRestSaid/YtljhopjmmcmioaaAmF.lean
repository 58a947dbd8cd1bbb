/-
  The abstract machine is sound: how the abstract heap is turned; handing values over.
-/
import Derived.Test.YtljhopjmmcmioaaAmE
namespace Go.AM
open Go.RowKit

theorem get_cons (k j : Nat) (o : AObj) (h : AH) : AH.get ((k, o) :: h) j = if j = k then o else h.get j := rfl

theorem M_cons {k : Nat} {o : AObj} {h : AH} {b : Nat} : AH.M ((k, o) :: h) b ↔ o.blk = some b ∨ ∃ j, j ≠ k ∧ (h.get j).blk = some b := by
  constructor
  · rintro ⟨j, hj⟩
    rw [get_cons] at hj
    split at hj
    · exact .inl hj
    · rename_i hne; exact .inr ⟨j, hne, hj⟩
  · rintro (h | ⟨j, hne, hj⟩)
    · exact ⟨k, by rw [get_cons, if_pos rfl]; exact h⟩
    · exact ⟨j, by rw [get_cons, if_neg hne]; exact hj⟩

theorem Tr.upd {base : Bs} {h : AH} {w w' : World} {E : Nat → Nat → Prop} (_H : HRel base h w E) {k : Nat} {o' : AObj} (hsz : w.heap.size ≤ w'.heap.size)
    (hfr : ∀ b, b < w.heap.size → ¬ h.M b → w'.heap[b]? = w.heap[b]?)
    (hblk : ∀ b, o'.blk = some b → w.heap.size ≤ b ∨ (h.get k).blk = some b) : Tr h.M w (AH.M ((k, o') :: h)) w' := by
  refine ⟨hsz, hfr, fun b hb hM => ?_⟩
  rcases M_cons.1 hM with h1 | ⟨j, -, hj⟩
  · rcases hblk b h1 with h2 | h2
    · omega
    · exact ⟨k, h2⟩
  · exact ⟨j, hj⟩

/-- one object is turned -/
theorem HRel.upd {base : Bs} {h : AH} {w w' : World} {E : Nat → Nat → Prop} (H : HRel base h w E) {k : Nat} {o' : AObj} {Ek : Nat → Prop} (hsz : w.heap.size ≤ w'.heap.size)
    (hfr : ∀ b, b < w.heap.size → (¬ h.M b ∨ ∃ j, j ≠ k ∧ (h.get j).blk = some b) → w'.heap[b]? = w.heap[b]?)
    (hblk : ∀ b, o'.blk = some b → (¬ base.F b ∧ ¬ base.G b) ∧ (w.heap.size ≤ b ∨ (h.get k).blk = some b))
    (hobj : ObjRel w' (AH.M ((k, o') :: h)) Ek o')
    (hE : ∀ c, Ek c → ¬ base.G c ∧ c < w'.heap.size ∧ (∀ j, j ≠ k → ¬ E j c) ∧ ¬ AH.M ((k, o') :: h) c) :
    HRel base ((k, o') :: h) w' (fun j => if j = k then Ek else E j) := by
  have t : Tr h.M w (AH.M ((k, o') :: h)) w' := Tr.upd H hsz (fun b hb hM => hfr b hb (.inl hM)) (fun b hb => (hblk b hb).2)
  refine ⟨fun j => ?_, fun j j' b hj hj' => ?_, fun j b hj => ?_, fun j c hc => ?_, fun j j' c hc hc' => ?_, fun j c hc => ?_⟩
  · rw [get_cons]
    by_cases hjk : j = k
    · rw [if_pos hjk, if_pos hjk]; exact hobj
    · rw [if_neg hjk, if_neg hjk]
      exact (H.obj j).tr t (fun b hb => hfr b (H.lt hb) (.inr ⟨j, hjk, hb⟩)) (fun c hc _ => hc)
  · rw [get_cons] at hj hj'
    by_cases h1 : j = k <;> by_cases h2 : j' = k
    · rw [h1, h2]
    · rw [if_pos h1] at hj; rw [if_neg h2] at hj'
      rcases (hblk b hj).2 with h3 | h3
      · have := H.lt hj'; omega
      · rw [h1]; exact H.inj _ _ b h3 hj'
    · rw [if_neg h1] at hj; rw [if_pos h2] at hj'
      rcases (hblk b hj').2 with h3 | h3
      · have := H.lt hj; omega
      · rw [h2]; exact H.inj _ _ b hj h3
    · rw [if_neg h1] at hj; rw [if_neg h2] at hj'
      exact H.inj _ _ b hj hj'
  · rw [get_cons] at hj
    split at hj
    · exact (hblk b hj).1
    · exact H.low j b hj
  · split at hc
    · exact ⟨(hE c hc).1, (hE c hc).2.1⟩
    · exact ⟨(H.elow j c hc).1, Nat.lt_of_lt_of_le (H.elow j c hc).2 hsz⟩
  · by_cases h1 : j = k <;> by_cases h2 : j' = k
    · rw [h1, h2]
    · rw [if_pos h1] at hc; rw [if_neg h2] at hc'
      exact absurd hc' ((hE c hc).2.2.1 j' h2)
    · rw [if_neg h1] at hc; rw [if_pos h2] at hc'
      exact absurd hc ((hE c hc').2.2.1 j h1)
    · rw [if_neg h1] at hc; rw [if_neg h2] at hc'
      exact H.einj _ _ c hc hc'
  · by_cases h1 : j = k
    · rw [if_pos h1] at hc; exact (hE c hc).2.2.2
    · rw [if_neg h1] at hc; exact fun hM => H.em j c hc (t.mono c (H.elow j c hc).2 hM)

/-- one object is given up -/
theorem HRel.kill {base : Bs} {h : AH} {w : World} {E : Nat → Nat → Prop} (H : HRel base h w E) (k : Nat) : HRel base ((k, .dead) :: h) w (fun j => if j = k then (fun _ => False) else E j) :=
  H.upd (Nat.le_refl _) (fun _ _ _ => rfl) (fun b hb => by simp [AObj.blk] at hb) trivial (fun _ hc => hc.elim)

theorem Tr.kill {base : Bs} {h : AH} {w : World} {E : Nat → Nat → Prop} (H : HRel base h w E) (k : Nat) : Tr h.M w (AH.M ((k, .dead) :: h)) w :=
  Tr.upd H (Nat.le_refl _) (fun _ _ _ => rfl) (fun b hb => by simp [AObj.blk] at hb)

/-- an owned slice, or a part of it, reads as data -/
theorem rows_read {w : World} {M E : Nat → Prop} {b o C sz off len : Nat} {rows : List (List CD)} {own : Bool} (h : ObjRel w M E (.rows (some (b, o, C)) sz rows own))
    (hM : M b) {u : Value} (hu : SlV (some (b, o, C)) sz off len u) (hlen : off + len ≤ rows.length) :
    ∃ S, Rd w own S u (.s (cut rows off len)) ∧ ∀ c, S c → (c = b ∨ (own = true → E c) ∧ ¬ M c) := by
  obtain ⟨cs, T, F, hb, hl, hC, hsz, hfit, hrl, hF, hd, hr⟩ := h
  have hcl : (cut rows off len).length = len := cut_length _ _ _ hlen
  rcases hu with ⟨rfl, hle⟩ | ⟨rfl, _, a, rfl⟩
  · have hm : (off + (C - off)) * sz ≤ C * sz := Nat.mul_le_mul_right sz (by omega)
    have hm2 : (off + len) * sz ≤ C * sz := Nat.mul_le_mul_right sz hle
    rw [Nat.add_mul] at hm hm2
    have := Rd.slice (w := w) (x := own) (S := fun c => c = b ∨ (own = true → E c) ∧ ¬ M c) b (o + off * sz) (C - off) sz cs T (0, 0) (cut rows off len) (fun i j c => F (off + i) j c)
      (by omega) (by omega) hsz (.inl rfl) hb (by rw [hcl]; omega) (fun _ => ⟨rfl, by omega⟩)
      (fun i j c hc => ⟨.inr (hF _ _ _ hc), fun _ he => (hF _ _ _ hc).2 (he ▸ hM)⟩)
      (fun ho i j i' j' c hc hc' => by have := hd ho _ _ _ _ c hc hc'; omega)
      (fun row hrow => by
        obtain ⟨i, hi⟩ := List.getElem?_of_mem hrow
        rw [cut_get] at hi
        split at hi
        · exact hrl _ (List.mem_of_getElem? hi)
        · simp at hi)
      (fun i j row d hi hj => by
        rw [cut_get] at hi
        split at hi
        · have := hr (off + i) j row d hi hj
          have e : o + off * sz + (i * sz + j) = o + ((off + i) * sz + j) := by rw [Nat.add_mul]; omega
          rw [e]
          exact this
        · simp at hi)
    rw [hcl] at this
    exact ⟨_, this, fun c hc => hc⟩
  · have hc0 : cut rows off 0 = [] := List.eq_nil_of_length_eq_zero (by omega)
    rw [hc0]
    exact ⟨fun _ => False, .empty _ _ (fun _ => rfl), fun _ hc => hc.elim⟩


theorem not_M_kill {base : Bs} {h : AH} {w : World} {E : Nat → Nat → Prop} (H : HRel base h w E) {k b : Nat} (hk : (h.get k).blk = some b) : ¬ AH.M ((k, .dead) :: h) b := by
  intro hM
  rcases M_cons.1 hM with h1 | ⟨j, hne, hj⟩
  · simp [AObj.blk] at h1
  · exact hne (H.inj _ _ _ hj hk)

theorem M_kill {h : AH} {k b : Nat} (hM : AH.M ((k, .dead) :: h) b) : h.M b := by
  rcases M_cons.1 hM with h1 | ⟨j, _, hj⟩
  · simp [AObj.blk] at h1
  · exact ⟨j, hj⟩

/-- what a value is handed over as -/
structure Frz (base : Bs) (h : AH) (w : World) (E : Nat → Nat → Prop) (h' : AH) (E' : Nat → Nat → Prop) (o : Bool) (S : Nat → Prop) (u : Value) (d : CD) : Prop where
  rel : HRel base h' w E'
  tr : Tr h.M w h'.M w
  rd : Rd w o S u d
  off : ∀ c, S c → ¬ h'.M c
  own : o = true → ∀ c, S c → ((∃ k, E k c) ∨ h.M c) ∧ ∀ j, ¬ E' j c
  sub : ∀ j c, E' j c → E j c

theorem aFrz_sound {base : Bs} {h : AH} {w : World} {E : Nat → Nat → Prop} (H : HRel base h w E) {av : AV} {u : Value} (hv : VRel w h.M av u) {K : CD → AH → Bool → Prop} (hk : aFrz h av K) :
    ∃ d h' o E' S, K d h' o ∧ Frz base h w E h' E' o S u d := by
  unfold aFrz at hk
  split at hk
  · cases hv with
    | v u hp => exact ⟨_, _, _, E, fun _ => False, hk, H, Tr.refl _ _, .plain hp, fun _ hc => hc.elim, fun _ _ hc => hc.elim, fun _ _ hc => hc⟩
  · cases hv
    exact ⟨_, _, _, E, fun _ => False, hk, H, Tr.refl _ _, .empty _ _ (fun _ => rfl), fun _ hc => hc.elim, fun _ _ hc => hc.elim, fun _ _ hc => hc⟩
  · cases hv with
    | ro rows x hr => exact ⟨_, _, _, E, fun b => ¬ h.M b, hk, H, Tr.refl _ _, hr, fun _ hc => hc, (by intro h; cases h), fun _ _ hc => hc⟩
  · rename_i k Hd sz off len
    split at hk
    · rename_i H' sz' rows own hget
      obtain ⟨rfl, rfl, hlen, hK⟩ := hk
      cases hv with
      | sl _ _ _ _ _ x hx =>
        have ho := H.obj k
        rw [hget] at ho
        cases Hd with
        | none =>
          obtain ⟨⟨a, rfl⟩, rfl⟩ := hx
          have hr0 : rows = [] := ho
          subst hr0
          refine ⟨_, _, _, _, fun _ => False, hK, H.kill k, Tr.kill H k, ?_, fun _ hc => hc.elim, fun _ _ hc => hc.elim, fun j c hc => ?_⟩
          · rw [show cut ([] : List (List CD)) off 0 = [] from by simp [cut_eq]]
            exact .empty _ _ (fun _ => rfl)
          · split at hc
            · exact hc.elim
            · exact hc
        | some q =>
          obtain ⟨b, o, C⟩ := q
          have hblk : (h.get k).blk = some b := by rw [hget]; rfl
          obtain ⟨S, hrd, hS⟩ := rows_read ho ⟨k, hblk⟩ hx hlen
          refine ⟨_, _, _, _, S, hK, H.kill k, Tr.kill H k, hrd, ?_, ?_, fun j c hc => ?_⟩
          · intro c hc hM
            rcases hS c hc with rfl | ⟨-, hn⟩
            · exact not_M_kill H hblk hM
            · exact hn (M_kill hM)
          · intro hown c hc
            rcases hS c hc with rfl | ⟨he, hn⟩
            · refine ⟨.inr ⟨k, hblk⟩, fun j hj => ?_⟩
              split at hj
              · exact hj
              · exact H.em j c hj ⟨k, hblk⟩
            · refine ⟨.inl ⟨k, he hown⟩, fun j hj => ?_⟩
              split at hj
              · exact hj
              · rename_i hne; exact hne (H.einj _ _ _ hj (he hown))
          · split at hc
            · exact hc.elim
            · exact hc
    · exact hk.elim
  · exact hk.elim

/-- a list of values is handed over; S i: what the i-th brings -/
structure FrzL (base : Bs) (h : AH) (w : World) (E : Nat → Nat → Prop) (h' : AH) (E' : Nat → Nat → Prop) (o : Bool) (S : Nat → Nat → Prop) (us : Nat → Value) (ds : List CD) : Prop where
  rel : HRel base h' w E'
  tr : Tr h.M w h'.M w
  rd : ∀ i d, ds[i]? = some d → Rd w o (S i) (us i) d
  off : ∀ i c, S i c → ¬ h'.M c
  own : o = true → ∀ i c, S i c → ((∃ k, E k c) ∨ h.M c) ∧ ∀ j, ¬ E' j c
  inj : o = true → ∀ i i' c, S i c → S i' c → i = i'
  sub : ∀ j c, E' j c → E j c

theorem Rd.own_of {w : World} {o : Bool} {S : Nat → Prop} {u : Value} {d : CD} (x : Bool) (h : Rd w o S u d) (hx : x = true → o = true) : Rd w x S u d := by
  cases x with
  | false => exact h.weaken
  | true => rw [hx rfl] at h; exact h

theorem aFrzL_sound {w : World} {base : Bs} : ∀ (l : List AV) {h : AH} {E : Nat → Nat → Prop} (_ : HRel base h w E) {us : Nat → Value} (_ : ∀ i av, l[i]? = some av → VRel w h.M av (us i)) {K : List CD → AH → Bool → Prop} (_ : aFrzL h l K),
    ∃ ds h' o E' S, K ds h' o ∧ ds.length = l.length ∧ FrzL base h w E h' E' o S us ds
  | [], h, E, H, us, _, K, hk => ⟨[], h, true, E, fun _ _ => False, hk, rfl, H, Tr.refl _ _, fun i d hd => by simp at hd, fun _ _ hc => hc.elim, fun _ _ _ hc => hc.elim, fun _ _ _ _ hc => hc.elim, fun _ _ hc => hc⟩
  | a :: l, h, E, H, us, hv, K, hk => by
    unfold aFrzL at hk
    obtain ⟨d, h1, o1, E1, S1, hk1, F1⟩ := aFrz_sound H (hv 0 a rfl) hk
    obtain ⟨ds, h2, o2, E2, S2, hk2, hl, F2⟩ := aFrzL_sound l F1.rel (us := fun i => us (i + 1)) (fun i av hi => (hv (i + 1) av (by simpa using hi)).tr F1.tr) hk1
    refine ⟨d :: ds, h2, o1 && o2, E2, fun i c => match i with | 0 => S1 c ∧ c < w.heap.size | i + 1 => S2 i c, hk2, by simp [hl], F2.rel, F1.tr.trans F2.tr, ?_, ?_, ?_, ?_, fun j c hc => F1.sub j c (F2.sub j c hc)⟩
    · intro i d' hd
      cases i with
      | zero =>
        simp at hd; subst hd
        exact Rd.own_of _ F1.rd.within (fun h => by simp at h; exact h.1)
      | succ i => exact Rd.own_of _ (F2.rd i d' (by simpa using hd)) (fun h => by simp at h; exact h.2)
    · intro i c hc
      cases i with
      | zero => exact fun hM => F1.off c hc.1 (F2.tr.mono c hc.2 hM)
      | succ i => exact F2.off i c hc
    · intro ho i c hc
      simp at ho
      cases i with
      | zero => exact ⟨(F1.own ho.1 c hc.1).1, fun j hj => (F1.own ho.1 c hc.1).2 j (F2.sub j c hj)⟩
      | succ i =>
        obtain ⟨h3, h4⟩ := F2.own ho.2 i c hc
        refine ⟨?_, h4⟩
        rcases h3 with ⟨k, hk⟩ | hM
        · exact .inl ⟨k, F1.sub k c hk⟩
        · obtain ⟨j, hj⟩ := hM
          exact .inr (F1.tr.mono c (F1.rel.lt hj) ⟨j, hj⟩)
    · intro ho i i' c hc hc'
      simp at ho
      have key : ∀ i, (S1 c ∧ c < w.heap.size) → S2 i c → False := by
        intro i h1 h2
        rcases (F2.own ho.2 i c h2).1 with ⟨k, hk⟩ | hM
        · exact (F1.own ho.1 c h1.1).2 k hk
        · exact F1.off c h1.1 hM
      cases i <;> cases i'
      · rfl
      · exact (key _ hc hc').elim
      · exact (key _ hc' hc).elim
      · rw [F2.inj ho.2 _ _ c hc hc']

end Go.AM
