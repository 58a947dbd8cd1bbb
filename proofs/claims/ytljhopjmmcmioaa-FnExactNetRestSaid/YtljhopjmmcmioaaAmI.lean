/-
  The abstract machine is sound: append, and stores into rows.
-/
import Derived.Test.YtljhopjmmcmioaaAmH
namespace Go.AM
open Go.RowKit

theorem rd_one {w : World} {x : Bool} {S : Nat → Prop} {u : Value} {d : CD} (h : Rd w x S u d) : u.oneCell' = true := by
  cases h with
  | plain hp => exact plain_one hp
  | h k H sz len u h he => obtain ⟨a, c, rfl⟩ := (Rd.h (w := w) (x := x) (S := S) k H sz len u h he).mlv.slice; rfl
  | empty => rfl
  | slice => rfl

/-- nothing is appended -/
theorem run_append_zero {P : Program} {w : World} {t ty e : TypeId} {i : TypeInfo} (hu : P.underlying t = some (.slice e)) (hi : P.info? e = some i) (ad a : Option Addr) (n C c : Nat) (hn : n ≤ C) :
    (Builtin.append_ #[t, t] ty #[.slice ad n C, .slice a 0 c]).run P w = .ok (.slice ad n C) w := by
  cases ad <;> cases a <;> simp [Builtin.append_, run_underlying hu, run_sizeOf' hi, Builtin.lenOf, hn, Builtin.firstCells, loadCells, loadCellsFrom, storeCells]

/-- what is appended lies in cells that are known -/
structure NewsAt (w : World) (u : Value) (m sz : Nat) (vs : List Value) : Prop where
  len : vs.length = m * sz
  shape : (m = 0 ∧ ∃ a c, u = .slice a 0 c) ∨ ∃ a c, 0 < m ∧ u = .slice (some a) m c ∧ ∀ j v, vs[j]? = some v → w.cell? (a.add j) = some v
  one : ∀ v ∈ vs, v.oneCell' = true

theorem news_of_rd {w : World} {x : Bool} {S : Nat → Prop} {u : Value} {rows : List (List CD)} (h : Rd w x S u (.s rows)) {sz : Nat} (hsz : ∀ row ∈ rows, row.length = sz) :
    ∃ (vs : List Value) (F : Nat → Nat → Nat → Prop), NewsAt w u rows.length sz vs ∧ (∀ i j c, F i j c → S c) ∧ (x = true → ∀ i j i' j' c, F i j c → F i' j' c → i = i' ∧ j = j') ∧
      ∀ i j row d, rows[i]? = some row → row[j]? = some d → Rd w x (F i j) (vs.getD (i * sz + j) undef) d := by
  cases h with
  | empty a cap => exact ⟨[], fun _ _ _ => False, ⟨by simp, .inl ⟨rfl, a, cap, rfl⟩, by simp⟩, fun _ _ _ hc => hc.elim, fun _ _ _ _ _ _ hc => hc.elim, fun i j row d hi => by simp at hi⟩
  | slice b off cap sz' cs T fr rows F hcap hmax hsz' hS hb hfit hown hF hd hlen hr =>
    by_cases hm : rows.length = 0
    · have : rows = [] := List.eq_nil_of_length_eq_zero hm
      subst this
      exact ⟨[], fun _ _ _ => False, ⟨by simp, .inl ⟨rfl, _, cap, rfl⟩, by simp⟩, fun _ _ _ hc => hc.elim, fun _ _ _ _ _ _ hc => hc.elim, fun i j row d hi => by simp at hi⟩
    · have h0 : rows[0]'(by omega) ∈ rows := List.getElem_mem _
      have e : sz' = sz := by rw [← hlen _ h0, hsz _ h0]
      subst e
      have hget : ∀ k, k < rows.length * sz' → ((List.range (rows.length * sz')).map fun j => cs.getD (off + j) undef).getD k undef = cs.getD (off + k) undef := by
        intro k hk
        simp [hk]
      refine ⟨(List.range (rows.length * sz')).map fun j => cs.getD (off + j) undef, F, ⟨by simp, .inr ⟨_, cap, by omega, rfl, ?_⟩, ?_⟩, fun i j c hc => (hF i j c hc).1, hd, ?_⟩
      · intro j v hj
        simp only [List.getElem?_map, Option.map_eq_some_iff] at hj
        obtain ⟨k, hk, rfl⟩ := hj
        obtain ⟨hk1, rfl⟩ := List.getElem?_eq_some_iff.1 hk
        simp at hk1
        rw [add_plain]
        simpa using cell_of hb (show off + j < cs.size by omega)
      · intro v hv
        simp only [List.mem_map, List.mem_range] at hv
        obtain ⟨k, hk, rfl⟩ := hv
        have hi : k / sz' < rows.length := (Nat.div_lt_iff_lt_mul hsz').2 hk
        have hj : k % sz' < sz' := Nat.mod_lt _ hsz'
        have hrow := List.getElem?_eq_getElem hi
        have hl := hlen _ (List.getElem_mem hi)
        have := hr (k / sz') (k % sz') _ _ hrow (List.getElem?_eq_getElem (by omega))
        have e : k / sz' * sz' + k % sz' = k := by rw [Nat.mul_comm]; exact Nat.div_add_mod k sz'
        rw [e] at this
        exact rd_one this
      · intro i j row d hi hj
        have hlt : i < rows.length := (List.getElem?_eq_some_iff.1 hi).1
        have hjl : j < sz' := by rw [← hlen _ (List.mem_of_getElem? hi)]; exact (List.getElem?_eq_some_iff.1 hj).1
        have hk : i * sz' + j < rows.length * sz' := by
          have := Nat.mul_le_mul_right sz' (show i + 1 ≤ rows.length by omega)
          have e : (i + 1) * sz' = i * sz' + sz' := Nat.succ_mul i sz'
          omega
        rw [hget _ hk]
        exact hr i j row d hi hj

/-- data without memory is anybody's -/
theorem rd_plain {w : World} {x : Bool} {S : Nat → Prop} {u : Value} {d : CD} (h : Rd w x S u d) (hv : isV d = true) (y : Bool) : Rd w y (fun _ => False) u d := by
  cases h with
  | plain hp => exact .plain hp
  | h => simp [isV] at hv
  | empty => simp [isV] at hv
  | slice => simp [isV] at hv

theorem aNews_sound {base : Bs} {h : AH} {w : World} {E : Nat → Nat → Prop} (H : HRel base h w E) {te : TI} {x : AV} {u : Value} (hx : VRel w h.M x u) {K : List (List CD) → AH → Bool → Prop} (hk : aNews te h x K) :
    ∃ news h' o E' S vs, K news h' o ∧ (∀ row ∈ news, row.length = te.n) ∧ NewsAt w u news.length te.n vs ∧ FrzR base h w E h' E' o S (fun i j => vs.getD (i * te.n + j) undef) news := by
  unfold aNews at hk
  split at hk
  · cases hx
    exact ⟨[], h, true, E, fun _ _ _ => False, [], hk, by simp, ⟨by simp, .inl ⟨rfl, none, 0, rfl⟩, by simp⟩, H, Tr.refl _ _, fun i j row d hd => by simp at hd, fun _ _ _ hc => hc.elim, fun _ _ _ _ hc => hc.elim, fun _ _ _ _ _ _ hc => hc.elim, fun _ _ hc => hc⟩
  · rename_i rows
    obtain ⟨hsz, hpl, hK⟩ := hk
    cases hx with
    | ro _ x hr =>
      obtain ⟨vs, F, hn, hF, -, hrd⟩ := news_of_rd hr hsz
      cases hp : te.pln with
      | true =>
        rw [hp] at hK
        refine ⟨rows, h, true, E, fun _ _ _ => False, vs, hK, hsz, hn, H, Tr.refl _ _, fun i j row d hi hj => rd_plain (hrd i j row d hi hj) (hpl hp row (List.mem_of_getElem? hi) d (List.mem_of_getElem? hj)) _, fun _ _ _ hc => hc.elim, fun _ _ _ _ hc => hc.elim, fun _ _ _ _ _ _ hc => hc.elim, fun _ _ hc => hc⟩
      | false =>
        rw [hp] at hK
        exact ⟨rows, h, false, E, F, vs, hK, hsz, hn, H, Tr.refl _ _, hrd, fun i j c hc => hF i j c hc, (by intro h; cases h), (by intro h; cases h), fun _ _ hc => hc⟩
  · rename_i k Hd sz off len
    split at hk
    · rename_i H' sz' rows own hget
      obtain ⟨rfl, rfl, hte, hlen, hk⟩ := hk
      cases hx with
      | sl _ _ _ _ _ x hx =>
        have ho := H.obj k
        rw [hget] at ho
        have hrows : ∀ row ∈ cut rows off len, row.length = te.n := by
          intro row hrow
          obtain ⟨i, hi⟩ := List.getElem?_of_mem hrow
          rw [cut_get] at hi
          split at hi
          · have hm := List.mem_of_getElem? hi
            cases Hd with
            | none => rw [show rows = [] from ho] at hm; simp at hm
            | some q =>
              obtain ⟨b, o, C⟩ := q
              obtain ⟨cs, T, F, -, -, -, -, -, hrl, -⟩ := ho
              rw [hrl _ hm, hte]
          · simp at hi
        have hsub : ∀ row ∈ cut rows off len, row ∈ rows := by
          intro row hrow
          rw [cut_eq] at hrow
          exact List.mem_of_mem_drop (List.mem_of_mem_take hrow)
        have hread : ∃ S, Rd w own S u (.s (cut rows off len)) ∧ ∀ c, S c → ((h.get k).blk = some c ∨ (own = true → E k c) ∧ ¬ h.M c) := by
          cases Hd with
          | none =>
            obtain ⟨⟨a, rfl⟩, rfl⟩ := hx
            rw [show rows = [] from ho, show cut ([] : List (List CD)) off 0 = [] from by simp [cut_eq]]
            exact ⟨fun _ => False, .empty _ _ (fun _ => rfl), fun _ hc => hc.elim⟩
          | some q =>
            obtain ⟨b, o, C⟩ := q
            obtain ⟨S, hrd, hS⟩ := rows_read ho ⟨k, by rw [hget]; rfl⟩ hx hlen
            refine ⟨S, hrd, fun c hc => ?_⟩
            rcases hS c hc with rfl | h2
            · exact .inl (by rw [hget]; rfl)
            · exact .inr h2
        obtain ⟨S, hrd, hS⟩ := hread
        obtain ⟨vs, F, hn, hF, hd, hr⟩ := news_of_rd hrd hrows
        split at hk
        · obtain ⟨hpl, hK⟩ := hk
          refine ⟨_, h, true, E, fun _ _ _ => False, vs, hK, hrows, hn, H, Tr.refl _ _, fun i j row d hi hj => rd_plain (hr i j row d hi hj) (hpl row (hsub _ (List.mem_of_getElem? hi)) d (List.mem_of_getElem? hj)) _, fun _ _ _ hc => hc.elim, fun _ _ _ _ hc => hc.elim, fun _ _ _ _ _ _ hc => hc.elim, fun _ _ hc => hc⟩
        · refine ⟨_, _, own, _, F, vs, hk, hrows, hn, H.kill k, Tr.kill H k, hr, ?_, ?_, hd, fun j c hc => ?_⟩
          · intro i j c hc hM
            rcases hS c (hF i j c hc) with hb | ⟨-, hnM⟩
            · exact not_M_kill H hb hM
            · exact hnM (M_kill hM)
          · intro hown i j c hc
            rcases hS c (hF i j c hc) with hb | ⟨he, -⟩
            · refine ⟨.inr ⟨k, hb⟩, fun q hq => ?_⟩
              split at hq
              · exact hq
              · exact H.em q c hq ⟨k, hb⟩
            · refine ⟨.inl ⟨k, he hown⟩, fun q hq => ?_⟩
              split at hq
              · exact hq
              · rename_i hne; exact hne (H.einj _ _ _ hq (he hown))
          · split at hc
            · exact hc.elim
            · exact hc
    · exact hk.elim
  · exact hk.elim

end Go.AM
