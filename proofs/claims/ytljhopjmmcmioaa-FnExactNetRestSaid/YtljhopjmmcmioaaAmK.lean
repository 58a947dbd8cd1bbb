/-
  The abstract machine is sound: stores, calls, code.
-/
import Derived.Test.YtljhopjmmcmioaaAmJ
namespace Go.AM
open Go.RowKit

theorem putL_all {α : Type} : ∀ (l vs : List α), vs.length = l.length → putL l 0 vs = vs
  | l, [], h => by have : l = [] := List.eq_nil_of_length_eq_zero h.symm; subst this; rfl
  | [], _ :: _, h => by simp at h
  | _ :: l, v :: vs, h => by simp only [putL]; rw [putL_all l vs (by simpa using h)]

theorem setrow_get (rows : List (List CD)) (r c sz : Nat) (ds : List CD) (hr : r < rows.length) (hl : (rows[r]).length = sz) (hfit : c + ds.length ≤ sz) (i : Nat) :
    (if c = 0 ∧ ds.length = sz then rows.set r ds else rows.modify r fun row => putL row c ds)[i]? = if i = r then some (putL rows[r] c ds) else rows[i]? := by
  split
  · rename_i h
    obtain ⟨rfl, h⟩ := h
    rw [List.getElem?_set, putL_all _ _ (by omega)]
    by_cases hi : i = r
    · rw [if_pos hi.symm, if_pos hr, if_pos hi]
    · rw [if_neg (Ne.symm hi), if_neg hi]
  · rw [List.getElem?_modify]
    by_cases hi : i = r
    · subst hi
      simp [hr]
    · simp [hi, Ne.symm hi]

theorem setrow_length (rows : List (List CD)) (r c sz : Nat) (ds : List CD) : (if c = 0 ∧ ds.length = sz then rows.set r ds else rows.modify r fun row => putL row c ds).length = rows.length := by
  split <;> simp

theorem Rep.storeRow {w0 : World} {base : Bs} {st : ASt} {a : Act} {w : World} (hR : Rep w0 base st a w) {h' : AH} {E0 E' : Nat → Nat → Prop} (H0 : HRel base st.h w E0) {o' : Bool} {S : Nat → Nat → Prop} {us : List Value} {ds : List CD}
    (FR : FrzL base st.h w E0 h' E' o' S (fun j => us.getD j undef) ds) (hul : us.length = ds.length) {k b o C sz r c : Nat} {rows : List (List CD)} {own : Bool}
    (hget : h'.get k = .rows (some (b, o, C)) sz rows own) (hr : r < rows.length) (hfit : c + ds.length ≤ sz) :
    ∃ cs T, w.heap[b]? = some (.cells cs T (0, 0)) ∧ o + r * sz + c + us.length ≤ cs.size ∧
      Moved w0 base st a w ((k, .rows (some (b, o, C)) sz (if c = 0 ∧ ds.length = sz then rows.set r ds else rows.modify r fun row => putL row c ds) (own && o')) :: h')
        (w.setRow b (cs.toList.take (o + r * sz + c) ++ us ++ cs.toList.drop (o + r * sz + c + us.length)).toArray) := by
  have H' := FR.rel
  have hbk : (h'.get k).blk = some b := by rw [hget]; rfl
  have hob := H'.obj k
  rw [hget] at hob
  obtain ⟨cs, T, F, hb, hlen, hCm, hsz, hfitC, hrl, hF, hd, hrd⟩ := hob
  have hrow := List.getElem?_eq_getElem hr
  have hl : (rows[r]).length = sz := hrl _ (List.getElem_mem hr)
  have hle : r * sz + sz ≤ C * sz := by
    have := Nat.mul_le_mul_right sz (show r + 1 ≤ C by omega)
    have e : (r + 1) * sz = r * sz + sz := Nat.succ_mul r sz
    omega
  have hfit' : o + r * sz + c + us.length ≤ cs.size := by omega
  refine ⟨cs, T, hb, hfit', ?_⟩
  obtain ⟨g1, g2⟩ := splice_get cs (o + r * sz + c) us hfit'
  have hget' := setrow_get rows r c sz ds hr hl hfit
  have hlen' := setrow_length rows r c sz ds
  generalize (if c = 0 ∧ ds.length = sz then rows.set r ds else rows.modify r fun row => putL row c ds) = rows' at hget' hlen' ⊢
  generalize hcs' : (cs.toList.take (o + r * sz + c) ++ us ++ cs.toList.drop (o + r * sz + c + us.length)).toArray = cs' at g1 g2 ⊢
  have hfr : ∀ c, c < w.heap.size → (¬ h'.M c ∨ ∃ j, j ≠ k ∧ (h'.get j).blk = some c) → (w.setRow b cs').heap[c]? = w.heap[c]? := by
    intro c _ h
    refine setRow_other w b c _ (fun he => ?_)
    subst he
    rcases h with h | ⟨j, hne, hj⟩
    · exact h ⟨k, hbk⟩
    · exact hne (H'.inj _ _ _ hj hbk)
  have t : Tr h'.M w (AH.M ((k, .rows (some (b, o, C)) sz rows' (own && o')) :: h')) (w.setRow b cs') :=
    Tr.upd H' (by simp) (fun c hc hM => hfr c hc (.inl hM)) (fun c hc => .inr (by rw [hbk]; simpa [AObj.blk] using hc))
  have hlow : o' = true → ∀ j c, S j c → ¬ base.G c ∧ ∀ q, ¬ E' q c := by
    intro ho j c hc
    obtain ⟨h1, h2⟩ := FR.own ho j c hc
    refine ⟨?_, h2⟩
    rcases h1 with ⟨q, hq⟩ | ⟨q, hq⟩
    · exact (H0.elow q c hq).1
    · exact (H0.low q c hq).2
  refine (hR.move H' FR.tr ⟨rfl, rfl, rfl⟩).move (H'.upd (Ek := fun q => (own && o') = true ∧ q < w.heap.size ∧ ((∃ i j, F i j q) ∨ ∃ j, S j q)) (by simp) hfr (fun q hq => ?_)
    ⟨cs', T, fun i j q => q < w.heap.size ∧ if i = r ∧ c ≤ j ∧ j < c + ds.length then S (j - c) q else F i j q, setRow_heap w b cs _ T (0, 0) hb, by omega, hCm, hsz, by omega, ?_, ?_, ?_, ?_⟩ ?_) t (Same.setRow _ _ _)
  · have hqb : b = q := by simpa [AObj.blk] using hq
    subst hqb
    exact ⟨H'.low k _ hbk, .inr hbk⟩
  · intro row hm
    obtain ⟨i, hi⟩ := List.getElem?_of_mem hm
    rw [hget' i] at hi
    split at hi
    · cases hi; rw [putL_length _ _ _ (by omega), hl]
    · exact hrl _ (List.mem_of_getElem? hi)
  · rintro i j q ⟨hlt, hc⟩
    refine ⟨fun ho => ⟨ho, hlt, ?_⟩, fun hM => ?_⟩
    · split at hc
      · exact .inr ⟨_, hc⟩
      · exact .inl ⟨i, j, hc⟩
    · have hM' := t.mono q hlt hM
      split at hc
      · exact FR.off _ q hc hM'
      · exact (hF i j q hc).2 hM'
  · rintro ho i j i' j' q ⟨hlt, hc⟩ ⟨-, hc'⟩
    simp at ho
    have key : ∀ i j j', F i j q → S j' q → False := fun i j j' h1 h2 => (hlow ho.2 j' q h2).2 k ((hF i j q h1).1 ho.1)
    split at hc <;> split at hc'
    · have := FR.inj ho.2 _ _ q hc hc'; omega
    · exact (key _ _ _ hc' hc).elim
    · exact (key _ _ _ hc hc').elim
    · exact hd ho.1 i j i' j' q hc hc'
  · intro i j row d hi hj
    rw [hget' i] at hi
    by_cases hir : i = r
    · subst hir
      rw [if_pos rfl] at hi
      cases hi
      rw [putL_get _ _ _ (by omega)] at hj
      by_cases hin : c ≤ j ∧ j < c + ds.length
      · rw [if_pos hin] at hj
        rw [g2, if_pos (by omega), show o + (i * sz + j) - (o + i * sz + c) = j - c by omega]
        exact Rd.map (Rd.own_of _ (FR.rd _ _ hj) (fun h => by simp at h; exact h.2)) (fun q hq hl => hfr q hl (.inl (FR.off _ q hq))) (fun q hq hl => ⟨hl, by rw [if_pos ⟨rfl, hin⟩]; exact hq⟩)
      · rw [if_neg hin] at hj
        rw [g2, if_neg (by omega)]
        exact Rd.map (Rd.own_of _ (hrd i j _ d hrow hj) (fun h => by simp at h; exact h.1)) (fun q hq hl => hfr q hl (.inl (hF i j q hq).2)) (fun q hq hl => ⟨hl, by rw [if_neg (fun h => hin h.2)]; exact hq⟩)
    · rw [if_neg hir] at hi
      have hjl : j < sz := by rw [← hrl _ (List.mem_of_getElem? hi)]; exact (List.getElem?_eq_some_iff.1 hj).1
      have hne : ¬ (o + r * sz + c ≤ o + (i * sz + j) ∧ o + (i * sz + j) < o + r * sz + c + us.length) := by
        rcases Nat.lt_or_ge i r with h | h
        · have := Nat.mul_le_mul_right sz (show i + 1 ≤ r by omega)
          have e : (i + 1) * sz = i * sz + sz := Nat.succ_mul i sz
          omega
        · have := Nat.mul_le_mul_right sz (show r + 1 ≤ i by omega)
          have e : (r + 1) * sz = r * sz + sz := Nat.succ_mul r sz
          omega
      rw [g2, if_neg hne]
      exact Rd.map (Rd.own_of _ (hrd i j _ d hi hj) (fun h => by simp at h; exact h.1)) (fun q hq hl => hfr q hl (.inl (hF i j q hq).2)) (fun q hq hl => ⟨hl, by rw [if_neg (fun h => hir h.1)]; exact hq⟩)
  · rintro q ⟨ho, hlt, hc⟩
    simp at ho
    rcases hc with ⟨i, j, hc⟩ | ⟨j, hc⟩
    · have he := (hF i j q hc).1 ho.1
      exact ⟨(H'.elow k q he).1, by simpa using hlt, fun p hne hp => hne (H'.einj _ _ _ hp he), fun hM => (hF i j q hc).2 (t.mono q hlt hM)⟩
    · exact ⟨(hlow ho.2 j q hc).1, by simpa using hlt, fun p _ => (hlow ho.2 j q hc).2 p, fun hM => FR.off j q hc (t.mono q hlt hM)⟩

theorem aStore_sound {E : Env} (hE : EOk E) {st : ASt} {a : Act} {w : World} (hR : Rep E.w0 E.base st a w) {T : Nat} {x y : AV} {u v : Value} (hx : VRel w st.h.M x u) (hy : VRel w st.h.M y v) {K : ASt → Prop} (h : aStore E st T x y K) :
    ∃ w' h', (Instr.storeAt T u v).run E.P w = .ok () w' ∧ K { st with h := h' } ∧ Moved E.w0 E.base st a w h' w' := by
  unfold aStore at h
  split at h
  · rename_i ti hti
    have ht := hE _ _ hti
    obtain ⟨hn, hone, h⟩ := h
    obtain ⟨hcs, hcr⟩ := cells_rel hy hone
    have h1 : ∀ z ∈ v.cells.toList, z.oneCell' = true := by
      intro z hz
      obtain ⟨j, hj⟩ := List.getElem?_of_mem hz
      have hlt : j < y.cells.length := by rw [← hcs]; simpa using (List.getElem?_eq_some_iff.1 hj).1
      have hav := List.getElem?_eq_getElem hlt
      have := oneCell_rel (hcr j _ hav) (List.all_eq_true.1 hone _ (List.getElem_mem hlt))
      have e : v.cells.getD j undef = z := by
        simp only [Array.getElem?_toList] at hj
        simp [hj]
      rw [e] at this
      exact this
    have hun : v.cells.size = ti.n := by rw [hcs, hn]
    split at h
    · rename_i k b c
      split at h
      · rename_i b' T' cells hget
        obtain ⟨rfl, hfit, hK⟩ := h
        cases hx
        obtain ⟨cs, hb, hfit', hR'⟩ := hR.storeVars hget (l := y.cells) (us := v.cells.toList) (by simpa using hcs) (fun j x hj => by simpa using hcr j x hj) hfit
        refine ⟨_, _, ?_, hK, hR'⟩
        have := run_storeVar_of (P := E.P) ht (o := c) hb hun h1 (by simp at hfit'; omega)
        simpa [Instr.storeAt, Instr.sureAddr] using this
      · exact h.elim
    · rename_i k Hd sz r c
      obtain ⟨E0, H0⟩ := hR.heap
      obtain ⟨ds, h', o', E', S, hK, hdl, FR⟩ := aFrzL_sound y.cells H0 (us := fun j => v.cells.toList.getD j undef) (fun i av hi => by simpa using hcr i av hi) h
      split at hK
      · rename_i H' sz' rows own hget
        obtain ⟨rfl, rfl, hr, hfit, hK⟩ := hK
        cases hx with
        | e _ b o C _ _ _ =>
          obtain ⟨cs, T0, hb, hfit', hR'⟩ := hR.storeRow H0 FR (by simp [hcs, hdl]) hget hr hfit
          refine ⟨_, _, ?_, hK, hR'⟩
          have := run_storeVar_of (P := E.P) ht (o := o + r * sz + c) hb hun h1 (by simp at hfit'; omega)
          simpa [Instr.storeAt, Instr.sureAddr] using this
      · exact hK.elim
    · exact h.elim
  · exact h.elim

end Go.AM
