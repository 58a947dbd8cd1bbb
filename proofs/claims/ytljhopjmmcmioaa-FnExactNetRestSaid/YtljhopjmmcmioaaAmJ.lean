/-
  The abstract machine is sound: append itself, and stores into rows.
-/
import Derived.Test.YtljhopjmmcmioaaAmI
namespace Go.AM
open Go.RowKit

theorem run_append_room {P : Program} {w : World} {t ty e : TypeId} {i : TypeInfo} (hu : P.underlying t = some (.slice e)) (hi : P.info? e = some i) {b o n m C c : Nat} {cs : Array Value} {T : TypeId}
    (hb : w.heap[b]? = some (.cells cs T (0, 0))) (a : Addr) (vs : List Value) (hl : vs.length = m * i.size) (hvs : ∀ j v, vs[j]? = some v → w.cell? (a.add j) = some v) (h1 : ∀ v ∈ vs, v.oneCell' = true)
    (hC : n + m ≤ C) (hfit : o + C * i.size ≤ cs.size) :
    (Builtin.append_ #[t, t] ty #[.slice (some ⟨b, o, none⟩) n C, .slice (some a) m c]).run P w =
      .ok (.slice (some ⟨b, o, none⟩) (n + m) C) (w.setRow b (cs.toList.take (o + n * i.size) ++ vs ++ cs.toList.drop (o + n * i.size + vs.length)).toArray) := by
  have hf := run_firstCells_some (P := P) w i.size m a m c vs hl hvs
  have hle : (n + m) * i.size ≤ C * i.size := Nat.mul_le_mul_right _ hC
  rw [Nat.add_mul] at hle
  have hst := run_storeCells_at (P := P) b (o + n * i.size) T vs 0 cs w hb (by omega) h1
  simp only [Nat.add_zero] at hst
  simp [Builtin.append_, run_underlying hu, run_sizeOf' hi, Builtin.lenOf, hC, hf, add_plain, hst]

theorem zeros_size (z : Array Value) (n : Nat) : (Builtin.zeroCells z n).size = n * z.size := by simp [Builtin.zeroCells]

/-- the rows of a new array: what was there, what comes, and room -/
theorem grown_get (xs vs : List Value) (rest : Array Value) (n m sz : Nat) (hx : xs.length = n * sz) (hv : vs.length = m * sz) :
    (∀ i j, i < n → j < sz → (xs.toArray ++ vs.toArray ++ rest).getD (i * sz + j) undef = xs.getD (i * sz + j) undef) ∧
    ∀ i j, i < m → j < sz → (xs.toArray ++ vs.toArray ++ rest).getD ((n + i) * sz + j) undef = vs.getD (i * sz + j) undef := by
  have lt : ∀ i j n, i < n → j < sz → i * sz + j < n * sz := by
    intro i j n hi hj
    have := Nat.mul_le_mul_right sz (show i + 1 ≤ n by omega)
    have e : (i + 1) * sz = i * sz + sz := Nat.succ_mul i sz
    omega
  refine ⟨fun i j hi hj => ?_, fun i j hi hj => ?_⟩
  · have h := lt i j n hi hj
    simp only [Array.getD_eq_getD_getElem?]
    rw [Array.getElem?_append_left (by simp; omega), Array.getElem?_append_left (by simp; omega)]
    simp
  · have h := lt i j m hi hj
    simp only [Array.getD_eq_getD_getElem?]
    rw [Nat.add_mul]
    rw [Array.getElem?_append_left (by simp; omega), Array.getElem?_append_right (by simp; omega)]
    simp only [List.size_toArray, hx, List.getElem?_toArray, List.getD_eq_getElem?_getD]
    congr 2
    omega

theorem run_append_empty {P : Program} {w : World} {t ty e : TypeId} {i : TypeInfo} {z : Value} (hu : P.underlying t = some (.slice e)) (hi : P.info? e = some i) (hz : i.zero = some z) (ad0 : Option Addr)
    (a : Addr) (n c : Nat) (vs : List Value) (hl : vs.length = n * i.size) (hvs : ∀ j v, vs[j]? = some v → w.cell? (a.add j) = some v) (h0 : 0 < n) (h63 : n ≤ 140737488355328) (hb : n * i.bytes ≤ 140737488355328) :
    (Builtin.append_ #[t, t] ty #[.slice ad0 0 0, .slice (some a) n c]).run P w =
      .ok (.slice (some ⟨w.heap.size, 0, none⟩) n (grownCap w n 0 e)) (w.drew.alloc (.cells (vs.toArray ++ Builtin.zeroCells z.cells (grownCap w n 0 e - n)) e)) := by
  cases ad0 with
  | none => exact run_append_nil w t ty e i z hu hi hz a n c vs hl hvs h0 (by omega) (by omega)
  | some ad =>
    have := run_append_grow (P := P) w t ty e i z hu hi hz ad 0 0 [] (by simp) (by simp) a n c vs hl hvs (by omega) (by omega) (by rw [Nat.zero_add]; exact growslice_fits h0 hb)
    simpa using this

/-- an object's rows grow within its block -/
theorem Rep.inRoom {w0 : World} {base : Bs} {st : ASt} {a : Act} {w w' : World} (hR : Rep w0 base st a w) {h' : AH} {E' : Nat → Nat → Prop} (H' : HRel base h' w E') (tr : Tr st.h.M w h'.M w) {k b o C sz : Nat} {e : TypeId} {rows news : List (List CD)} {own own' : Bool} {cs cs' : Array Value}
    (hget : h'.get k = .rows (some (b, o, C)) sz rows own) (hb : w.heap[b]? = some (.cells cs e (0, 0))) (hs : w'.heap.size = w.heap.size) (hb' : w'.heap[b]? = some (.cells cs' e (0, 0))) (hoth : ∀ c, c ≠ b → w'.heap[c]? = w.heap[c]?) (hso : Same w w')
    (hsz' : cs'.size = cs.size) (hC : rows.length + news.length ≤ C) (hnl : ∀ row ∈ news, row.length = sz)
    (hold : ∀ i j, i < rows.length → j < sz → cs'.getD (o + (i * sz + j)) undef = cs.getD (o + (i * sz + j)) undef) (S : Nat → Nat → Nat → Prop)
    (hnew : ∀ i j row d, news[i]? = some row → row[j]? = some d → Rd w own' (S i j) (cs'.getD (o + ((rows.length + i) * sz + j)) undef) d)
    (hoff : ∀ i j c, S i j c → ¬ h'.M c) (hown : own' = true → ∀ i j c, S i j c → ¬ base.G c ∧ ∀ j, ¬ E' j c) (hinj : own' = true → ∀ i j i' j' c, S i j c → S i' j' c → i = i' ∧ j = j') :
    Moved w0 base st a w ((k, .rows (some (b, o, C)) sz (rows ++ news) (own && own')) :: h') w' := by
  have hbk : (h'.get k).blk = some b := by rw [hget]; rfl
  have hfr : ∀ c, c < w.heap.size → (¬ h'.M c ∨ ∃ j, j ≠ k ∧ (h'.get j).blk = some c) → w'.heap[c]? = w.heap[c]? := by
    intro c _ h
    refine hoth c (fun he => ?_)
    subst he
    rcases h with h | ⟨j, hne, hj⟩
    · exact h ⟨k, hbk⟩
    · exact hne (H'.inj _ _ _ hj hbk)
  have t : Tr h'.M w (AH.M ((k, .rows (some (b, o, C)) sz (rows ++ news) (own && own')) :: h')) w' :=
    Tr.upd H' (by omega) (fun c hc hM => hfr c hc (.inl hM)) (fun c hc => .inr (by rw [hbk]; simpa [AObj.blk] using hc))
  have hob := H'.obj k
  rw [hget] at hob
  obtain ⟨cs0, T0, F, hb0, hlen, hCm, hsz, hfit, hrl, hF, hd, hr⟩ := hob
  obtain ⟨rfl, rfl⟩ : cs = cs0 ∧ e = T0 := by
    rw [hb] at hb0
    simpa using hb0
  refine (hR.move H' tr ⟨rfl, rfl, rfl⟩).move (H'.upd (Ek := fun c => (own && own') = true ∧ c < w.heap.size ∧ ((∃ i j, i < rows.length ∧ F i j c) ∨ ∃ i j, S i j c)) (by omega) hfr (fun c hc => ?_)
    ⟨cs', e, fun i j c => c < w.heap.size ∧ if i < rows.length then F i j c else S (i - rows.length) j c, hb', by simpa using hC, hCm, hsz, by omega, ?_, ?_, ?_, ?_⟩ ?_) t hso
  · have hcb : b = c := by simpa [AObj.blk] using hc
    subst hcb
    exact ⟨H'.low k _ hbk, .inr hbk⟩
  · intro row hrow
    rcases List.mem_append.1 hrow with h | h
    · exact hrl _ h
    · exact hnl _ h
  · rintro i j c ⟨hlt, hc⟩
    refine ⟨fun ho => ⟨ho, hlt, ?_⟩, fun hM => ?_⟩
    · split at hc
      · rename_i hi; exact .inl ⟨i, j, hi, hc⟩
      · exact .inr ⟨_, j, hc⟩
    · have hM' := t.mono c hlt hM
      split at hc
      · exact (hF i j c hc).2 hM'
      · exact hoff _ j c hc hM'
  · rintro ho i j i' j' c ⟨hlt, hc⟩ ⟨-, hc'⟩
    simp at ho
    have key : ∀ i j i' j', F i j c → S i' j' c → False := fun i j i' j' h1 h2 => (hown ho.2 i' j' c h2).2 k ((hF i j c h1).1 ho.1)
    split at hc <;> split at hc'
    · exact hd ho.1 i j i' j' c hc hc'
    · exact (key _ _ _ _ hc hc').elim
    · exact (key _ _ _ _ hc' hc).elim
    · have := hinj ho.2 _ _ _ _ c hc hc'; omega
  · intro i j row d hi hj
    by_cases hlt : i < rows.length
    · rw [List.getElem?_append_left hlt] at hi
      have hjl : j < sz := by rw [← hrl _ (List.mem_of_getElem? hi)]; exact (List.getElem?_eq_some_iff.1 hj).1
      rw [hold i j hlt hjl]
      refine Rd.map (Rd.own_of _ (hr i j row d hi hj) (fun h => by simp at h; exact h.1)) (fun c hc hl => hfr c hl (.inl (hF i j c hc).2)) (fun c hc hl => ⟨hl, by rw [if_pos hlt]; exact hc⟩)
    · rw [List.getElem?_append_right (by omega)] at hi
      have := hnew (i - rows.length) j row d hi hj
      rw [show rows.length + (i - rows.length) = i by omega] at this
      refine Rd.map (Rd.own_of _ this (fun h => by simp at h; exact h.2)) (fun c hc hl => hfr c hl (.inl (hoff _ j c hc))) (fun c hc hl => ⟨hl, by rw [if_neg hlt]; exact hc⟩)
  · rintro c ⟨ho, hlt, hc⟩
    simp at ho
    rcases hc with ⟨i, j, -, hc⟩ | ⟨i, j, hc⟩
    · have he := (hF i j c hc).1 ho.1
      exact ⟨(H'.elow k c he).1, by omega, fun q hne hq => hne (H'.einj _ _ _ hq he), fun hM => (hF i j c hc).2 (t.mono c hlt hM)⟩
    · exact ⟨(hown ho.2 i j c hc).1, by omega, fun q _ => (hown ho.2 i j c hc).2 q, fun hM => hoff i j c hc (t.mono c hlt hM)⟩

theorem aAppend_sound {E : Env} (hE : EOk E) {st : ASt} {a : Act} {w : World} (hR : Rep E.w0 E.base st a w) {d : Option Nat} {T ty : Nat} {s x : AV} {u v : Value} (hs : VRel w st.h.M s u) (hx : VRel w st.h.M x v) {K : ASt → Prop} (h : aAppend E st d T s x K) :
    ∃ r w', (Builtin.append_ #[T, T] ty #[u, v]).run E.P w = .ok r w' ∧ StepR E.w0 E.base st a w d r w' K := by
  obtain ⟨e, te, i, hu, ht, hi, hsz, hby, hbp, hn, h⟩ := elemT_some hE h
  obtain ⟨E0, H0⟩ := hR.heap
  obtain ⟨i', z, hi', -, -, hz, hzc, -⟩ := ht.info
  have hii : i' = i := by rw [hi] at hi'; exact (Option.some.inj hi').symm
  subst hii
  have hzs : z.cells.size = te.n := by rw [zero_size hzc, ht.zlen]
  split at h
  · -- the nil slice
    cases hs
    obtain ⟨news, h', o, E', S, vs, hK, hnl, hN, FR⟩ := aNews_sound H0 hx h
    obtain ⟨hbytes, hK⟩ := hK
    rcases hN.shape with ⟨hm, ad, c, rfl⟩ | ⟨ad, c, hm, rfl, hcell⟩
    · have hnil : news = [] := List.eq_nil_of_length_eq_zero hm
      subst hnil
      refine ⟨_, w, run_append_zero hu hi none ad 0 0 c (Nat.le_refl _), ?_⟩
      have t : Tr h'.M w (AH.M ((st.key d, .rows none te.n [] o) :: h')) w := Tr.upd FR.rel (Nat.le_refl _) (fun _ _ _ => rfl) (fun b hb => by simp [AObj.blk] at hb)
      exact ((hR.move FR.rel FR.tr ⟨rfl, rfl, rfl⟩).move (FR.rel.upd (k := st.key d) (o' := .rows none te.n [] o) (Ek := fun _ => False) (Nat.le_refl _) (fun _ _ _ => rfl) (fun b hb => by simp [AObj.blk] at hb) rfl (fun _ hc => hc.elim)) t ⟨rfl, rfl, rfl⟩).put
        (VRel.sl (st.key d) none te.n 0 0 _ ⟨⟨_, rfl⟩, rfl⟩) (hK none)
    · have hl0 : news.length ≤ news.length * te.bytes := Nat.le_mul_of_pos_right _ hbp
      have hrun := run_append_nil (P := E.P) w T ty e i' z hu hi hz ad news.length c vs (by rw [hsz]; exact hN.len) hcell hm (by omega) (by rw [hby]; omega)
      refine ⟨_, _, hrun, ?_⟩
      have hge := grownCap_ge w news.length 0 e
      have hcm := grownCap_le_maxLen w news.length 0 e (by unfold maxLen; omega)
      generalize grownCap w news.length 0 e = C at hge hcm ⊢
      have hg := grown_get [] vs (Builtin.zeroCells z.cells (C - news.length)) 0 news.length te.n (by simp) hN.len
      simp only [List.nil_append, Nat.zero_add, Array.empty_append] at hg
      refine (hR.newRows H0 FR.rel FR.tr (st.key d) C e te.n hn news o (vs.toArray ++ Builtin.zeroCells z.cells (C - news.length)) (w.drew.alloc (.cells (vs.toArray ++ Builtin.zeroCells z.cells (C - news.length)) e)) rfl ⟨rfl, rfl, rfl⟩ hge hcm ?_ hnl S ?_ FR.off ?_ FR.inj).put (.sl _ _ _ _ _ _ ?_) (hK (some (w.heap.size, 0, C)))
      · simp [zeros_size, hzs, hN.len, ← Nat.add_mul]
        rw [show news.length + (C - news.length) = C by omega]
        exact Nat.le_refl _
      · intro i j row d' hi' hj'
        have hlt : i < news.length := (List.getElem?_eq_some_iff.1 hi').1
        have hjl : j < te.n := by rw [← hnl _ (List.mem_of_getElem? hi')]; exact (List.getElem?_eq_some_iff.1 hj').1
        rw [hg.2 i j hlt hjl]
        exact FR.rd i j row d' hi' hj'
      · intro ho i j c hc
        obtain ⟨h1, h2⟩ := FR.own ho i j c hc
        exact ⟨h1.imp id .inl, fun j _ => h2 j⟩
      · exact .inl ⟨by simp, by omega⟩
  · rename_i k H sz off len _
    obtain ⟨news, h', o, E', S, vs, hK, hnl, hN, FR⟩ := aNews_sound H0 hx h
    split at hK
    · rename_i H' sz' rows own hget
      obtain ⟨rfl, rfl, rfl, rfl, rfl, hbytes, hK⟩ := hK
      have hl0 : rows.length + news.length ≤ (rows.length + news.length) * te.bytes := Nat.le_mul_of_pos_right _ hbp
      have hob := FR.rel.obj k
      rw [hget] at hob
      cases hs with
      | sl _ _ _ _ _ _ hslv =>
        cases H with
        | none =>
          obtain ⟨⟨ad0, rfl⟩, hr0⟩ := hslv
          have hrows : rows = [] := hob
          subst hrows
          rcases hN.shape with ⟨hm, ad, c, rfl⟩ | ⟨ad, c, hm, rfl, hcell⟩
          · have hnil : news = [] := List.eq_nil_of_length_eq_zero hm
            subst hnil
            refine ⟨_, w, run_append_zero hu hi ad0 ad 0 0 c (Nat.le_refl _), ?_⟩
            have t : Tr h'.M w (AH.M ((k, .rows none te.n ([] ++ []) (own && o)) :: h')) w := Tr.upd FR.rel (Nat.le_refl _) (fun _ _ _ => rfl) (fun b hb => by simp [AObj.blk] at hb)
            exact ((hR.move FR.rel FR.tr ⟨rfl, rfl, rfl⟩).move (FR.rel.upd (k := k) (o' := .rows none te.n ([] ++ []) (own && o)) (Ek := fun _ => False) (Nat.le_refl _) (fun _ _ _ => rfl) (fun b hb => by simp [AObj.blk] at hb) (by simp [ObjRel]) (fun _ hc => hc.elim)) t ⟨rfl, rfl, rfl⟩).put
              (VRel.sl k none te.n 0 0 _ ⟨⟨_, rfl⟩, rfl⟩) (hK none)
          · simp only [List.length_nil, Nat.zero_add] at hl0 hbytes hK
            have hl1 : news.length ≤ news.length * te.bytes := Nat.le_mul_of_pos_right _ hbp
            have hrun := run_append_empty (P := E.P) (ty := ty) hu hi hz ad0 ad news.length c vs (by rw [hsz]; exact hN.len) hcell hm (by omega) (by rw [hby]; omega)
            refine ⟨_, _, hrun, ?_⟩
            have hge := grownCap_ge w news.length 0 e
            have hcm := grownCap_le_maxLen w news.length 0 e (by unfold maxLen; omega)
            generalize grownCap w news.length 0 e = C at hge hcm ⊢
            have hg := grown_get [] vs (Builtin.zeroCells z.cells (C - news.length)) 0 news.length te.n (by simp) hN.len
            simp only [Nat.zero_add, Array.empty_append] at hg
            refine (hR.newRows H0 FR.rel FR.tr k C e te.n hn ([] ++ news) (own && o) (vs.toArray ++ Builtin.zeroCells z.cells (C - news.length)) (w.drew.alloc (.cells (vs.toArray ++ Builtin.zeroCells z.cells (C - news.length)) e)) rfl ⟨rfl, rfl, rfl⟩ hge hcm ?_ hnl S ?_ FR.off ?_ ?_).put (.sl _ _ _ _ _ _ ?_) (hK (some (w.heap.size, 0, C)))
            · simp [zeros_size, hzs, hN.len, ← Nat.add_mul]
              rw [show news.length + (C - news.length) = C by omega]
              exact Nat.le_refl _
            · intro i j row d' hi' hj'
              have hlt : i < news.length := (List.getElem?_eq_some_iff.1 hi').1
              have hjl : j < te.n := by rw [← hnl _ (List.mem_of_getElem? hi')]; exact (List.getElem?_eq_some_iff.1 hj').1
              rw [hg.2 i j hlt hjl]
              exact Rd.own_of _ (FR.rd i j row d' hi' hj') (fun h => by simp at h; exact h.2)
            · intro ho i j c hc
              simp at ho
              obtain ⟨h1, h2⟩ := FR.own ho.2 i j c hc
              exact ⟨h1.imp id .inl, fun j _ => h2 j⟩
            · intro ho
              simp at ho
              exact FR.inj ho.2
            · exact .inl ⟨by simp, by omega⟩
        | some q =>
          obtain ⟨b, oo, C⟩ := q
          rcases hslv with ⟨rfl, hC⟩ | ⟨-, h00, -⟩
          · obtain ⟨cs, T0, F, hb, hlen, hCm, hszp, hfit, hrl, hF, hd', hr⟩ := hob
            simp only [Nat.zero_mul, Nat.add_zero, Nat.zero_add, Nat.sub_zero] at hC ⊢
            have hlow : o = true → ∀ i j c, S i j c → ¬ E.base.G c ∧ ∀ j, ¬ E' j c := by
              intro ho i j c hc
              obtain ⟨h1, h2⟩ := FR.own ho i j c hc
              refine ⟨?_, h2⟩
              rcases h1 with ⟨q, hq⟩ | ⟨q, hq⟩
              · exact (H0.elow q c hq).1
              · exact (H0.low q c hq).2
            rcases hN.shape with ⟨hm, ad, c, rfl⟩ | ⟨ad, c, hm, rfl, hcell⟩
            · have hnil : news = [] := List.eq_nil_of_length_eq_zero hm
              subst hnil
              refine ⟨_, w, run_append_zero hu hi _ ad rows.length C c hlen, ?_⟩
              refine (hR.inRoom FR.rel FR.tr (news := []) (own' := o) hget hb rfl hb (fun _ _ => rfl) ⟨rfl, rfl, rfl⟩ rfl (by simpa using hlen) (by simp) (fun _ _ _ _ => rfl) S (fun i j row d hi => by simp at hi) FR.off hlow FR.inj).put
                (VRel.sl k (some (b, oo, C)) te.n 0 _ _ (Or.inl ⟨by simp, by simpa using hlen⟩)) (hK (some (b, oo, C)))
            · by_cases hroom : rows.length + news.length ≤ C
              · have hrun := run_append_room (P := E.P) (ty := ty) (c := c) hu hi hb ad vs (by rw [hsz]; exact hN.len) hcell hN.one hroom (by rw [hsz]; exact hfit)
                refine ⟨_, _, hrun, ?_⟩
                rw [hsz]
                have hvl := hN.len
                have hm1 : (rows.length + news.length) * te.n ≤ C * te.n := Nat.mul_le_mul_right _ hroom
                rw [Nat.add_mul] at hm1
                obtain ⟨g1, g2⟩ := splice_get cs (oo + rows.length * te.n) vs (by omega)
                refine (hR.inRoom FR.rel FR.tr (own' := o) hget hb (by simp) (setRow_heap w b cs _ T0 (0, 0) hb) (fun c hc => setRow_other w b c _ hc) (Same.setRow _ _ _) g1 hroom hnl ?_ S ?_ FR.off hlow FR.inj).put
                  (VRel.sl k (some (b, oo, C)) te.n 0 _ _ (Or.inl ⟨by simp, by omega⟩)) (hK (some (b, oo, C)))
                · intro i j hi hj
                  have : i * te.n + te.n ≤ rows.length * te.n := by
                    have := Nat.mul_le_mul_right te.n (show i + 1 ≤ rows.length by omega)
                    have e : (i + 1) * te.n = i * te.n + te.n := Nat.succ_mul i te.n
                    omega
                  rw [g2, if_neg (by omega)]
                · intro i j row d' hi' hj'
                  have hlt : i < news.length := (List.getElem?_eq_some_iff.1 hi').1
                  have hjl : j < te.n := by rw [← hnl _ (List.mem_of_getElem? hi')]; exact (List.getElem?_eq_some_iff.1 hj').1
                  have : i * te.n + te.n ≤ news.length * te.n := by
                    have := Nat.mul_le_mul_right te.n (show i + 1 ≤ news.length by omega)
                    have e : (i + 1) * te.n = i * te.n + te.n := Nat.succ_mul i te.n
                    omega
                  rw [g2, Nat.add_mul, if_pos (by omega)]
                  rw [show oo + (rows.length * te.n + i * te.n + j) - (oo + rows.length * te.n) = i * te.n + j by omega]
                  exact FR.rd i j row d' hi' hj'
              · have hmC : (C + (0 : Nat)) * te.n = C * te.n := by simp
                have hxl : ((List.range (rows.length * te.n)).map fun j => cs.getD (oo + j) undef).length = rows.length * te.n := by simp
                have hrun := run_append_grow (P := E.P) w T ty e i' z hu hi hz ⟨b, oo, none⟩ rows.length C ((List.range (rows.length * te.n)).map fun j => cs.getD (oo + j) undef) (by rw [hsz]; simp) ?_ ad news.length c vs (by rw [hsz]; exact hN.len) hcell (by omega) (by omega)
                  (by rw [hby]; exact growslice_fits (by omega) hbytes)
                · refine ⟨_, _, hrun, ?_⟩
                  have hge := grownCap_ge w (rows.length + news.length) C e
                  have hcm := grownCap_le_maxLen w (rows.length + news.length) C e (by unfold maxLen; omega)
                  generalize grownCap w (rows.length + news.length) C e = C' at hge hcm ⊢
                  have hg := grown_get _ vs (Builtin.zeroCells z.cells (C' - (rows.length + news.length))) rows.length news.length te.n hxl hN.len
                  refine (hR.newRows H0 FR.rel FR.tr k C' e te.n hn (rows ++ news) (own && o) _ (w.drew.alloc (.cells (((List.range (rows.length * te.n)).map fun j => cs.getD (oo + j) undef).toArray ++ vs.toArray ++ Builtin.zeroCells z.cells (C' - (rows.length + news.length))) e)) rfl ⟨rfl, rfl, rfl⟩ (by simpa using hge) hcm ?_ ?_
                    (fun i j c => if i < rows.length then F i j c else S (i - rows.length) j c) ?_ ?_ ?_ ?_).put (.sl _ _ _ _ _ _ ?_) (hK (some (w.heap.size, 0, C')))
                  · simp [zeros_size, hzs, hN.len, ← Nat.add_mul]
                    rw [show rows.length + news.length + (C' - (rows.length + news.length)) = C' by omega]
                    exact Nat.le_refl _
                  · intro row hrow
                    rcases List.mem_append.1 hrow with h | h
                    · exact hrl _ h
                    · exact hnl _ h
                  · intro i j row d' hi' hj'
                    by_cases hlt : i < rows.length
                    · rw [List.getElem?_append_left hlt] at hi'
                      have hjl : j < te.n := by rw [← hrl _ (List.mem_of_getElem? hi')]; exact (List.getElem?_eq_some_iff.1 hj').1
                      have hk : i * te.n + j < rows.length * te.n := by
                        have := Nat.mul_le_mul_right te.n (show i + 1 ≤ rows.length by omega)
                        have e : (i + 1) * te.n = i * te.n + te.n := Nat.succ_mul i te.n
                        omega
                      rw [hg.1 i j hlt hjl]
                      refine Rd.map (S := F i j) ?_ (fun _ _ _ => rfl) (fun c hc _ => by rw [if_pos hlt]; exact hc)
                      have := Rd.own_of (own && o) (hr i j row d' hi' hj') (fun h => by simp at h; exact h.1)
                      simpa [hk] using this
                    · rw [List.getElem?_append_right (by omega)] at hi'
                      have hlt' : i - rows.length < news.length := (List.getElem?_eq_some_iff.1 hi').1
                      have hjl : j < te.n := by rw [← hnl _ (List.mem_of_getElem? hi')]; exact (List.getElem?_eq_some_iff.1 hj').1
                      have h2 := hg.2 (i - rows.length) j hlt' hjl
                      rw [show rows.length + (i - rows.length) = i by omega] at h2
                      rw [h2]
                      exact Rd.map (Rd.own_of _ (FR.rd _ j row d' hi' hj') (fun h => by simp at h; exact h.2)) (fun _ _ _ => rfl) (fun c hc _ => by rw [if_neg hlt]; exact hc)
                  · intro i j c hc
                    split at hc
                    · exact (hF i j c hc).2
                    · exact FR.off _ j c hc
                  · intro ho i j c hc
                    simp at ho
                    split at hc
                    · have he := (hF i j c hc).1 ho.1
                      exact ⟨.inr (.inr he), fun q hne hq => hne (FR.rel.einj _ _ _ hq he)⟩
                    · obtain ⟨h1, h2⟩ := FR.own ho.2 _ j c hc
                      exact ⟨h1.imp id .inl, fun q _ => h2 q⟩
                  · intro ho i j i1 j1 c hc hc'
                    simp at ho
                    have key : ∀ i j i' j', F i j c → S i' j' c → False := fun i j i' j' h1 h2 => (FR.own ho.2 i' j' c h2).2 k ((hF i j c h1).1 ho.1)
                    split at hc <;> split at hc'
                    · exact hd' ho.1 i j i1 j1 c hc hc'
                    · exact (key _ _ _ _ hc hc').elim
                    · exact (key _ _ _ _ hc' hc).elim
                    · have := FR.inj ho.2 _ _ _ _ c hc hc'; omega
                  · exact .inl ⟨by simp, by omega⟩
                · intro j v hj
                  simp only [List.getElem?_map, Option.map_eq_some_iff] at hj
                  obtain ⟨k', hk', rfl⟩ := hj
                  obtain ⟨hk1, rfl⟩ := List.getElem?_eq_some_iff.1 hk'
                  simp at hk1
                  have hle : rows.length * te.n ≤ C * te.n := Nat.mul_le_mul_right _ hlen
                  rw [add_plain]
                  simpa using cell_of hb (show oo + j < cs.size by omega)
          · exact absurd h00 (by omega)
    · exact hK.elim
  · exact h.elim

end Go.AM
