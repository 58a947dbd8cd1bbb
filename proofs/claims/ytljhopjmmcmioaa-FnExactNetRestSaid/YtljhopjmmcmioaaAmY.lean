/-
  Turning what is owned deep below: entailments between states, opening and closing a nested slice.
-/
import Derived.Test.YtljhopjmmcmioaaAmX
namespace Go.AM
open Go.RowKit

mutual
/-- a value that reads nothing -/
def AV.q : AV → Bool
  | .ro _ => false
  | .rp _ => false
  | .agg l => AV.qL l
  | .tup l => AV.qL l
  | .clo _ l => AV.qL l
  | _ => true
def AV.qL : List AV → Bool
  | [] => true
  | a :: l => a.q && AV.qL l
end

def AObj.q : AObj → Bool
  | .dead => true
  | .vars _ _ cells => AV.qL cells
  | .rows _ _ _ own => own

def qT : List (Nat × AV) → Bool
  | [] => true
  | (_, v) :: l => v.q && qT l

def qH : AH → Bool
  | [] => true
  | (_, o) :: l => o.q && qH l

def ASt.quiet (st : ASt) : Prop := qT st.t = true ∧ qH st.h = true

theorem AV.qL_get : ∀ (l : List AV), AV.qL l = true → ∀ (i : Nat) (a : AV), l[i]? = some a → a.q = true
  | [], _, i, a, h => by simp at h
  | b :: l, h, i, a, hi => by
    simp only [AV.qL, Bool.and_eq_true] at h
    cases i with
    | zero => simp at hi; subst hi; exact h.1
    | succ i => exact AV.qL_get l h.2 i a (by simpa using hi)

theorem VRel.quiet {w w' : World} {M M' : Nat → Prop} {av : AV} {x : Value} (h : VRel w M av x) (hq : av.q = true) : VRel w' M' av x := by
  induction h with
  | any x => exact .any x
  | un => exact .un
  | nil => exact .nil
  | v u h => exact .v u h
  | ro rows x h => simp [AV.q] at hq
  | sl k H sz off len x h => exact .sl k H sz off len x h
  | cv u len h => exact .cv u len h
  | ml k H sz len x h => exact .ml k H sz len x h
  | p k b c => exact .p k b c
  | e k b o C sz r c => exact .e k b o C sz r c
  | rp row b o cs T fr hM hb hfit hr => simp [AV.q] at hq
  | agg l xs hs _ ih => exact .agg l xs hs (fun i av hi => ih i av hi (AV.qL_get l (by simpa [AV.q] using hq) i av hi))
  | tup l xs hs _ ih => exact .tup l xs hs (fun i av hi => ih i av hi (AV.qL_get l (by simpa [AV.q] using hq) i av hi))
  | clo f l xs hs _ ih => exact .clo f l xs hs (fun i av hi => ih i av hi (AV.qL_get l (by simpa [AV.q] using hq) i av hi))

theorem qT_get : ∀ (t : List (Nat × AV)), qT t = true → ∀ i, (getT t i).q = true
  | [], _, i => rfl
  | (k, v) :: t, h, i => by
    simp only [qT, Bool.and_eq_true] at h
    unfold getT
    split
    · exact h.1
    · exact qT_get t h.2 i

theorem qH_get : ∀ (h : AH), qH h = true → ∀ i, (h.get i).q = true
  | [], _, i => rfl
  | (k, v) :: t, h, i => by
    simp only [qH, Bool.and_eq_true] at h
    rw [get_cons]
    split
    · exact h.1
    · exact qH_get t h.2 i

/-- one state says as much as another of a kind -/
def Ent (E : Env) (st : ASt) (S : ASt → Prop) : Prop := ∀ a w, Rep E.w0 E.base st a w → ∃ st', S st' ∧ Rep E.w0 E.base st' a w

theorem Ent.refl {E : Env} {st : ASt} {S : ASt → Prop} (h : S st) : Ent E st S := fun _ _ hR => ⟨st, h, hR⟩

def loopG {β : Type} (E : Env) (Inv : β → Prop) (I : β → ASt) (μ : β → Nat) (x : β) (Q : Exit → ASt → Prop) : Exit → ASt → Prop
  | .normal, st => Ent E st fun st' => ∃ x', Inv x' ∧ μ x' < μ x ∧ Weak st' (I x')
  | e, st => Q e st

theorem LoopT.introG {E : Env} (hE : EOk E) {body : Code} {Q : Exit → ASt → Prop} {st : ASt} {β : Type} (Inv : β → Prop) (I : β → ASt) (μ : β → Nat) (x0 : β) (h0 : Inv x0) (hw : Weak st (I x0))
    (hr : ∀ x, Inv x → Ent E (I x) (aSem E body (loopG E Inv I μ x Q))) : LoopT E body Q st := by
  intro a w hR
  refine wp_loop_ghost (fun n a w => ∃ x, Inv x ∧ μ x = n ∧ Rep E.w0 E.base (I x) a w) (μ x0) ⟨x0, h0, rfl, hw.rep hR⟩ ?_
  rintro n a w ⟨x, hx, rfl, hR⟩
  obtain ⟨st1, hs1, hR1⟩ := hr x hx a w hR
  refine wp_mono (aSem_sound hE body _ _ a w hR1 hs1) ?_
  rintro e a' w' ⟨st', hq, hR'⟩
  cases e with
  | normal =>
    obtain ⟨st2, ⟨x', h1, h2, h3⟩, hR2⟩ := hq a' w' hR'
    exact ⟨μ x', h2, x', h1, rfl, h3.rep hR2⟩
  | _ => exact ⟨st', hq, hR'⟩

/-- a cell of a row is put -/
def setC (rows : List (List CD)) (i j : Nat) (d : CD) : List (List CD) := rows.modify i fun r => r.set j d

theorem setC_length (rows : List (List CD)) (i j : Nat) (d : CD) : (setC rows i j d).length = rows.length := by simp [setC]

theorem setC_get {rows : List (List CD)} {i j : Nat} {d : CD} {i' j' : Nat} {row : List CD} {x : CD} (hi : (setC rows i j d)[i']? = some row) (hj : row[j']? = some x) :
    (i' = i ∧ j' = j ∧ x = d) ∨ ¬ (i' = i ∧ j' = j) ∧ ∃ row0, rows[i']? = some row0 ∧ row0[j']? = some x := by
  unfold setC at hi
  rw [List.getElem?_modify] at hi
  by_cases h : i = i'
  · subst h
    simp only [↓reduceIte, Option.map_eq_map, Option.map_eq_some_iff] at hi
    obtain ⟨row0, h0, rfl⟩ := hi
    rw [List.getElem?_set] at hj
    by_cases h2 : j = j'
    · subst h2
      rw [if_pos rfl] at hj
      split at hj
      · simp at hj; exact .inl ⟨rfl, rfl, hj.symm⟩
      · simp at hj
    · rw [if_neg h2] at hj
      exact .inr ⟨fun h => h2 h.2.symm, row0, h0, hj⟩
  · simp only [if_neg h] at hi
    simp at hi
    exact .inr ⟨fun h' => h h'.1.symm, row, hi, hj⟩

theorem setC_mem {rows : List (List CD)} {i j sz : Nat} {d : CD} (h : ∀ row ∈ rows, row.length = sz) : ∀ row ∈ setC rows i j d, row.length = sz := by
  intro row hr
  obtain ⟨k, hk⟩ := List.getElem?_of_mem hr
  unfold setC at hk
  rw [List.getElem?_modify] at hk
  by_cases h' : i = k
  · subst h'
    simp only [↓reduceIte, Option.map_eq_map, Option.map_eq_some_iff] at hk
    obtain ⟨row0, h0, rfl⟩ := hk
    simp [h row0 (List.mem_of_getElem? h0)]
  · simp only [if_neg h'] at hk
    simp at hk
    exact h row (List.mem_of_getElem? hk)

/-- the state is a heap and temporaries that read nothing: another heap, over the same world -/
theorem Rep.reheap {w0 : World} {base : Bs} {st : ASt} {a : Act} {w : World} (hR : Rep w0 base st a w) (hq : qT st.t = true) {h' : AH} {E' : Nat → Nat → Prop} (H : HRel base h' w E') : Rep w0 base { st with h := h' } a w :=
  ⟨hR.dfr, hR.size, fun i => (hR.tmp i).quiet (qT_get _ hq i), ⟨E', H⟩, hR.below, hR.base_le⟩

/-- an object that reads nothing but its own follows, where nothing of its own is taken -/
theorem ObjRel.quiet {w : World} {M M' E : Nat → Prop} {o : AObj} (h : ObjRel w M E o) (hq : o.q = true) (hM : ∀ c, E c → ¬ M c → ¬ M' c) : ObjRel w M' E o := by
  cases o with
  | dead => exact h
  | vars b T cells =>
    obtain ⟨cs, h1, h2, h3⟩ := h
    exact ⟨cs, h1, h2, fun j av hj => (h3 j av hj).quiet (AV.qL_get _ (by simpa [AObj.q] using hq) j av hj)⟩
  | rows H sz rows own =>
    cases H with
    | none => exact h
    | some q =>
      obtain ⟨b, o, C⟩ := q
      obtain ⟨cs, T, F, h1, h2, h3, h4, h5, h6, h7, h8, h9⟩ := h
      refine ⟨cs, T, F, h1, h2, h3, h4, h5, h6, fun i j c hc => ⟨(h7 i j c hc).1, ?_⟩, h8, h9⟩
      exact hM c ((h7 i j c hc).1 (by simpa [AObj.q] using hq)) (h7 i j c hc).2

theorem Ent.open {E : Env} {st : ASt} {S : ASt → Prop} (hFG : ∀ b, E.base.F b → E.base.G b) {k i j k' sz sz' : Nat} {H : Hd} {rows srows : List (List CD)} {row : List CD} (hk : st.h.get k = .rows H sz rows true)
    (hi : rows[i]? = some row) (hj : row[j]? = some (.s srows)) (hk' : st.h.get k' = .dead) (hz : 0 < sz') (hr : ∀ r ∈ srows, r.length = sz') (hq : st.quiet)
    (h : ∀ H', Ent E { st with h := (k', .rows H' sz' srows true) :: (k, .rows H sz (setC rows i j (.h k' H' sz' srows.length)) true) :: st.h } S) : Ent E st S := by
  intro a w hR
  obtain ⟨Es, HH⟩ := hR.heap
  have hne : k' ≠ k := by rintro rfl; rw [hk] at hk'; cases hk'
  have ho := HH.obj k
  rw [hk] at ho
  cases H with
  | none => rw [show rows = [] from ho] at hi; simp at hi
  | some q =>
    obtain ⟨b, o, C⟩ := q
    obtain ⟨cs, T, F, hb, hl, hC, hsz, hfit, hrl, hF, hd, hrd⟩ := ho
    have hu := hrd i j row _ hi hj
    obtain ⟨u, hud⟩ : ∃ u, cs.getD (o + (i * sz + j)) undef = u := ⟨_, rfl⟩
    rw [hud] at hu
    have hblkk : (st.h.get k).blk = some b := by rw [hk]; rfl
    by_cases hs0 : srows = []
    · subst hs0
      refine h none a w (hR.reheap hq.1 (E' := Es) ?_)
      have hg : ∀ x, (AH.get ((k', AObj.rows none sz' [] true) :: (k, AObj.rows (some (b, o, C)) sz (setC rows i j (.h k' none sz' 0)) true) :: st.h) x).blk = (st.h.get x).blk := by
        intro x
        rw [get_cons, get_cons]
        split
        · rename_i hx; subst hx; rw [hk']; rfl
        · split
          · rename_i hx; subst hx; rw [hk]; rfl
          · rfl
      have hM : ∀ c, AH.M ((k', AObj.rows none sz' [] true) :: (k, AObj.rows (some (b, o, C)) sz (setC rows i j (.h k' none sz' 0)) true) :: st.h) c ↔ st.h.M c := by
        intro c; unfold AH.M; simp only [hg]
      refine ⟨fun x => ?_, fun x x' c h1 h2 => HH.inj x x' c (by rw [← hg]; exact h1) (by rw [← hg]; exact h2), fun x c h1 => HH.low x c (by rw [← hg]; exact h1), HH.elow, HH.einj, fun x c hc hm => HH.em x c hc ((hM c).1 hm)⟩
      rw [get_cons, get_cons]
      split
      · rfl
      · split
        · rename_i hx
          subst hx
          refine ⟨cs, T, F, hb, by rw [setC_length]; exact hl, hC, hsz, hfit, setC_mem hrl, fun i j c hc => ⟨(hF i j c hc).1, fun hm => (hF i j c hc).2 ((hM c).1 hm)⟩, hd, ?_⟩
          intro i2 j2 row2 d2 h1 h2
          rcases setC_get h1 h2 with ⟨rfl, rfl, rfl⟩ | ⟨-, row0, h3, h4⟩
          · rw [hud]; exact .h _ _ _ _ _ (by intro h; simp at h) (fun _ => hu)
          · exact hrd _ _ _ _ h3 h4
        · exact (HH.obj x).mono (fun c _ hc => (hM c).1 hc) (fun _ hc => hc)
    · cases hu with
      | empty => exact absurd rfl hs0
      | slice b1 off1 cap1 sz1 cs1 T1 fr1 _ F1 hcap1 hmax1 hsz1 hS1 hb1 hfit1 hown1 hF1 hd1 hlen1 hr1 =>
        obtain ⟨hfr1, hroom1⟩ := hown1 rfl
        subst hfr1
        have e : sz1 = sz' := by
          cases srows with
          | nil => exact absurd rfl hs0
          | cons r0 l => rw [← hlen1 r0 (List.mem_cons_self ..), hr r0 (List.mem_cons_self ..)]
        subst e
        have hb1E : Es k b1 := (hF i j b1 hS1).1 rfl
        have hb1M : ¬ st.h.M b1 := (hF i j b1 hS1).2
        refine h (some (b1, off1, cap1)) a w (hR.reheap hq.1 (E' := fun x c => if x = k' then (∃ i' j', F1 i' j' c) else if x = k then Es k c ∧ ¬ F i j c else Es x c) ?_)
        have hE' : ∀ c, ¬ Es k' c ∨ True := fun _ => .inr trivial
        have hget : ∀ x, AH.get ((k', AObj.rows (some (b1, off1, cap1)) sz1 srows true) :: (k, AObj.rows (some (b, o, C)) sz (setC rows i j (.h k' (some (b1, off1, cap1)) sz1 srows.length)) true) :: st.h) x =
            if x = k' then AObj.rows (some (b1, off1, cap1)) sz1 srows true else if x = k then AObj.rows (some (b, o, C)) sz (setC rows i j (.h k' (some (b1, off1, cap1)) sz1 srows.length)) true else st.h.get x := fun x => rfl
        generalize hgen : (((k', AObj.rows (some (b1, off1, cap1)) sz1 srows true) :: (k, AObj.rows (some (b, o, C)) sz (setC rows i j (.h k' (some (b1, off1, cap1)) sz1 srows.length)) true) :: st.h) : AH) = h2 at hget ⊢
        change AH at h2
        have hblk : ∀ x c, (h2.get x).blk = some c → (x = k' ∧ c = b1) ∨ x ≠ k' ∧ (st.h.get x).blk = some c := by
          intro x c hc
          rw [hget] at hc
          split at hc
          · rename_i hx; simp [AObj.blk] at hc; exact .inl ⟨hx, hc.symm⟩
          · rename_i hx
            split at hc
            · rename_i hx2; subst hx2; rw [hk]; exact .inr ⟨hx, hc⟩
            · exact .inr ⟨hx, hc⟩
        have hM : ∀ c, h2.M c → c = b1 ∨ st.h.M c := by
          rintro c ⟨x, hx⟩
          rcases hblk x c hx with h | h
          · exact .inl h.2
          · exact .inr ⟨x, h.2⟩
        have hF1E : ∀ i' j' c, F1 i' j' c → F i j c ∧ c ≠ b1 := fun i' j' c hc => ⟨(hF1 i' j' c hc).1, (hF1 i' j' c hc).2 rfl⟩
        refine ⟨fun x => ?_, fun x x' c h1 h2 => ?_, fun x c h1 => ?_, fun x c hc => ?_, fun x x' c hc hc' => ?_, fun x c hc hm => ?_⟩
        · rw [hget]
          by_cases hx : x = k'
          · simp only [if_pos hx]
            refine ⟨cs1, T1, F1, hb1, hcap1, hmax1, hsz1, hroom1, hlen1, fun i' j' c hc => ⟨fun _ => ⟨i', j', hc⟩, fun hm => ?_⟩, fun _ => hd1 rfl, hr1⟩
            obtain ⟨h1, h2⟩ := hF1E i' j' c hc
            rcases hM c hm with rfl | h
            · exact h2 rfl
            · exact (hF i j c h1).2 h
          · simp only [if_neg hx]
            by_cases hxk : x = k
            · simp only [if_pos hxk]
              refine ⟨cs, T, fun i' j' c => F i' j' c ∧ ¬ (i' = i ∧ j' = j), hb, by rw [setC_length]; exact hl, hC, hsz, hfit, setC_mem hrl, fun i' j' c hc => ⟨fun _ => ⟨(hF i' j' c hc.1).1 rfl, fun h => hc.2 (hd rfl _ _ _ _ c hc.1 h)⟩, fun hm => ?_⟩, fun _ i1 j1 i2 j2 c h1 h2 => hd rfl _ _ _ _ c h1.1 h2.1, ?_⟩
              · rcases hM c hm with rfl | h
                · exact hc.2 (hd rfl _ _ _ _ c hc.1 hS1)
                · exact (hF i' j' c hc.1).2 h
              · intro i2 j2 row2 d2 h1 h2
                rcases setC_get h1 h2 with ⟨rfl, rfl, rfl⟩ | ⟨hn, row0, h3, h4⟩
                · rw [hud]
                  refine .h _ _ _ _ _ (fun _ => ?_) (fun h0 => absurd (List.eq_nil_of_length_eq_zero h0) hs0)
                  exact .inl ⟨by simp, by omega⟩
                · exact (hrd _ _ _ _ h3 h4).map (fun _ _ _ => rfl) (fun c hc _ => ⟨hc, hn⟩)
            · simp only [if_neg hxk]
              refine (HH.obj x).quiet (qH_get _ hq.2 x) (fun c hc hm hm' => ?_)
              rcases hM c hm' with rfl | h
              · exact hxk (HH.einj _ _ c hc hb1E)
              · exact hm h
        · rcases hblk x c h1 with ⟨rfl, rfl⟩ | ⟨hx, h1⟩ <;> rcases hblk x' c h2 with ⟨hx', hc'⟩ | ⟨hx', h2⟩
          · exact hx'.symm
          · exact absurd ⟨x', h2⟩ hb1M
          · rw [hc'] at h1; exact absurd ⟨x, h1⟩ hb1M
          · exact HH.inj x x' c h1 h2
        · rcases hblk x c h1 with ⟨rfl, rfl⟩ | ⟨hx, h1⟩
          · have := (HH.elow k c hb1E).1
            exact ⟨fun h => this (hFG _ h), this⟩
          · exact HH.low x c h1
        · split at hc
          · obtain ⟨i', j', hc⟩ := hc
            exact HH.elow k c ((hF i j c (hF1E i' j' c hc).1).1 rfl)
          · split at hc
            · exact HH.elow k c hc.1
            · exact HH.elow x c hc
        · have key : ∀ y, (if y = k' then (∃ i' j', F1 i' j' c) else if y = k then Es k c ∧ ¬ F i j c else Es y c) → (y = k' ∧ F i j c ∧ Es k c) ∨ (y ≠ k' ∧ y = k ∧ Es k c ∧ ¬ F i j c) ∨ (y ≠ k' ∧ y ≠ k ∧ Es y c) := by
            intro y hy
            split at hy
            · rename_i h; obtain ⟨i', j', hy⟩ := hy
              exact .inl ⟨h, (hF1E i' j' c hy).1, (hF i j c (hF1E i' j' c hy).1).1 rfl⟩
            · rename_i h
              split at hy
              · rename_i h3; exact .inr (.inl ⟨h, h3, hy⟩)
              · rename_i h3; exact .inr (.inr ⟨h, h3, hy⟩)
          rcases key x hc with ⟨h1, h2, h3⟩ | ⟨h0, h1, h2, h3⟩ | ⟨h0, h1, h2⟩ <;> rcases key x' hc' with ⟨g1, g2, g3⟩ | ⟨g0, g1, g2, g3⟩ | ⟨g0, g1, g2⟩
          · rw [h1, g1]
          · exact absurd h2 g3
          · exact absurd (HH.einj _ _ c g2 h3) g1
          · exact absurd g2 h3
          · rw [h1, g1]
          · exact absurd (HH.einj _ _ c g2 h2) g1
          · exact absurd (HH.einj _ _ c h2 g3) h1
          · exact absurd (HH.einj _ _ c h2 g2) h1
          · exact HH.einj _ _ c h2 g2
        · split at hc
          · obtain ⟨i', j', hc⟩ := hc
            obtain ⟨h1, h2⟩ := hF1E i' j' c hc
            rcases hM c hm with rfl | h
            · exact h2 rfl
            · exact (hF i j c h1).2 h
          · split at hc
            · rcases hM c hm with rfl | h
              · exact hc.2 hS1
              · exact HH.em k c hc.1 h
            · rename_i hxk
              rcases hM c hm with rfl | h
              · exact hxk (HH.einj _ _ c hc hb1E)
              · exact HH.em x c hc h

theorem Ent.close {E : Env} {st : ASt} {S : ASt → Prop} {k i j k' sz sz' : Nat} {H H' : Hd} {rows srows : List (List CD)} {row : List CD} (hk : st.h.get k = .rows H sz rows true)
    (hi : rows[i]? = some row) (hj : row[j]? = some (.h k' H' sz' srows.length)) (hk' : st.h.get k' = .rows H' sz' srows true) (hne : k ≠ k') (hq : st.quiet)
    (h : Ent E { st with h := (k', .dead) :: (k, .rows H sz (setC rows i j (.s srows)) true) :: st.h } S) : Ent E st S := by
  intro a w hR
  obtain ⟨Es, HH⟩ := hR.heap
  have ho := HH.obj k
  rw [hk] at ho
  have ho' := HH.obj k'
  rw [hk'] at ho'
  cases H with
  | none => rw [show rows = [] from ho] at hi; simp at hi
  | some q =>
    obtain ⟨b, o, C⟩ := q
    obtain ⟨cs, T, F, hb, hl, hC, hsz, hfit, hrl, hF, hd, hrd⟩ := ho
    have hu := hrd i j row _ hi hj
    obtain ⟨u, hud⟩ : ∃ u, cs.getD (o + (i * sz + j)) undef = u := ⟨_, rfl⟩
    rw [hud] at hu
    have hblkk : (st.h.get k).blk = some b := by rw [hk]; rfl
    -- what the nested slice reads, and through which blocks
    have hread : ∃ S1, Rd w true S1 u (.s srows) ∧ ∀ c, S1 c → F i j c ∨ (st.h.get k').blk = some c ∨ (Es k' c ∧ ¬ st.h.M c) := by
      cases hu with
      | h _ _ _ _ _ h1 h2 =>
        by_cases h0 : srows.length = 0
        · have : srows = [] := List.eq_nil_of_length_eq_zero h0
          subst this
          exact ⟨F i j, h2 rfl, fun c hc => .inl hc⟩
        · have hs := h1 (by omega)
          cases H' with
          | none => exact absurd hs.2 h0
          | some q' =>
            obtain ⟨b', o', C'⟩ := q'
            obtain ⟨S1, hr1, hS1⟩ := rows_read ho' ⟨k', by rw [hk']; rfl⟩ hs (show 0 + srows.length ≤ srows.length by omega)
            refine ⟨S1, by simpa [cut_eq] using hr1, fun c hc => .inr ?_⟩
            rcases hS1 c hc with rfl | h3
            · exact .inl (by rw [hk']; rfl)
            · exact .inr ⟨h3.1 rfl, h3.2⟩
    obtain ⟨S1, hr1, hS1⟩ := hread
    refine h a w (hR.reheap hq.1 (E' := fun x c => if x = k' then False else if x = k then Es k c ∨ Es k' c ∨ (st.h.get k').blk = some c else Es x c) ?_)
    have hget : ∀ x, AH.get ((k', AObj.dead) :: (k, AObj.rows (some (b, o, C)) sz (setC rows i j (.s srows)) true) :: st.h) x =
        if x = k' then AObj.dead else if x = k then AObj.rows (some (b, o, C)) sz (setC rows i j (.s srows)) true else st.h.get x := fun x => rfl
    generalize hgen : (((k', AObj.dead) :: (k, AObj.rows (some (b, o, C)) sz (setC rows i j (.s srows)) true) :: st.h) : AH) = h2 at hget ⊢
    change AH at h2
    have hblk : ∀ x c, (h2.get x).blk = some c → x ≠ k' ∧ (st.h.get x).blk = some c := by
      intro x c hc
      rw [hget] at hc
      split at hc
      · simp [AObj.blk] at hc
      · rename_i hx
        split at hc
        · rename_i hx2; subst hx2; rw [hk]; exact ⟨hx, hc⟩
        · exact ⟨hx, hc⟩
    have hM : ∀ c, h2.M c → st.h.M c ∧ (st.h.get k').blk ≠ some c := by
      rintro c ⟨x, hx⟩
      obtain ⟨h1, h2⟩ := hblk x c hx
      exact ⟨⟨x, h2⟩, fun h3 => h1 (HH.inj _ _ c h2 h3)⟩
    have hnk : ∀ c, (st.h.get k').blk = some c → ∀ x, ¬ Es x c := fun c hc x hx => HH.em x c hx ⟨k', hc⟩
    refine ⟨fun x => ?_, fun x x' c h1 h2 => HH.inj x x' c (hblk x c h1).2 (hblk x' c h2).2, fun x c h1 => HH.low x c (hblk x c h1).2, fun x c hc => ?_, fun x x' c hc hc' => ?_, fun x c hc hm => ?_⟩
    · rw [hget]
      by_cases hx : x = k'
      · simp only [if_pos hx]; trivial
      · simp only [if_neg hx]
        by_cases hxk : x = k
        · simp only [if_pos hxk]
          have cases3 : ∀ i' j' c, (if i' = i ∧ j' = j then S1 c else F i' j' c) → (F i' j' c ∧ Es k c ∧ ¬ st.h.M c) ∨ (i' = i ∧ j' = j ∧ ((st.h.get k').blk = some c ∨ (Es k' c ∧ ¬ st.h.M c))) := by
            intro i' j' c hc
            split at hc
            · rename_i hij
              obtain ⟨rfl, rfl⟩ := hij
              rcases hS1 c hc with h3 | h3
              · exact .inl ⟨h3, (hF _ _ c h3).1 rfl, (hF _ _ c h3).2⟩
              · exact .inr ⟨rfl, rfl, h3⟩
            · exact .inl ⟨hc, (hF _ _ c hc).1 rfl, (hF _ _ c hc).2⟩
          refine ⟨cs, T, fun i' j' c => if i' = i ∧ j' = j then S1 c else F i' j' c, hb, by rw [setC_length]; exact hl, hC, hsz, hfit, setC_mem hrl, fun i' j' c hc => ⟨fun _ => ?_, fun hm => ?_⟩, fun _ i1 j1 i2 j2 c h1 h2 => ?_, ?_⟩
          · rcases cases3 i' j' c hc with h3 | ⟨-, -, h3 | h3⟩
            · exact .inl h3.2.1
            · exact .inr (.inr h3)
            · exact .inr (.inl h3.1)
          · obtain ⟨h4, h5⟩ := hM c hm
            rcases cases3 i' j' c hc with h3 | ⟨-, -, h3 | h3⟩
            · exact h3.2.2 h4
            · exact h5 h3
            · exact h3.2 h4
          · rcases cases3 i1 j1 c h1 with h3 | ⟨e1, e2, h3⟩ <;> rcases cases3 i2 j2 c h2 with h4 | ⟨e3, e4, h4⟩
            · exact hd rfl _ _ _ _ c h3.1 h4.1
            · rcases h4 with h4 | h4
              · exact absurd h3.2.1 (hnk c h4 k)
              · exact absurd (HH.einj _ _ c h3.2.1 h4.1) hne
            · rcases h3 with h3 | h3
              · exact absurd h4.2.1 (hnk c h3 k)
              · exact absurd (HH.einj _ _ c h4.2.1 h3.1) hne
            · exact ⟨e1.trans e3.symm, e2.trans e4.symm⟩
          · intro i2 j2 row2 d2 h1 h2
            rcases setC_get h1 h2 with ⟨rfl, rfl, rfl⟩ | ⟨hn, row0, h3, h4⟩
            · rw [hud]; exact hr1.map (fun _ _ _ => rfl) (fun c hc _ => by simp only [and_self, if_true]; exact hc)
            · exact (hrd _ _ _ _ h3 h4).map (fun _ _ _ => rfl) (fun c hc _ => by simp only [if_neg hn]; exact hc)
        · simp only [if_neg hxk]
          exact (HH.obj x).quiet (qH_get _ hq.2 x) (fun c _ hm hm' => hm (hM c hm').1)
    · split at hc
      · exact hc.elim
      · split at hc
        · rcases hc with hc | hc | hc
          · exact HH.elow _ c hc
          · exact HH.elow _ c hc
          · exact ⟨(HH.low k' c hc).2, HH.lt hc⟩
        · exact HH.elow x c hc
    · split at hc
      · exact hc.elim
      · rename_i h1
        split at hc'
        · exact hc'.elim
        · rename_i h2
          split at hc <;> split at hc'
          · rename_i e1 e2; rw [e1, e2]
          · rename_i e1 e2
            rcases hc with hc | hc | hc
            · exact absurd (HH.einj _ _ c hc' hc) e2
            · exact absurd (HH.einj _ _ c hc' hc) h2
            · exact absurd hc' (hnk c hc x')
          · rename_i e1 e2
            rcases hc' with hc' | hc' | hc'
            · exact absurd (HH.einj _ _ c hc hc') e1
            · exact absurd (HH.einj _ _ c hc hc') h1
            · exact absurd hc (hnk c hc' x)
          · exact HH.einj _ _ c hc hc'
    · obtain ⟨h4, h5⟩ := hM c hm
      split at hc
      · exact hc
      · split at hc
        · rcases hc with hc | hc | hc
          · exact HH.em _ c hc h4
          · exact HH.em _ c hc h4
          · exact h5 hc
        · exact HH.em x c hc h4
end Go.AM
