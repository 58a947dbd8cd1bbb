/-
  The abstract machine is sound: the operations that only compute, all of them.
-/
import Derived.Test.YtljhopjmmcmioaaAmC
namespace Go.AM
open Go.RowKit

theorem elemT_some {E : Env} (hE : EOk E) {T : Nat} {K : Nat → TI → Prop} (h : elemT E T K) :
    ∃ e te i, E.P.underlying T = some (.slice e) ∧ TIok E.P e te ∧ E.P.info? e = some i ∧ i.size = te.n ∧ i.bytes = te.bytes ∧ K e te := by
  unfold elemT at h
  split at h
  · rename_i ti hti
    split at h
    · rename_i e he
      split at h
      · rename_i te hte
        obtain ⟨i, z, hi, h1, h2, -⟩ := (hE _ _ hte).info
        exact ⟨e, te, i, (hE _ _ hti).sl e he, hE _ _ hte, hi, h1, h2, h⟩
      · exact h.elim
    · exact h.elim
  · exact h.elim

theorem indexAt_sound {P : Program} {w : World} {M : Nat → Prop} {T e : Nat} {te : TI} {i : TypeInfo} (hu : P.underlying T = some (.slice e)) (hi : P.info? e = some i) (hs : i.size = te.n)
    {x y : AV} {u v : Value} (hx : VRel w M x u) (hy : VRel w M y v) {K : AV → Prop} (h : indexAt te x y K) :
    ∃ r av, (Instr.indexAt T u v).run P w = .ok r w ∧ VRel w M av r ∧ K av := by
  unfold indexAt at h
  split at h
  · rename_i rows k n
    obtain ⟨h0, hn, h⟩ := h
    cases hy
    cases hx with
    | ro rows x hr =>
      cases hr with
      | empty a cap => simp at hn; omega
      | slice b off cap sz cs T' fr rows F hcap hmax hsz hS hb hfit hown hF hd hlen hr =>
        have hlt : n.toNat < rows.length := by omega
        have hrow : rows[n.toNat]? = some rows[n.toNat] := List.getElem?_eq_getElem hlt
        obtain ⟨hl, hK⟩ := h _ hrow
        have hl' := hlen _ (List.getElem_mem hlt)
        have hle : n.toNat * sz + sz ≤ rows.length * sz := by
          have := Nat.mul_le_mul_right sz (show n.toNat + 1 ≤ rows.length by omega)
          rw [Nat.add_mul, Nat.one_mul] at this
          exact this
        refine ⟨.pointer (some ⟨b, off + n.toNat * sz, none⟩), _, ?_, .rp _ b _ cs T' fr hS hb (by omega) ?_, hK⟩
        · have e : te.n = sz := by omega
          simp [Instr.indexAt, run_underlying hu, asIntOf, h0, hn, run_sizeOf' hi, hs, add_plain, e]
        · intro j d hj
          have := (hr n.toNat j _ d hrow hj).map (fun _ _ _ => rfl) (fun q hq _ => (hF _ _ _ hq).1)
          have e : off + n.toNat * sz + j = off + (n.toNat * sz + j) := by omega
          rw [e]
          exact this
  · rename_i k H sz off len ki n
    obtain ⟨h0, hn, hsz, hK⟩ := h
    cases hy
    cases hx with
    | sl k H sz off len x hx =>
      cases H with
      | none => obtain ⟨_, rfl⟩ := hx; simp at hn; omega
      | some q =>
        obtain ⟨b, o, C⟩ := q
        rcases hx with ⟨rfl, hC⟩ | ⟨rfl, _⟩
        · refine ⟨.pointer (some ⟨b, o + (off + n.toNat) * sz + 0, none⟩), _, ?_, .e k b o C sz _ 0, hK⟩
          simp [Instr.indexAt, run_underlying hu, asIntOf, h0, hn, run_sizeOf' hi, hs, add_plain, hsz, Nat.add_mul, Nat.add_assoc]
        · simp at hn; omega
  · rename_i k H sz len ki n
    obtain ⟨h0, hn, hsz, hK⟩ := h
    cases hy
    cases hx with
    | ml k H sz len x hx =>
      rcases hx with ⟨-, hx⟩ | ⟨rfl, -⟩
      · cases H with
        | none => obtain ⟨_, rfl⟩ := hx; simp at hn; omega
        | some q =>
          obtain ⟨b, o, C⟩ := q
          rcases hx with ⟨rfl, hC⟩ | ⟨rfl, _⟩
          · refine ⟨.pointer (some ⟨b, o + n.toNat * sz + 0, none⟩), _, ?_, .e k b o C sz _ 0, hK⟩
            simp [Instr.indexAt, run_underlying hu, asIntOf, h0, hn, run_sizeOf' hi, hs, add_plain, hsz]
          · simp at hn; omega
      · simp at hn; omega
  · exact h.elim

theorem fieldAt_sound {P : Program} {w : World} {M : Nat → Prop} {T f : Nat} {ti : TI} (ht : TIok P T ti) {x : AV} {u : Value} (hx : VRel w M x u) {K : AV → Prop} (h : fieldAt ti f x K) :
    ∃ r av, (Instr.fieldAt T u f).run P w = .ok r w ∧ VRel w M av r ∧ K av := by
  unfold fieldAt at h
  split at h
  · rename_i off n hf
    have hag : ti.agg = true := by
      cases hg : ti.agg with
      | true => rfl
      | false => obtain ⟨h1, -⟩ := ht.nst hg; rw [h1] at hf; simp at hf
    obtain ⟨fs, hu, hmap, hfs⟩ := ht.st hag
    obtain ⟨g, j, hg, ho, hj, hn⟩ := mapM_get _ _ hmap _ _ hf
    have hpos := (hfs _ (List.mem_of_getElem? hf)).1
    simp only [Array.getElem?_toList] at hg
    simp only at ho hn hpos
    have hrun : ∀ b o, (Instr.fieldAt T (.pointer (some ⟨b, o, none⟩)) f).run P w = .ok (.pointer (some ⟨b, o + off, none⟩)) w := by
      intro b o
      simp [Instr.fieldAt, run_underlying hu, hg, Instr.sureAddr, fieldPlace, run_sizeOf' hj, hn, ho, add_plain]
      omega
    split at h
    · cases hx; exact ⟨_, _, hrun _ _, .p _ _ _, h⟩
    · cases hx with
      | e k b o C sz r c =>
        exact ⟨_, _, hrun _ _, by rw [Nat.add_assoc]; exact .e _ _ _ _ _ _ _, h⟩
    · cases hx with
      | rp row b o cs T' fr hM hb hfit hr =>
        obtain ⟨hle, hK⟩ := h
        refine ⟨_, _, hrun _ _, .rp _ b _ cs T' fr hM hb (by simp only [List.length_drop]; omega) ?_, hK⟩
        intro j d hj
        rw [List.getElem?_drop] at hj
        rw [Nat.add_assoc]
        exact hr _ _ hj
    · exact h.elim
  · exact h.elim

theorem run_eqGuard {P : Program} {w : World} (op : BinOp) (T : TypeId) (x y : Operand) {a b : Value} (ha : plain a = true) : (eqGuard op T x y a b).run P w = .ok () w := by
  unfold eqGuard
  cases a <;> simp [plain] at ha <;> (repeat' split) <;> simp_all

theorem aBin_sound {E : Env} (hE : EOk E) {w : World} {M : Nat → Prop} {op : BinOp} {T : Nat} {x y : Value} {K : AV → Prop} (h : aBin (E.isBool T) op x y K) :
    ∃ r av, (binOp op T x y).run E.P w = .ok r w ∧ VRel w M av r ∧ K av := by
  unfold aBin at h
  have hB : E.isBool T → E.P.underlying T = some .bool := by
    intro hb
    unfold Env.isBool at hb
    split at hb
    · rename_i ti hti; exact (hE _ _ hti).boo hb
    · exact hb.elim
  split at h
  all_goals first
    | exact h.elim
    | (obtain ⟨rfl, h⟩ := h; refine ⟨_, _, ?_, .v _ rfl, h⟩; simp [binOp, Op.intArith, Op.intBits, Op.intCmp, bits]; done)
    | (obtain ⟨rfl, h⟩ := h; refine ⟨_, _, ?_, .v _ rfl, h⟩; simp [binOp, Op.intCmp]; rfl)
    | (obtain ⟨rfl, h0, h⟩ := h; refine ⟨_, _, ?_, .v _ rfl, h⟩; simp [binOp, Op.intDiv, h0]; done)
    | (obtain ⟨h0, h1, h⟩ := h; refine ⟨_, _, ?_, .v _ rfl, h⟩; simp only [binOp]; rw [shift_shl _ _ _ _ h0 h1]; rfl)
    | (obtain ⟨h0, h1, h⟩ := h; refine ⟨_, _, ?_, .v _ rfl, h⟩; simp only [binOp]; rw [shift_shr _ _ _ _ h0 h1]; rfl)
    | (obtain ⟨hb, h⟩ := h; refine ⟨_, _, ?_, .v _ rfl, h⟩; exact run_eql_bool _ _ _ _ (hB hb))
    | (obtain ⟨hb, h⟩ := h; refine ⟨_, _, ?_, .v _ rfl, h⟩; exact run_neq_bool _ _ _ _ (hB hb))
    | (refine ⟨_, _, ?_, .v _ rfl, h⟩; simp [binOp, Op.stringOp]; done)
    | (rename_i a b; obtain ⟨hs, h⟩ := h; refine ⟨_, _, ?_, .v _ rfl, h⟩
       simp [binOp, Op.stringOp]
       omega)


theorem ev_list {w0 : World} {base : Bs} {st : ASt} {a : Act} {w : World} (hR : Rep w0 base st a w) (l : List Operand) (xs : Array Value) (hx : xs = (l.map a.eval).toArray) :
    ∀ i av, (l.map st.ev)[i]? = some av → VRel w st.h.M av (xs.getD i undef) := by
  intro i av hi
  subst hx
  simp only [List.getElem?_map, Option.map_eq_some_iff] at hi
  obtain ⟨x, hx, rfl⟩ := hi
  have : (l.map a.eval).toArray.getD i undef = a.eval x := by simp [hx]
  rw [this]
  exact VRel.ev hR x


/-- the cells of a value and of its abstract value -/
theorem cells_rel {w : World} {M : Nat → Prop} {av : AV} {u : Value} (h : VRel w M av u) (h1 : av.cells.all AV.one = true) :
    u.cells.size = av.cells.length ∧ ∀ (j : Nat) (a : AV), av.cells[j]? = some a → VRel w M a (u.cells.getD j undef) := by
  cases h with
  | agg l xs hs hl => exact ⟨hs, hl⟩
  | any x => simp [AV.cells, AV.one] at h1
  | un => simp [AV.cells, AV.one] at h1
  | tup l xs hs hl => simp [AV.cells, AV.one] at h1
  | nil => exact ⟨rfl, fun j a hj => by rcases j with _ | j <;> simp [AV.cells] at hj; subst hj; exact .nil⟩
  | v u hp =>
    have e : u.cells = #[u] := by cases u <;> simp [plain] at hp <;> rfl
    rw [e]
    exact ⟨rfl, fun j a hj => by rcases j with _ | j <;> simp [AV.cells] at hj; subst hj; exact .v _ hp⟩
  | ro rows x hr =>
    have e : u.cells = #[u] := by cases hr <;> rfl
    rw [e]
    exact ⟨rfl, fun j a hj => by rcases j with _ | j <;> simp [AV.cells] at hj; subst hj; exact .ro _ _ hr⟩
  | sl k H sz off len x hx =>
    have e : u.cells = #[u] := by
      cases H with
      | none => obtain ⟨⟨a, rfl⟩, _⟩ := hx; rfl
      | some q =>
        obtain ⟨b, o, C⟩ := q
        rcases hx with ⟨rfl, _⟩ | ⟨_, _, a, rfl⟩ <;> rfl
    rw [e]
    exact ⟨rfl, fun j a hj => by rcases j with _ | j <;> simp [AV.cells] at hj; subst hj; exact .sl _ _ _ _ _ _ hx⟩
  | cv u len h =>
    have e : u.cells = #[u] := by obtain ⟨a, c, rfl⟩ := h; rfl
    rw [e]
    exact ⟨rfl, fun j a hj => by rcases j with _ | j <;> simp [AV.cells] at hj; subst hj; exact .cv _ _ h⟩
  | ml k H sz len x h =>
    have e : u.cells = #[u] := by obtain ⟨a, c, rfl⟩ := h.slice; rfl
    rw [e]
    exact ⟨rfl, fun j a hj => by rcases j with _ | j <;> simp [AV.cells] at hj; subst hj; exact .ml _ _ _ _ _ h⟩
  | p k b c => exact ⟨rfl, fun j a hj => by rcases j with _ | j <;> simp [AV.cells] at hj; subst hj; exact .p _ _ _⟩
  | e k b o C sz r c => exact ⟨rfl, fun j a hj => by rcases j with _ | j <;> simp [AV.cells] at hj; subst hj; exact .e _ _ _ _ _ _ _⟩
  | rp row b o cs T fr hM hb hfit hr => exact ⟨rfl, fun j a hj => by rcases j with _ | j <;> simp [AV.cells] at hj; subst hj; exact .rp _ _ _ _ _ _ hM hb hfit hr⟩
  | clo f l xs hs hl => exact ⟨rfl, fun j a hj => by rcases j with _ | j <;> simp [AV.cells] at hj; subst hj; exact .clo _ _ _ hs hl⟩

theorem oneCell_rel {w : World} {M : Nat → Prop} {av : AV} {u : Value} (h : VRel w M av u) (h1 : av.one = true) : u.oneCell' = true := by
  cases h with
  | any x => simp [AV.one] at h1
  | un => simp [AV.one] at h1
  | tup => simp [AV.one] at h1
  | agg => simp [AV.one] at h1
  | v u hp => exact plain_one hp
  | ro rows x hr => cases hr <;> rfl
  | cv u len h => obtain ⟨a, c, rfl⟩ := h; rfl
  | ml k H sz len x h => obtain ⟨a, c, rfl⟩ := h.slice; rfl
  | sl k H sz off len x hx =>
    cases H with
    | none => obtain ⟨⟨a, rfl⟩, _⟩ := hx; rfl
    | some q =>
      obtain ⟨b, o, C⟩ := q
      rcases hx with ⟨rfl, _⟩ | ⟨_, _, a, rfl⟩ <;> rfl
  | _ => rfl

theorem putL_length {α : Type} : ∀ (l : List α) (c : Nat) (vs : List α), c + vs.length ≤ l.length → (putL l c vs).length = l.length
  | l, _, [], _ => by cases l <;> simp [putL]
  | [], _, _ :: _, h => by simp at h
  | _ :: l, 0, v :: vs, h => by simp only [putL, List.length_cons]; rw [putL_length l 0 vs (by simp at h; omega)]
  | _ :: l, c + 1, v :: vs, h => by simp only [putL, List.length_cons]; rw [putL_length l c (v :: vs) (by simp at h ⊢; omega)]

theorem putL_get {α : Type} : ∀ (l : List α) (c : Nat) (vs : List α), c + vs.length ≤ l.length → ∀ j, (putL l c vs)[j]? = if c ≤ j ∧ j < c + vs.length then vs[j - c]? else l[j]?
  | l, c, [], _, j => by
    have : ¬ (c ≤ j ∧ j < c + ([] : List α).length) := by simp
    rw [if_neg this]; cases l <;> simp [putL]
  | [], _, _ :: _, h, _ => by simp at h
  | x :: l, 0, v :: vs, h, j => by
    simp only [putL]
    cases j with
    | zero => simp
    | succ j =>
      have := putL_get l 0 vs (by simp at h; omega) j
      simp only [List.getElem?_cons_succ, this]
      simp
  | x :: l, c + 1, v :: vs, h, j => by
    simp only [putL]
    cases j with
    | zero => simp
    | succ j =>
      have := putL_get l c (v :: vs) (by simp at h ⊢; omega) j
      simp only [List.getElem?_cons_succ, this]
      have e : j + 1 - (c + 1) = j - c := by omega
      rw [e]
      by_cases hh : c ≤ j ∧ j < c + (v :: vs).length
      · rw [if_pos hh, if_pos (by simp at hh ⊢; omega)]
      · rw [if_neg hh, if_neg (by simp at hh ⊢; omega)]

theorem putA_list (c : Nat) : ∀ (l : List Value) (k : Nat) (cs : Array Value), c + k + l.length ≤ cs.size →
    ((l.zipIdx k).foldl (fun (cs : Array Value) (p : Value × Nat) => cs.setIfInBounds (c + p.2) p.1) cs).size = cs.size ∧
    ∀ j, ((l.zipIdx k).foldl (fun (cs : Array Value) (p : Value × Nat) => cs.setIfInBounds (c + p.2) p.1) cs).getD j undef = if c + k ≤ j ∧ j < c + k + l.length then l.getD (j - (c + k)) undef else cs.getD j undef
  | [], k, cs, _ => by
    refine ⟨rfl, fun j => ?_⟩
    rw [if_neg (by simp)]; rfl
  | x :: l, k, cs, h => by
    simp only [List.zipIdx_cons, List.foldl_cons]
    obtain ⟨h1, h2⟩ := putA_list c l (k + 1) (cs.setIfInBounds (c + k) x) (by simp at h ⊢; omega)
    refine ⟨by simpa using h1, fun j => ?_⟩
    rw [h2 j]
    by_cases hj : c + (k + 1) ≤ j ∧ j < c + (k + 1) + l.length
    · rw [if_pos hj, if_pos (by simp; omega)]
      have e : j - (c + k) = (j - (c + (k + 1))) + 1 := by omega
      rw [e]; rfl
    · rw [if_neg hj]
      by_cases he : j = c + k
      · subst he
        simp at h
        rw [if_pos (by simp)]
        simp
        omega
      · rw [if_neg (by simp; omega)]
        simp [Array.getElem?_setIfInBounds, Ne.symm he]

theorem fill_eq (place : Nat → Option (Nat × Nat)) (cells : Array Value) (i : Nat) (v : Value) (rest : List (Nat × Value)) (off n : Nat) (hp : place i = some (off, n)) (hs : v.cells.size = n) (hf : off + n ≤ cells.size) :
    Instr.fill place cells ((i, v) :: rest) = Instr.fill place (v.cells.zipIdx.foldl (fun cs (c, j) => cs.setIfInBounds (off + j) c) cells) rest := by
  simp [Instr.fill, hp, hs]
  intro h
  omega

theorem zipIdx_foldl (v : Array Value) (off : Nat) (cells : Array Value) :
    v.zipIdx.foldl (fun cs (c, j) => cs.setIfInBounds (off + j) c) cells = (v.toList.zipIdx 0).foldl (fun (cs : Array Value) (p : Value × Nat) => cs.setIfInBounds (off + p.2) p.1) cells := by
  rw [← Array.foldl_toList]
  simp

/-- parts are filled into cells, on both sides -/
theorem fill_sound {w : World} {M : Nat → Prop} (place : Nat → Option (Nat × Nat)) (fields : List (Nat × Nat)) (hpl : ∀ i off n, fields[i]? = some (off, n) → place i = some (off, n)) {K : List AV → Prop} :
    ∀ (parts : List (Nat × AV)) (vparts : List (Nat × Value)) (acells : List AV) (cells : Array Value), vparts.length = parts.length →
    (∀ (i : Nat) (p : Nat × AV), parts[i]? = some p → ∃ v, vparts[i]? = some (p.1, v) ∧ VRel w M p.2 v) →
    cells.size = acells.length → (∀ (j : Nat) (a : AV), acells[j]? = some a → VRel w M a (cells.getD j undef)) → fillA fields acells parts K →
    ∃ l cs, Instr.fill place cells vparts = some cs ∧ cs.size = l.length ∧ (∀ (j : Nat) (a : AV), l[j]? = some a → VRel w M a (cs.getD j undef)) ∧ K l
  | [], vparts, acells, cells, hl, _, hs, hc, h => by
    have : vparts = [] := List.eq_nil_of_length_eq_zero (by simpa using hl)
    subst this
    exact ⟨acells, cells, rfl, hs, hc, h⟩
  | (i, av) :: rest, vparts, acells, cells, hl, hp, hs, hc, h => by
    cases vparts with
    | nil => simp at hl
    | cons q vrest =>
      unfold fillA at h
      split at h
      · rename_i off n hf
        obtain ⟨hn, hfit, hone, h⟩ := h
        obtain ⟨v, hv, hr⟩ := hp 0 _ rfl
        simp only [List.getElem?_cons_zero, Option.some.injEq] at hv
        subst hv
        obtain ⟨hcs, hcr⟩ := cells_rel hr hone
        have hsize : v.cells.size = n := by rw [hcs, hn]
        obtain ⟨g1, g2⟩ := putA_list off v.cells.toList 0 cells (by simp; omega)
        have := fill_sound place fields hpl rest vrest (putL acells off av.cells) (v.cells.zipIdx.foldl (fun cs (c, j) => cs.setIfInBounds (off + j) c) cells) (by simpa using hl)
          (fun i p hi => hp (i + 1) p (by simpa using hi)) ?_ ?_ h
        · obtain ⟨l, cs, h1, h2⟩ := this
          exact ⟨l, cs, by rw [fill_eq place cells i v vrest off n (hpl _ _ _ hf) hsize (by omega)]; exact h1, h2⟩
        · rw [zipIdx_foldl, g1, putL_length _ _ _ (by omega), hs]
        · intro j a hj
          rw [putL_get _ _ _ (by omega)] at hj
          rw [zipIdx_foldl, g2 j]
          by_cases hh : off ≤ j ∧ j < off + av.cells.length
          · rw [if_pos hh] at hj
            rw [if_pos (by simp; omega)]
            have := hcr _ _ hj
            simpa using this
          · rw [if_neg hh] at hj
            rw [if_neg (by simp; omega)]
            exact hc j a hj
      · exact h.elim


theorem aBuild_sound {E : Env} (hE : EOk E) {w : World} {M : Nat → Prop} {T : Nat} {parts : List (Nat × AV)} {vparts : Array (Nat × Value)} (hl : vparts.toList.length = parts.length)
    (hp : ∀ (i : Nat) (p : Nat × AV), parts[i]? = some p → ∃ v, vparts.toList[i]? = some (p.1, v) ∧ VRel w M p.2 v) {K : AV → Prop} (h : aBuild E T parts K) :
    ∃ r av, (Instr.build T vparts).run E.P w = .ok r w ∧ VRel w M av r ∧ K av := by
  unfold aBuild at h
  split at h
  · rename_i ti hti
    obtain ⟨hag, h⟩ := h
    have ht := hE _ _ hti
    obtain ⟨fs, hu, hmap, -⟩ := ht.st hag
    obtain ⟨i, z, hi, hs, hb, hz, hzc, -⟩ := ht.info
    have hsz : z.cells.size = ti.zero.length := by
      have := congrArg List.length hzc
      simpa using this
    obtain ⟨l, cs, h1, h2, h3, h4⟩ := fill_sound (w := w) (M := M) (ti.fields.toArray[·]?) ti.fields (by simp) parts vparts.toList ti.zero z.cells hl hp hsz (fun j a hj => by
      have e : z.cells.getD j undef = zv a := by
        have := congrArg (fun l : List Value => l[j]?) hzc
        simp only [Array.getElem?_toList, List.getElem?_map, hj, Option.map_some] at this
        simp [this]
      rw [e]
      rcases ht.zok a (List.mem_of_getElem? hj) with rfl | ⟨u, rfl, hp⟩
      · exact .nil
      · exact .v _ hp) h
    refine ⟨.agg cs, .agg l, run_build w T vparts cs ?_, .agg _ _ h2 h3, h4⟩
    unfold Program.built
    simp only [hi, hu, hz, hmap]
    exact h1
  · exact h.elim

theorem cut_eq {α : Type} (rows : List α) (off len : Nat) : cut rows off len = (rows.drop off).take len := by
  unfold cut
  split
  · rename_i h
    obtain ⟨rfl, rfl⟩ := h
    simp
  · rfl

theorem cut_get {α : Type} (rows : List α) (off len i : Nat) : (cut rows off len)[i]? = if i < len then rows[off + i]? else none := by
  rw [cut_eq, List.getElem?_take]
  split
  · rw [List.getElem?_drop]
  · rfl

theorem cut_length {α : Type} (rows : List α) (off len : Nat) (h : off + len ≤ rows.length) : (cut rows off len).length = len := by
  rw [cut_eq, List.length_take, List.length_drop]
  omega

/-- a part of a slice reads as a part of its rows -/
theorem Rd.cut {w : World} {S : Nat → Prop} {b off cap : Nat} {n : Nat} {rows : List (List CD)} {u : Value} {l h sz : Nat} (hu : u = .slice (some ⟨b, off, none⟩) n cap) (hr : Rd w false S u (.s rows)) (hlh : l ≤ h) (hh : h ≤ rows.length)
    (hrl : ∀ row ∈ rows, row.length = sz) (a : Option Addr) (ha : h - l ≠ 0 → a = some ⟨b, off + l * sz, none⟩) : Rd w false S (.slice a (h - l) (cap - l)) (.s (cut rows l (h - l))) := by
  by_cases hz : h - l = 0
  · rw [hz]
    have : AM.cut rows l 0 = [] := List.eq_nil_of_length_eq_zero (cut_length _ _ _ (by omega))
    rw [this]
    exact .empty _ _ (by intro h; cases h)
  · have ha := ha hz
    cases hr with
    | empty a' c => simp at hh; omega
    | slice b' off' cap' sz' cs T fr rows F hcap hmax hsz hS hb hfit hown hF hd hlen hr =>
      cases hu
      subst ha
      have hrow := hlen _ (List.getElem_mem (show l < rows.length by omega))
      have hrow' := hrl _ (List.getElem_mem (show l < rows.length by omega))
      have e : sz' = sz := by omega
      subst e
      have hcl : (AM.cut rows l (h - l)).length = h - l := cut_length _ _ _ (by omega)
      have := Rd.slice (w := w) (x := false) (S := S) b (off + l * sz') (cap - l) sz' cs T fr (AM.cut rows l (h - l)) (fun i j c => F (l + i) j c) (by omega) (by omega) hsz hS hb ?_ (by intro h; cases h)
        (fun i j c hc => ⟨(hF _ _ _ hc).1, (by intro h; cases h)⟩) (by intro h; cases h) ?_ ?_
      · rw [hcl] at this; exact this
      · have := Nat.mul_le_mul_right sz' (show l + (h - l) ≤ rows.length by omega)
        rw [Nat.add_mul] at this
        rw [hcl]
        omega
      · intro row hm
        obtain ⟨i, hi⟩ := List.getElem?_of_mem hm
        rw [cut_get] at hi
        split at hi
        · exact hlen _ (List.mem_of_getElem? hi)
        · simp at hi
      · intro i j row d hi hj
        rw [cut_get] at hi
        split at hi
        · have := hr (l + i) j row d hi hj
          have e : off + l * sz' + (i * sz' + j) = off + ((l + i) * sz' + j) := by rw [Nat.add_mul]; omega
          rw [e]
          exact this
        · simp at hi

theorem bound_sound {P : Program} {w : World} {M : Nat → Prop} {x : Option AV} {v : Option Value} (hn : x = none → v = none) (hx : ∀ a, x = some a → ∃ u, v = some u ∧ VRel w M a u) {z : Nat} {K : Nat → Prop} (h : bound x z K) :
    (v = none ∧ K z) ∨ ∃ k n, v = some (.int k n) ∧ 0 ≤ n ∧ K n.toNat := by
  unfold bound at h
  split at h
  · exact .inl ⟨hn rfl, h⟩
  · obtain ⟨u, hu, hr⟩ := hx _ rfl
    cases hr
    exact .inr ⟨_, _, hu, h⟩
  · exact h.elim

end Go.AM
