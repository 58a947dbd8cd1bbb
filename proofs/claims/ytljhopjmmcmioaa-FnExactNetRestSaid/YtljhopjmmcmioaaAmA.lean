/-
  The data of the abstract machine: what a value reads as, read-only or owned, and how that is kept while the world moves on.
-/
import Derived.WalkKit
import Derived.Laws.CopyRow
namespace Go.AM
open Go.RowKit

/-- what one cell holds, to the bottom: a plain value, or a slice by its rows of cells -/
inductive CD where
  | v (u : Value)
  | s (rows : List (List CD))
  | h (k : Nat) (H : Option (Nat × Nat × Nat)) (sz len : Nat)
  deriving Inhabited

/-- a value without memory behind it -/
def plain : Value → Bool
  | .bool _ | .int _ _ | .string _ => true
  | .func (.func _) f c => f.size == 0 && c.size == 0
  | _ => false

/-- the handle of a slice: its block, the place of its first cell, its capacity in rows; none: the nil slice -/
abbrev Hd := Option (Nat × Nat × Nat)

def SlV : Hd → (sz off len : Nat) → Value → Prop
  | none, _, _, len, x => (∃ a, x = .slice a 0 0) ∧ len = 0
  | some (b, o, C), sz, off, len, x => (x = .slice (some ⟨b, o + off * sz, none⟩) len (C - off) ∧ off + len ≤ C) ∨ (len = 0 ∧ 0 < off ∧ ∃ a, x = .slice a 0 0)

/-- a slice with a handle of its own, or an empty one -/
def MlV (H : Hd) (sz len : Nat) (x : Value) : Prop := (0 < len ∧ SlV H sz 0 len x) ∨ (len = 0 ∧ ∃ a c, x = .slice a 0 c)

theorem MlV.slice {H : Hd} {sz len : Nat} {x : Value} (h : MlV H sz len x) : ∃ a c, x = .slice a len c := by
  rcases h with ⟨hp, hs⟩ | ⟨rfl, a, c, rfl⟩
  · cases H with
    | none => obtain ⟨_, rfl⟩ := hs; omega
    | some q =>
      obtain ⟨b, o, C⟩ := q
      rcases hs with ⟨rfl, _⟩ | ⟨rfl, _⟩
      · exact ⟨_, _, rfl⟩
      · omega
  · exact ⟨a, c, rfl⟩

/-- the value reads as the datum, through blocks of S alone; where x is true no block is met twice -/
inductive Rd (w : World) (x : Bool) : (Nat → Prop) → Value → CD → Prop
  | plain {S : Nat → Prop} {u : Value} (h : plain u = true) : Rd w x S u (.v u)
  | h {S : Nat → Prop} (k : Nat) (H : Hd) (sz len : Nat) (u : Value) (h : 0 < len → SlV H sz 0 len u) (he : len = 0 → Rd w x S u (.s [])) : Rd w x S u (.h k H sz len)
  | empty {S : Nat → Prop} (a : Option Addr) (cap : Nat) (h : x = true → cap = 0) : Rd w x S (.slice a 0 cap) (.s [])
  | slice {S : Nat → Prop} (b off cap sz : Nat) (cs : Array Value) (T : TypeId) (fr : Nat × Nat) (rows : List (List CD)) (F : Nat → Nat → Nat → Prop)
      (hcap : rows.length ≤ cap) (hmax : cap ≤ maxLen) (hsz : 0 < sz) (hS : S b) (hb : w.heap[b]? = some (.cells cs T fr)) (hfit : off + rows.length * sz ≤ cs.size)
      (hown : x = true → fr = (0, 0) ∧ off + cap * sz ≤ cs.size)
      (hF : ∀ i j c, F i j c → S c ∧ (x = true → c ≠ b))
      (hd : x = true → ∀ i j i' j' c, F i j c → F i' j' c → i = i' ∧ j = j')
      (hlen : ∀ row ∈ rows, row.length = sz)
      (hr : ∀ i j row d, rows[i]? = some row → row[j]? = some d → Rd w x (F i j) (cs.getD (off + (i * sz + j)) undef) d) :
      Rd w x S (.slice (some ⟨b, off, none⟩) rows.length cap) (.s rows)

theorem Rd.empty_slice {w : World} {x : Bool} {S : Nat → Prop} {u : Value} (h : Rd w x S u (.s [])) : ∃ a c, u = .slice a 0 c := by
  cases h with
  | empty a cap h => exact ⟨a, cap, rfl⟩
  | slice b off cap => exact ⟨_, cap, rfl⟩

theorem Rd.mlv {w : World} {x : Bool} {S : Nat → Prop} {u : Value} {k : Nat} {H : Hd} {sz len : Nat} (h : Rd w x S u (.h k H sz len)) : MlV H sz len u := by
  cases h with
  | h _ _ _ _ _ h he =>
    rcases Nat.eq_zero_or_pos len with h0 | h0
    · exact .inr ⟨h0, (he h0).empty_slice⟩
    · exact .inl ⟨h0, h h0⟩

theorem lt_of_heap {w : World} {b : Nat} {o : Obj} (h : w.heap[b]? = some o) : b < w.heap.size := by
  rcases Nat.lt_or_ge b w.heap.size with h' | h'
  · exact h'
  · simp [Array.getElem?_eq_none h'] at h

theorem Rd.map {w w' : World} {x : Bool} {S S' : Nat → Prop} {u : Value} {d : CD} (h : Rd w x S u d)
    (hw : ∀ b, S b → b < w.heap.size → w'.heap[b]? = w.heap[b]?) (hS : ∀ b, S b → b < w.heap.size → S' b) : Rd w' x S' u d := by
  induction h generalizing S' with
  | plain h => exact .plain h
  | h k H sz len u h he ih => exact .h k H sz len u h (fun h0 => ih h0 hw hS)
  | empty a cap h => exact .empty a cap h
  | slice b off cap sz cs T fr rows F hcap hmax hsz hSb hb hfit hown hF hd hlen hr ih =>
    have hlt := lt_of_heap hb
    refine .slice b off cap sz cs T fr rows (fun i j c => F i j c ∧ c < w.heap.size) hcap hmax hsz (hS b hSb hlt) ((hw b hSb hlt).trans hb) hfit hown ?_ ?_ hlen ?_
    · rintro i j c ⟨hc, hl⟩
      exact ⟨hS c (hF i j c hc).1 hl, (hF i j c hc).2⟩
    · rintro hx i j i' j' c ⟨hc, _⟩ ⟨hc', _⟩
      exact hd hx i j i' j' c hc hc'
    · intro i j row d h1 h2
      exact ih i j row d h1 h2 (fun c hc hl => hw c (hF i j c hc).1 hl) (fun c hc hl => ⟨hc, hl⟩)

theorem Rd.weaken {w : World} {x : Bool} {S : Nat → Prop} {u : Value} {d : CD} (h : Rd w x S u d) : Rd w false S u d := by
  induction h with
  | plain h => exact .plain h
  | h k H sz len u h he ih => exact .h k H sz len u h ih
  | empty a cap h => exact .empty a cap (by intro h; cases h)
  | slice b off cap sz cs T fr rows F hcap hmax hsz hSb hb hfit hown hF hd hlen hr ih =>
    exact .slice b off cap sz cs T fr rows F hcap hmax hsz hSb hb hfit (by intro h; cases h) (fun i j c hc => ⟨(hF i j c hc).1, (by intro h; cases h)⟩) (by intro h; cases h) hlen ih

/-- every block that is met exists -/
theorem Rd.within {w : World} {x : Bool} {S : Nat → Prop} {u : Value} {d : CD} (h : Rd w x S u d) : Rd w x (fun b => S b ∧ b < w.heap.size) u d :=
  h.map (fun _ _ _ => rfl) (fun _ hs hl => ⟨hs, hl⟩)

inductive AV where
  | any | un | nil
  | v (u : Value)
  | ro (rows : List (List CD))
  | sl (k : Nat) (H : Hd) (sz off len : Nat)
  | p (k b c : Nat)
  | e (k : Nat) (H : Hd) (sz r c : Nat)
  | rp (row : List CD)
  | agg (l : List AV)
  | tup (l : List AV)
  | clo (f : Nat) (l : List AV)
  | cv (u : Value) (len : Nat)
  | ml (k : Nat) (H : Hd) (sz len : Nat)
  deriving Inhabited

/-- the abstract value and the value; M: the blocks that may still be written -/
inductive VRel (w : World) (M : Nat → Prop) : AV → Value → Prop
  | any (x : Value) : VRel w M .any x
  | un : VRel w M .un undef
  | nil : VRel w M .nil (.slice none 0 0)
  | v (u : Value) (h : plain u = true) : VRel w M (.v u) u
  | ro (rows : List (List CD)) (x : Value) (h : Rd w false (fun b => ¬ M b) x (.s rows)) : VRel w M (.ro rows) x
  | sl (k : Nat) (H : Hd) (sz off len : Nat) (x : Value) (h : SlV H sz off len x) : VRel w M (.sl k H sz off len) x
  | cv (u : Value) (len : Nat) (h : ∃ a c, u = .slice a len c) : VRel w M (.cv u len) u
  | ml (k : Nat) (H : Hd) (sz len : Nat) (x : Value) (h : MlV H sz len x) : VRel w M (.ml k H sz len) x
  | p (k b c : Nat) : VRel w M (.p k b c) (.pointer (some ⟨b, c, none⟩))
  | e (k b o C sz r c : Nat) : VRel w M (.e k (some (b, o, C)) sz r c) (.pointer (some ⟨b, o + r * sz + c, none⟩))
  | rp (row : List CD) (b o : Nat) (cs : Array Value) (T : TypeId) (fr : Nat × Nat) (hM : ¬ M b) (hb : w.heap[b]? = some (.cells cs T fr)) (hfit : o + row.length ≤ cs.size)
      (hr : ∀ j d, row[j]? = some d → Rd w false (fun b => ¬ M b) (cs.getD (o + j) undef) d) : VRel w M (.rp row) (.pointer (some ⟨b, o, none⟩))
  | agg (l : List AV) (xs : Array Value) (hs : xs.size = l.length) (h : ∀ i av, l[i]? = some av → VRel w M av (xs.getD i undef)) : VRel w M (.agg l) (.agg xs)
  | tup (l : List AV) (xs : Array Value) (hs : xs.size = l.length) (h : ∀ i av, l[i]? = some av → VRel w M av (xs.getD i undef)) : VRel w M (.tup l) (.tuple xs)
  | clo (f : Nat) (l : List AV) (xs : Array Value) (hs : xs.size = l.length) (h : ∀ i av, l[i]? = some av → VRel w M av (xs.getD i undef)) : VRel w M (.clo f l) (.func (.func f) #[] xs)

/-- the world moves on: what may not be written stays, what was not to be written before is not to be written now -/
structure Tr (M : Nat → Prop) (w : World) (M' : Nat → Prop) (w' : World) : Prop where
  size : w.heap.size ≤ w'.heap.size
  frame : ∀ b, b < w.heap.size → ¬ M b → w'.heap[b]? = w.heap[b]?
  mono : ∀ b, b < w.heap.size → M' b → M b

theorem Tr.refl (M : Nat → Prop) (w : World) : Tr M w M w := ⟨Nat.le_refl _, fun _ _ _ => rfl, fun _ _ h => h⟩

theorem Tr.trans {M M' M'' : Nat → Prop} {w w' w'' : World} (h : Tr M w M' w') (k : Tr M' w' M'' w'') : Tr M w M'' w'' :=
  ⟨Nat.le_trans h.size k.size, fun b hb hM => (k.frame b (Nat.lt_of_lt_of_le hb h.size) (fun h' => hM (h.mono b hb h'))).trans (h.frame b hb hM),
    fun b hb hM => h.mono b hb (k.mono b (Nat.lt_of_lt_of_le hb h.size) hM)⟩

theorem Rd.tr {M M' : Nat → Prop} {w w' : World} {x : Bool} {u : Value} {d : CD} (h : Rd w x (fun b => ¬ M b) u d) (t : Tr M w M' w') : Rd w' x (fun b => ¬ M' b) u d :=
  h.map (fun b hb hl => t.frame b hl hb) (fun b hb hl hM => hb (t.mono b hl hM))

theorem VRel.tr {M M' : Nat → Prop} {w w' : World} {av : AV} {x : Value} (h : VRel w M av x) (t : Tr M w M' w') : VRel w' M' av x := by
  induction h with
  | any x => exact .any x
  | un => exact .un
  | nil => exact .nil
  | v u h => exact .v u h
  | ro rows x h => exact .ro rows x (h.tr t)
  | sl k H sz off len x h => exact .sl k H sz off len x h
  | cv u len h => exact .cv u len h
  | ml k H sz len x h => exact .ml k H sz len x h
  | p k b c => exact .p k b c
  | e k b o C sz r c => exact .e k b o C sz r c
  | rp row b o cs T fr hM hb hfit hr =>
    have hlt := lt_of_heap hb
    exact .rp row b o cs T fr (fun h => hM (t.mono b hlt h)) ((t.frame b hlt hM).trans hb) hfit (fun j d hj => (hr j d hj).tr t)
  | agg l xs hs _ ih => exact .agg l xs hs ih
  | tup l xs hs _ ih => exact .tup l xs hs ih
  | clo f l xs hs _ ih => exact .clo f l xs hs ih

inductive AObj where
  | dead
  | vars (b : Nat) (T : TypeId) (cells : List AV)
  | rows (H : Hd) (sz : Nat) (rows : List (List CD)) (own : Bool)
  deriving Inhabited

def AObj.blk : AObj → Option Nat
  | .dead => none
  | .vars b _ _ => some b
  | .rows (some (b, _, _)) _ _ _ => some b
  | .rows none _ _ _ => none

abbrev AH := List (Nat × AObj)

def AH.get : AH → Nat → AObj
  | [], _ => .dead
  | (k, o) :: h, j => if j = k then o else AH.get h j

def AH.M (h : AH) (b : Nat) : Prop := ∃ k, (h.get k).blk = some b

def ObjRel (w : World) (M E : Nat → Prop) : AObj → Prop
  | .dead => True
  | .vars b T cells => ∃ cs, w.heap[b]? = some (.cells cs T (0, 0)) ∧ cs.size = cells.length ∧ ∀ j av, cells[j]? = some av → VRel w M av (cs.getD j undef)
  | .rows none _ rows _ => rows = []
  | .rows (some (b, o, C)) sz rows own => ∃ (cs : Array Value) (T : TypeId) (F : Nat → Nat → Nat → Prop), w.heap[b]? = some (.cells cs T (0, 0)) ∧ rows.length ≤ C ∧ C ≤ maxLen ∧ 0 < sz ∧ o + C * sz ≤ cs.size ∧
      (∀ row ∈ rows, row.length = sz) ∧ (∀ i j c, F i j c → (own = true → E c) ∧ ¬ M c) ∧ (own = true → ∀ i j i' j' c, F i j c → F i' j' c → i = i' ∧ j = j') ∧
      (∀ i j row d, rows[i]? = some row → row[j]? = some d → Rd w own (F i j) (cs.getD (o + (i * sz + j)) undef) d)

/-- the blocks that are kept (F), the blocks that nothing owns (G); loose: calls may turn what is owned deep below -/
structure Bs where
  F : Nat → Prop
  G : Nat → Prop
  loose : Bool := false

/-- what is kept is as it was -/
structure BelowF (F : Nat → Prop) (w w' : World) : Prop where
  os : w'.os = w.os
  tape : w'.tape = w.tape
  output : w'.output = w.output
  size : w.heap.size ≤ w'.heap.size
  block : ∀ k, F k → w'.heap[k]? = w.heap[k]?

theorem BelowF.refl (F : Nat → Prop) (w : World) : BelowF F w w := ⟨rfl, rfl, rfl, Nat.le_refl _, fun _ _ => rfl⟩

theorem BelowF.trans {F : Nat → Prop} {a b c : World} (h : BelowF F a b) (k : BelowF F b c) : BelowF F a c :=
  ⟨k.os.trans h.os, k.tape.trans h.tape, k.output.trans h.output, Nat.le_trans h.size k.size, fun i hi => (k.block i hi).trans (h.block i hi)⟩

/-- the abstract heap and the world; E k: what object k owns behind its own block -/
structure HRel (base : Bs) (h : AH) (w : World) (E : Nat → Nat → Prop) : Prop where
  obj : ∀ k, ObjRel w h.M (E k) (h.get k)
  inj : ∀ k k' b, (h.get k).blk = some b → (h.get k').blk = some b → k = k'
  low : ∀ k b, (h.get k).blk = some b → ¬ base.F b ∧ ¬ base.G b
  elow : ∀ k c, E k c → ¬ base.G c ∧ c < w.heap.size
  einj : ∀ k k' c, E k c → E k' c → k = k'
  em : ∀ k c, E k c → ¬ h.M c

structure ASt where
  n : Nat
  kb : Nat
  t : List (Nat × AV)
  h : AH

def getT : List (Nat × AV) → Nat → AV
  | [], _ => .any
  | (k, o) :: h, j => if j = k then o else getT h j

structure Rep (w0 : World) (base : Bs) (st : ASt) (a : Act) (w : World) : Prop where
  dfr : a.defers = []
  size : a.tmps.size = st.n
  tmp : ∀ i, VRel w st.h.M (getT st.t i) (a.tmps.getD i undef)
  heap : ∃ E, HRel base st.h w E
  below : BelowF base.F w0 w
  base_le : ∀ b, base.F b ∨ base.G b → b < w.heap.size

theorem HRel.lt {base : Bs} {h : AH} {w : World} {E : Nat → Nat → Prop} (H : HRel base h w E) {k b : Nat} (hk : (h.get k).blk = some b) : b < w.heap.size := by
  have := H.obj k
  revert hk this
  cases h.get k with
  | dead => intro hk; simp [AObj.blk] at hk
  | vars b' T cells =>
    rintro hk ⟨cs, hb, _⟩
    simp only [AObj.blk, Option.some.injEq] at hk
    subst hk
    exact lt_of_heap hb
  | rows H' sz rows own =>
    cases H' with
    | none => intro hk; simp [AObj.blk] at hk
    | some q =>
      obtain ⟨b', o, C⟩ := q
      rintro hk ⟨cs, T, F, hb, _⟩
      simp only [AObj.blk, Option.some.injEq] at hk
      subst hk
      exact lt_of_heap hb

/-- objects that are not touched follow the world -/
theorem ObjRel.tr {M M' E E' : Nat → Prop} {w w' : World} {o : AObj} (h : ObjRel w M E o) (t : Tr M w M' w') (hb : ∀ b, o.blk = some b → w'.heap[b]? = w.heap[b]?)
    (hE : ∀ c, E c → c < w.heap.size → E' c) : ObjRel w' M' E' o := by
  cases o with
  | dead => exact h
  | vars b T cells =>
    obtain ⟨cs, h1, h2, h3⟩ := h
    exact ⟨cs, (hb b rfl).trans h1, h2, fun j av hj => (h3 j av hj).tr t⟩
  | rows H sz rows own =>
    cases H with
    | none => exact h
    | some q =>
      obtain ⟨b, o, C⟩ := q
      obtain ⟨cs, T, F, h1, h2, h3, h4, h5, h6, h7, h8, h9⟩ := h
      refine ⟨cs, T, fun i j c => F i j c ∧ c < w.heap.size, (hb b rfl).trans h1, h2, h3, h4, h5, h6, ?_, ?_, ?_⟩
      · rintro i j c ⟨hc, hl⟩
        exact ⟨fun ho => hE c ((h7 i j c hc).1 ho) hl, fun hM => (h7 i j c hc).2 (t.mono c hl hM)⟩
      · rintro ho i j i' j' c ⟨hc, _⟩ ⟨hc', _⟩
        exact h8 ho i j i' j' c hc hc'
      · intro i j row d hi hj
        exact (h9 i j row d hi hj).map (fun c hc hl => t.frame c hl (h7 i j c hc).2) (fun c hc hl => ⟨hc, hl⟩)

theorem Rep.tmps_tr {w0 : World} {base : Bs} {st : ASt} {a : Act} {w w' : World} {M' : Nat → Prop} (h : Rep w0 base st a w) (t : Tr st.h.M w M' w') :
    ∀ i, VRel w' M' (getT st.t i) (a.tmps.getD i undef) := fun i => (h.tmp i).tr t

end Go.AM
