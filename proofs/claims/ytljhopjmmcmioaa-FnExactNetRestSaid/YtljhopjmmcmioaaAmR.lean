/-
  Regions that draw their order (third part): the law.
-/
import Derived.Test.YtljhopjmmcmioaaAmQ
namespace Go.AM
open Go.RowKit

def depOn (o : Oper) (k : Nat) : Bool := o.after.any fun e => Region.binds .any e && e.on == k

def opAt (ops : List Oper) (i : Nat) : Oper := ops.getD i default

def incr : List Nat → Bool
  | a :: b :: l => decide (a < b) && incr (b :: l)
  | _ => true

def chain (ops : List Oper) : List Nat → Bool
  | a :: b :: l => depOn (opAt ops b) a && chain ops (b :: l)
  | _ => true

/-- pre: what only computes; tail: the others, one behind the other -/
def drawOk (ops : List Oper) (pre tail : List Nat) : Bool :=
  (List.range ops.length).all (fun i => pre.contains i || tail.contains i) &&
  pre.all (fun i => decide (i < ops.length) && !tail.contains i) && tail.all (fun i => decide (i < ops.length)) && incr pre && incr tail &&
  (List.range ops.length).all (fun i => (opAt ops i).after.all fun e => !Region.binds .any e || decide (e.on < i)) &&
  (List.range ops.length).all (fun i => (List.range ops.length).all fun k => i == k || (opAt ops i).dst == none || (opAt ops i).dst != (opAt ops k).dst) &&
  pre.all (fun i => (opAt ops i).dst.isSome && (opSlots (opAt ops i) ++ gSlots ops (opAt ops i)).all fun s => (List.range ops.length).all fun k =>
    (opAt ops k).dst != some s || (if pre.contains k then depOn (opAt ops i) k else depOn (opAt ops k) i)) &&
  tail.all (fun t => (opAt ops t).guard.isNone && (opSlots (opAt ops t)).all fun s => pre.all fun k => (opAt ops k).dst != some s || depOn (opAt ops t) k) &&
  chain ops tail

abbrev PV := List (Nat × Oper × AV)

def pvT (pv : PV) : List (Nat × AV) := pv.filterMap fun p => p.2.1.dst.map fun d => (d, p.2.2)
def maskT (pv : PV) : List (Nat × AV) := pv.filterMap fun p => p.2.1.dst.map fun d => (d, AV.any)

def aPre (E : Env) (all : List Oper) (st : ASt) (pv : PV) : List (Nat × Oper) → (PV → Prop) → Prop
  | [], K => K pv
  | (i, o) :: rest, K => aStlW E all o { st with t := pvT pv ++ st.t } fun v => aPre E all st ((i, o, v) :: pv) rest K

def aTail (E : Env) (all : List Oper) (st : ASt) (pv : PV) : List Nat → List (Nat × Oper) → ASt → (ASt → Prop) → Prop
  | G, [], st2, K => K { st2 with t := pvT (pv.filter fun p => !G.contains p.1) ++ st2.t }
  | G, (_, o) :: rest, st2, K =>
    aOp E o { st2 with t := pvT (pv.filter fun p => depOn o p.1 && !G.contains p.1) ++ st2.t } fun st3 =>
      (∀ p ∈ pv.filter (fun p => !depOn o p.1 && !G.contains p.1), aStlW E all p.2.1 { st with t := pvT pv ++ st.t, h := st3.h } fun v => v = p.2.2) ∧
      aTail E all st pv ((pv.filter fun p => depOn o p.1 && !G.contains p.1).map (·.1) ++ G) rest st3 K

def aDraw (E : Env) (ops : List Oper) (pre tail : List Nat) (K : ASt → Prop) (st : ASt) : Prop :=
  aPre E ops st [] (pre.map fun i => (i, opAt ops i)) fun pv => (∀ p ∈ pv, ∀ d, p.2.1.dst = some d → d < st.n) ∧
    aTail E ops st pv [] (tail.map fun i => (i, opAt ops i)) { st with t := maskT pv ++ st.t } K

theorem getT_append {l t : List (Nat × AV)} {s : Nat} (h : ∀ p ∈ l, p.1 ≠ s) : getT (l ++ t) s = getT t s := by
  induction l with
  | nil => rfl
  | cons p l ih =>
    obtain ⟨k, v⟩ := p
    simp only [List.cons_append, getT]
    rw [if_neg (fun he => h _ (List.mem_cons_self ..) he.symm)]
    exact ih (fun p hp => h p (List.mem_cons_of_mem _ hp))

theorem getT_append_mem {l t : List (Nat × AV)} {s : Nat} {v : AV} (h : (s, v) ∈ l) (hu : ∀ p ∈ l, p.1 = s → p.2 = v) : getT (l ++ t) s = v := by
  induction l with
  | nil => simp at h
  | cons p l ih =>
    obtain ⟨k, u⟩ := p
    simp only [List.cons_append, getT]
    by_cases hk : s = k
    · rw [if_pos hk]
      exact hu _ (List.mem_cons_self ..) hk.symm
    · rw [if_neg hk]
      refine ih ?_ (fun p hp => hu p (List.mem_cons_of_mem _ hp))
      rcases List.mem_cons.1 h with h | h
      · simp at h; exact absurd h.1 hk
      · exact h

/-- what the list of the computed says is consistent -/
structure PvOk (ops : List Oper) (pre : List Nat) (pv : PV) : Prop where
  op : ∀ p ∈ pv, p.1 ∈ pre ∧ p.2.1 = opAt ops p.1
  one : ∀ p ∈ pv, ∀ q ∈ pv, p.1 = q.1 → p = q

structure DrawOk (ops : List Oper) (pre tail : List Nat) : Prop where
  all : ∀ i, i < ops.length → i ∈ pre ∨ i ∈ tail
  hpre : ∀ i ∈ pre, i < ops.length ∧ i ∉ tail
  htail : ∀ i ∈ tail, i < ops.length
  ipre : incr pre = true
  itail : incr tail = true
  back : ∀ i, i < ops.length → ∀ e ∈ (opAt ops i).after, Region.binds .any e = true → e.on < i
  dst : ∀ i, i < ops.length → ∀ k, k < ops.length → ∀ d, (opAt ops i).dst = some d → (opAt ops k).dst = some d → i = k
  has : ∀ i ∈ pre, ∃ d, (opAt ops i).dst = some d
  use : ∀ i ∈ pre, ∀ s, s ∈ opSlots (opAt ops i) ∨ s ∈ gSlots ops (opAt ops i) → ∀ k, k < ops.length → (opAt ops k).dst = some s → (k ∈ pre ∧ depOn (opAt ops i) k = true) ∨ (k ∉ pre ∧ depOn (opAt ops k) i = true)
  grd : ∀ t ∈ tail, (opAt ops t).guard = none
  tuse : ∀ t ∈ tail, ∀ s ∈ opSlots (opAt ops t), ∀ k ∈ pre, (opAt ops k).dst = some s → depOn (opAt ops t) k = true
  chn : chain ops tail = true

theorem drawOk_sound {ops : List Oper} {pre tail : List Nat} (h : drawOk ops pre tail = true) : DrawOk ops pre tail := by
  simp only [drawOk, Bool.and_eq_true, List.all_eq_true, List.mem_range, Bool.or_eq_true, decide_eq_true_eq, List.contains_iff_mem, Array.all_eq_true', Bool.not_eq_true', List.mem_append, beq_iff_eq, bne_iff_ne, Option.isSome_iff_exists] at h
  obtain ⟨⟨⟨⟨⟨⟨⟨⟨⟨h1, h2⟩, h3⟩, h4⟩, h5⟩, h6⟩, h7⟩, h8⟩, h9⟩, h10⟩ := h
  refine ⟨h1, fun i hi => ⟨(h2 i hi).1, fun ht => by have := (h2 i hi).2; simp [ht] at this⟩, h3, h4, h5, fun i hi e he hb => ?_, fun i hi k hk d hd hd' => ?_, fun i hi => (h8 i hi).1, fun i hi s hs k hk hd => ?_, fun t ht => ?_, fun t ht s hs k hk hd => ?_, h10⟩
  · rcases h6 i hi e he with h | h
    · simp [hb] at h
    · exact h
  · rcases h7 i hi k hk with (h | h) | h
    · exact h
    · rw [hd] at h; cases h
    · rw [hd, hd'] at h; exact absurd rfl h
  · rcases (h8 i hi).2 s hs k hk with h | h
    · exact absurd hd h
    · split at h
      · rename_i hp; exact .inl ⟨hp, h⟩
      · rename_i hp; exact .inr ⟨hp, h⟩
  · have := (h9 t ht).1
    cases hg : (opAt ops t).guard with
    | none => rfl
    | some g => simp [hg] at this
  · rcases (h9 t ht).2 s hs k hk with h | h
    · exact absurd hd h
    · exact h

theorem incr_lt : ∀ (l : List Nat), incr l = true → ∀ a ∈ l.head?, ∀ b ∈ l.tail, a < b
  | [], _, a, ha, _, _ => by simp at ha
  | [_], _, a, _, b, hb => by simp at hb
  | a :: b :: l, h, x, hx, y, hy => by
    simp only [incr, Bool.and_eq_true, decide_eq_true_eq] at h
    simp at hx
    subst hx
    rcases List.mem_cons.1 hy with rfl | hy
    · exact h.1
    · exact Nat.lt_trans h.1 (incr_lt (b :: l) h.2 b (by simp) y hy)

theorem incr_tail {a : Nat} {l : List Nat} (h : incr (a :: l) = true) : incr l = true := by
  cases l with
  | nil => rfl
  | cons b l => simp only [incr, Bool.and_eq_true] at h; exact h.2

theorem mem_pvT {pv : PV} {s : Nat} {v : AV} : (s, v) ∈ pvT pv ↔ ∃ p ∈ pv, p.2.1.dst = some s ∧ p.2.2 = v := by
  unfold pvT
  rw [List.mem_filterMap]
  constructor
  · rintro ⟨p, hp, h⟩
    rw [Option.map_eq_some_iff] at h
    obtain ⟨d, hd, he⟩ := h
    cases he
    exact ⟨p, hp, hd, rfl⟩
  · rintro ⟨p, hp, hd, rfl⟩
    exact ⟨p, hp, by rw [hd]; rfl⟩

section
variable {ops : List Oper} {pre tail : List Nat} (D : DrawOk ops pre tail) {pv : PV} (hpv : PvOk ops pre pv)
include D hpv

theorem pv_dst {p q : Nat × Oper × AV} (hp : p ∈ pv) (hq : q ∈ pv) {d : Nat} (h1 : p.2.1.dst = some d) (h2 : q.2.1.dst = some d) : p = q := by
  obtain ⟨a1, a2⟩ := hpv.op p hp
  obtain ⟨b1, b2⟩ := hpv.op q hq
  rw [a2] at h1; rw [b2] at h2
  exact hpv.one p hp q hq (D.dst _ (D.hpre _ a1).1 _ (D.hpre _ b1).1 d h1 h2)

theorem getT_pv {p : Nat × Oper × AV} (hp : p ∈ pv) {d : Nat} (hd : p.2.1.dst = some d) (t : List (Nat × AV)) : getT (pvT pv ++ t) d = p.2.2 := by
  refine getT_append_mem (mem_pvT.2 ⟨p, hp, hd, rfl⟩) (fun q hq he => ?_)
  obtain ⟨k, v⟩ := q
  obtain ⟨q', hq', hd', rfl⟩ := mem_pvT.1 hq
  simp only at he
  subst he
  rw [pv_dst D hpv hq' hp hd' hd]

end

theorem getT_pv_none {pv : PV} {s : Nat} (h : ∀ p ∈ pv, p.2.1.dst ≠ some s) (t : List (Nat × AV)) : getT (pvT pv ++ t) s = getT t s := by
  refine getT_append (fun q hq he => ?_)
  obtain ⟨k, v⟩ := q
  obtain ⟨p, hp, hd, -⟩ := mem_pvT.1 hq
  simp only at he
  subst he
  exact h p hp hd

/-- the first part, once for all -/
theorem aPre_spec {E : Env} {ops : List Oper} {pre tail : List Nat} (D : DrawOk ops pre tail) {st : ASt} : ∀ (l done : List Nat) (pv : PV) {K : PV → Prop}, pre = done ++ l → PvOk ops pre pv → (∀ p ∈ pv, p.1 ∈ done) → (∀ i ∈ done, ∃ p ∈ pv, p.1 = i) →
    (∀ p ∈ pv, aStlW E ops p.2.1 { st with t := pvT pv ++ st.t } fun v => v = p.2.2) → aPre E ops st pv (l.map fun i => (i, opAt ops i)) K →
    ∃ pv', K pv' ∧ PvOk ops pre pv' ∧ (∀ i ∈ pre, ∃ p ∈ pv', p.1 = i) ∧ ∀ p ∈ pv', aStlW E ops p.2.1 { st with t := pvT pv' ++ st.t } fun v => v = p.2.2
  | [], done, pv, K, he, hpv, hdone, hall, hval, h => ⟨pv, h, hpv, fun i hi => hall i (by simpa [he] using hi), hval⟩
  | i :: l, done, pv, K, he, hpv, hdone, hall, hval, h => by
    simp only [List.map_cons, aPre] at h
    obtain ⟨v, h1, h2⟩ := aStlW_det E ops _ _ _ h
    have hip : i ∈ pre := by rw [he]; simp
    have hlt : ∀ j ∈ done, j < i := by
      have hinc := D.ipre
      rw [he] at hinc
      clear h h1 h2 hval hall hdone hpv he
      induction done with
      | nil => simp
      | cons a done ih =>
        intro j hj
        rcases List.mem_cons.1 hj with rfl | hj
        · exact incr_lt _ hinc j (by simp) i (by simp)
        · exact ih (incr_tail hinc) j hj
    have hpv' : PvOk ops pre ((i, opAt ops i, v) :: pv) := by
      refine ⟨fun p hp => ?_, fun p hp q hq heq => ?_⟩
      · rcases List.mem_cons.1 hp with rfl | hp
        · exact ⟨hip, rfl⟩
        · exact hpv.op p hp
      · rcases List.mem_cons.1 hp with rfl | hp <;> rcases List.mem_cons.1 hq with rfl | hq
        · rfl
        · have := hlt _ (hdone q hq); simp only at heq; omega
        · have := hlt _ (hdone p hp); simp only at heq; omega
        · exact hpv.one p hp q hq heq
    have key : ∀ p : Nat × Oper × AV, p.1 ∈ pre → p.2.1 = opAt ops p.1 → p.1 ≤ i → aStlW E ops p.2.1 { st with t := pvT pv ++ st.t } (fun v => v = p.2.2) →
        aStlW E ops p.2.1 { st with t := pvT ((i, opAt ops i, v) :: pv) ++ st.t } (fun v => v = p.2.2) := by
      intro p hp1 hp2 hple hp
      refine aStlW_congr (st := { st with t := pvT pv ++ st.t }) (fun s hs => ?_) rfl hp
      obtain ⟨d, hd⟩ := D.has i hip
      have hne : d ≠ s := by
        rintro rfl
        rw [hp2] at hs
        rcases D.use _ hp1 d hs i (D.hpre i hip).1 hd with ⟨-, hdep⟩ | ⟨hn, -⟩
        · simp only [depOn, Array.any_eq_true', Bool.and_eq_true, beq_iff_eq] at hdep
          obtain ⟨e, he1, he2, he3⟩ := hdep
          have := D.back _ (D.hpre _ hp1).1 e he1 he2
          omega
        · exact hn hip
      show getT (pvT ((i, opAt ops i, v) :: pv) ++ st.t) s = getT (pvT pv ++ st.t) s
      have : pvT ((i, opAt ops i, v) :: pv) = (d, v) :: pvT pv := by simp [pvT, hd]
      rw [this]
      simp only [List.cons_append, getT]
      rw [if_neg (fun h => hne h.symm)]
    refine aPre_spec D l (done ++ [i]) ((i, opAt ops i, v) :: pv) (by simp [he]) hpv' (fun p hp => ?_) (fun j hj => ?_) (fun p hp => ?_) h1
    · rcases List.mem_cons.1 hp with rfl | hp
      · simp
      · simp [hdone p hp]
    · rcases List.mem_append.1 hj with hj | hj
      · obtain ⟨p, hp, rfl⟩ := hall j hj
        exact ⟨p, List.mem_cons_of_mem _ hp, rfl⟩
      · simp at hj; subst hj; exact ⟨_, List.mem_cons_self .., rfl⟩
    · rcases List.mem_cons.1 hp with rfl | hp
      · exact key _ hip rfl (Nat.le_refl _) h2
      · exact key p (hpv.op p hp).1 (hpv.op p hp).2 (Nat.le_of_lt (hlt _ (hdone p hp))) (hval p hp)

end Go.AM
