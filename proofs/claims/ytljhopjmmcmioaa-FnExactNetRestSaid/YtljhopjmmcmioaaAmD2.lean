/-
  Regions that draw their order and turn something: rules for simp.
-/
import Derived.Test.YtljhopjmmcmioaaAmI2
namespace Go.AM
open Go.RowKit

def ixO (ops : List Oper) : List Nat → List (Nat × Oper)
  | [] => []
  | i :: l => (i, opAt ops i) :: ixO ops l
theorem ixO_eq (ops : List Oper) : ∀ l : List Nat, l.map (fun i => (i, opAt ops i)) = ixO ops l
  | [] => rfl
  | i :: l => by simp [ixO, ixO_eq ops l]

/-- a list is computed, then handed on -/
def svT (t : List (Nat × AV)) (F : List (Nat × AV) → Prop) : Prop := F t
@[congr] theorem svT_cg {t t' : List (Nat × AV)} {F : List (Nat × AV) → Prop} (h : t = t') : svT t F = svT t' F := by rw [h]
theorem svT_nil {F : List (Nat × AV) → Prop} : svT [] F = F [] := (rfl)
theorem svT_cons {p : Nat × AV} {t : List (Nat × AV)} {F : List (Nat × AV) → Prop} : svT (p :: t) F = svT t fun t' => F (p :: t') := (rfl)

/-- what is laid for an operation of the tail -/
def selG (o : Oper) (G : List Nat) : PV → PV
  | [] => []
  | p :: l => bif depOn o p.1 && !G.contains p.1 then p :: selG o G l else selG o G l
def selN (o : Oper) (G : List Nat) : PV → PV
  | [] => []
  | p :: l => bif !depOn o p.1 && !G.contains p.1 then p :: selN o G l else selN o G l
def selR (G : List Nat) : PV → PV
  | [] => []
  | p :: l => bif !G.contains p.1 then p :: selR G l else selR G l
theorem selG_eq (o : Oper) (G : List Nat) : ∀ pv : PV, pv.filter (fun p => depOn o p.1 && !G.contains p.1) = selG o G pv
  | [] => rfl
  | p :: l => by rw [List.filter_cons, selG, selG_eq o G l]; cases depOn o p.1 && !G.contains p.1 <;> rfl
theorem selN_eq (o : Oper) (G : List Nat) : ∀ pv : PV, pv.filter (fun p => !depOn o p.1 && !G.contains p.1) = selN o G pv
  | [] => rfl
  | p :: l => by rw [List.filter_cons, selN, selN_eq o G l]; cases !depOn o p.1 && !G.contains p.1 <;> rfl
theorem selR_eq (G : List Nat) : ∀ pv : PV, pv.filter (fun p => !G.contains p.1) = selR G pv
  | [] => rfl
  | p :: l => by rw [List.filter_cons, selR, selR_eq G l]; cases !G.contains p.1 <;> rfl

/-- the indices, apart from the values -/
def ixs (pv : PV) : List Nat := pv.map (·.1)

/-- the places of a list where a mask stands -/
def pick {α : Type} : List Bool → List α → List α
  | true :: m, a :: l => a :: pick m l
  | false :: m, _ :: l => pick m l
  | _, _ => []
theorem selG_pick (o : Oper) (G : List Nat) : ∀ pv : PV, selG o G pv = pick ((ixs pv).map fun i => depOn o i && !G.contains i) pv
  | [] => rfl
  | p :: l => by
    simp only [selG, ixs, List.map_cons, selG_pick o G l]
    cases depOn o p.1 && !G.contains p.1 <;> rfl
theorem selN_pick (o : Oper) (G : List Nat) : ∀ pv : PV, selN o G pv = pick ((ixs pv).map fun i => !depOn o i && !G.contains i) pv
  | [] => rfl
  | p :: l => by
    simp only [selN, ixs, List.map_cons, selN_pick o G l]
    cases !depOn o p.1 && !G.contains p.1 <;> rfl
theorem selR_pick (G : List Nat) : ∀ pv : PV, selR G pv = pick ((ixs pv).map fun i => !G.contains i) pv
  | [] => rfl
  | p :: l => by
    simp only [selR, ixs, List.map_cons, selR_pick G l]
    cases !G.contains p.1 <;> rfl

/-- the plan of a tail: for each operation, what is laid and what is looked at again; at last, what is laid then -/
def planOk (ops : List Oper) (pre : List Nat) : List Nat → List Nat → List (List Bool × List Bool) → List Bool → Bool
  | [], G, [], R => R == pre.reverse.map fun i => !G.contains i
  | j :: tail, G, (D, N) :: plan, R => (D == pre.reverse.map fun i => depOn (opAt ops j) i && !G.contains i) && (N == pre.reverse.map fun i => !depOn (opAt ops j) i && !G.contains i) &&
      planOk ops pre tail (pick D pre.reverse ++ G) plan R
  | _, _, _, _ => false

/-- each of a list -/
def allP (l : List (Oper × Nat × AV)) (F : Oper → AV → Prop) : Prop :=
  match l with
  | [] => True
  | p :: l => F p.1 p.2.2 ∧ allP l F
theorem allP_eq {F : Oper → AV → Prop} : ∀ l : List (Oper × Nat × AV), allP l F = ∀ p ∈ l, F p.1 p.2.2
  | [] => by simp [allP]
  | p :: l => by simp [allP, allP_eq l]

/-- the same, by the plan -/
def aTailP (E : Env) (all : List Oper) (n kb : Nat) (t : List (Nat × AV)) (vt : List (Nat × AV)) (pv : List (Oper × Nat × AV)) : List (List Bool × List Bool) → List Bool → List Oper → ASt → (ASt → Prop) → Prop
  | [], R, [], st2, K => svT (pick R (pv.map fun p => (p.2.1, p.2.2)) ++ st2.t) fun t' => K { st2 with t := t' }
  | (D, N) :: plan, R, o :: rest, st2, K => svT (pick D (pv.map fun p => (p.2.1, p.2.2)) ++ st2.t) fun t' =>
      aOp E o { st2 with t := t' } fun st3 => allP (pick N pv) (fun o v0 => aStlW E all o ⟨n, kb, vt, st3.h⟩ fun v => v = v0) ∧ aTailP E all n kb t vt pv plan R rest st3 K
  | _, _, _, _, _ => False

def aPreP (E : Env) (all : List Oper) (n kb : Nat) (h : AH) : List Oper → List (Nat × AV) → List (Oper × Nat × AV) → (List (Nat × AV) → List (Oper × Nat × AV) → Prop) → Prop
  | [], vt, pv, K => K vt pv
  | o :: rest, vt, pv, K => aStlW E all o ⟨n, kb, vt, h⟩ fun v => aPreP E all n kb h rest ((o.dst.getD 0, v) :: vt) ((o, o.dst.getD 0, v) :: pv) K

def lite (pv : PV) : List (Oper × Nat × AV) := pv.map fun p => (p.2.1, p.2.1.dst.getD 0, p.2.2)

theorem pick_map {α β : Type} (f : α → β) : ∀ (m : List Bool) (l : List α), pick m (l.map f) = (pick m l).map f
  | [], _ => by simp [pick]
  | true :: m, [] => rfl
  | false :: m, [] => rfl
  | true :: m, a :: l => by simp [pick, pick_map f m l]
  | false :: m, a :: l => by simp [pick, pick_map f m l]

theorem pick_mem {α : Type} {a : α} : ∀ (m : List Bool) (l : List α), a ∈ pick m l → a ∈ l
  | [], _, h => by simp [pick] at h
  | true :: m, [], h => by simp [pick] at h
  | false :: m, [], h => by simp [pick] at h
  | true :: m, b :: l, h => by
    simp only [pick, List.mem_cons] at h ⊢
    exact h.imp id (pick_mem m l)
  | false :: m, b :: l, h => by
    simp only [pick] at h
    exact List.mem_cons_of_mem _ (pick_mem m l h)

theorem pvT_lite : ∀ (pv : PV), (∀ p ∈ pv, p.2.1.dst.isSome = true) → pvT pv = (lite pv).map fun p => (p.2.1, p.2.2)
  | [], _ => rfl
  | p :: l, h => by
    have h1 := h p (List.mem_cons_self ..)
    have h2 := pvT_lite l (fun q hq => h q (List.mem_cons_of_mem _ hq))
    obtain ⟨i, o, v⟩ := p
    cases hd : o.dst with
    | none => simp [hd] at h1
    | some d =>
      unfold pvT at h2 ⊢
      simp only [List.filterMap_cons, hd, Option.map_some, h2, lite, List.map_cons, Option.getD_some]

theorem aPreP_eq {E : Env} {ops : List Oper} {n kb : Nat} {t : List (Nat × AV)} {h : AH} {K : PV → Prop} {K' : List (Nat × AV) → List (Oper × Nat × AV) → Prop} : ∀ (l : List Nat) (pv : PV), (∀ p ∈ pv, p.2.1 = opAt ops p.1) → (∀ i ∈ l, (opAt ops i).dst.isSome = true) →
    (∀ pv' : PV, ixs pv' = l.reverse ++ ixs pv → (∀ p ∈ pv', p.2.1 = opAt ops p.1) → K pv' = K' (pvT pv' ++ t) (lite pv')) →
    aPre E ops ⟨n, kb, t, h⟩ pv (l.map fun i => (i, opAt ops i)) K = aPreP E ops n kb h (l.map (opAt ops)) (pvT pv ++ t) (lite pv) K'
  | [], pv, hp, _, hk => by
    simp only [List.map_nil, aPre, aPreP]
    exact hk pv rfl hp
  | i :: l, pv, hp, hl, hk => by
    obtain ⟨d, hd⟩ := Option.isSome_iff_exists.1 (hl i (List.mem_cons_self ..))
    simp only [List.map_cons, aPre, aPreP]
    refine congrArg _ ?_
    funext v
    have e1 : pvT ((i, opAt ops i, v) :: pv) = ((opAt ops i).dst.getD 0, v) :: pvT pv := by simp [pvT, hd]
    have e2 : lite ((i, opAt ops i, v) :: pv) = (opAt ops i, (opAt ops i).dst.getD 0, v) :: lite pv := rfl
    rw [aPreP_eq l ((i, opAt ops i, v) :: pv) (fun p hp' => ?_) (fun j hj => hl j (List.mem_cons_of_mem _ hj)) (fun pv' h1 h2 => hk pv' (by rw [h1]; simp [ixs]) h2), e1, e2]
    · rfl
    · rcases List.mem_cons.1 hp' with rfl | hp'
      · rfl
      · exact hp p hp'

theorem aTailP_eq {E : Env} {ops : List Oper} {n kb : Nat} {t : List (Nat × AV)} {h0 : AH} {pre : List Nat} {pv : PV} (hix : ixs pv = pre.reverse) (hsome : ∀ p ∈ pv, p.2.1.dst.isSome = true) {K : ASt → Prop} :
    ∀ (tail : List Nat) (G : List Nat) (plan : List (List Bool × List Bool)) (R : List Bool) (st2 : ASt), planOk ops pre tail G plan R = true →
    aTail E ops ⟨n, kb, t, h0⟩ pv G (tail.map fun i => (i, opAt ops i)) st2 K = aTailP E ops n kb t (pvT pv ++ t) (lite pv) plan R (tail.map (opAt ops)) st2 K
  | [], G, [], R, st2, hok => by
    simp only [planOk, beq_iff_eq] at hok
    simp only [List.map_nil, aTail, aTailP, svT]
    rw [selR_eq, selR_pick, hix, ← hok]
    have : pvT (pick R pv) = pick R ((lite pv).map fun p => (p.2.1, p.2.2)) := by
      rw [pvT_lite _ (fun p hp => hsome p (pick_mem _ _ hp)), pick_map]
      unfold lite
      rw [pick_map, List.map_map]
    rw [this]
  | j :: tail, G, (D, N) :: plan, R, st2, hok => by
    simp only [planOk, Bool.and_eq_true, beq_iff_eq] at hok
    obtain ⟨⟨h1, h2⟩, h3⟩ := hok
    simp only [List.map_cons, aTail, aTailP, svT]
    have hD : pv.filter (fun p => depOn (opAt ops j) p.1 && !G.contains p.1) = pick D pv := by rw [selG_eq, selG_pick, hix, ← h1]
    have hN : pv.filter (fun p => !depOn (opAt ops j) p.1 && !G.contains p.1) = pick N pv := by rw [selN_eq, selN_pick, hix, ← h2]
    rw [hD, hN]
    have e1 : pvT (pick D pv) = pick D ((lite pv).map fun p => (p.2.1, p.2.2)) := by
      rw [pvT_lite _ (fun p hp => hsome p (pick_mem _ _ hp)), pick_map]
      unfold lite
      rw [pick_map, List.map_map]
    have e2 : (pick D pv).map (·.1) = pick D pre.reverse := by rw [← hix]; unfold ixs; rw [pick_map]
    rw [e1, e2]
    refine congrArg _ ?_
    funext st3
    rw [aTailP_eq hix hsome tail _ plan R st3 h3]
    refine congrArg (· ∧ _) ?_
    have e3 : pick N (lite pv) = lite (pick N pv) := by unfold lite; rw [pick_map]
    rw [e3, allP_eq]
    apply propext
    constructor
    · intro hh p hp
      unfold lite at hp
      rw [List.mem_map] at hp
      obtain ⟨q, hq, rfl⟩ := hp
      exact hh q hq
    · intro hh q hq
      exact hh _ (by unfold lite; exact List.mem_map_of_mem hq)
  | [], G, _ :: _, R, st2, hok => by simp [planOk] at hok
  | _ :: _, G, [], R, st2, hok => by simp [planOk] at hok

/-- what a tail needs to be laid out -/
def dstsOk (n : Nat) (ops : List Oper) (pre : List Nat) : Bool := pre.all fun i => match (opAt ops i).dst with | some d => decide (d < n) | none => false

theorem DrawT.introP {E : Env} (hE : EOk E) (hm : E.P.follows .mixedOrders = true) {id : Nat} {ops : List Oper} {Q : Exit → ASt → Prop} {n kb : Nat} {t : List (Nat × AV)} {h : AH} (pre tail : List Nat) (plan : List (List Bool × List Bool)) (R : List Bool)
    (hok : (drawOk ops pre tail && planOk ops pre tail [] plan R && dstsOk n ops pre) = true)
    (hx : aPreP E.tight ops n kb h (pre.map (opAt ops)) t [] fun vt lp => svT ((lp.map fun p => (p.2.1, AV.any)) ++ t) fun tm => aTailP E.tight ops n kb t vt lp plan R (tail.map (opAt ops)) ⟨n, kb, tm, h⟩ (Q .normal)) : DrawT E id ops Q ⟨n, kb, t, h⟩ := by
  simp only [Bool.and_eq_true] at hok
  obtain ⟨⟨h1, h2⟩, h3⟩ := hok
  have hd : ∀ i ∈ pre, ∃ d, (opAt ops i).dst = some d ∧ d < n := by
    intro i hi
    have := List.all_eq_true.1 h3 i hi
    split at this
    · rename_i d hd; exact ⟨d, hd, by simpa using this⟩
    · simp at this
  refine DrawT.intro hE hm pre tail h1 ?_
  unfold aDraw
  rw [aPreP_eq (K' := fun vt lp => svT ((lp.map fun p => (p.2.1, AV.any)) ++ t) fun tm => aTailP E.tight ops n kb t vt lp plan R (tail.map (opAt ops)) ⟨n, kb, tm, h⟩ (Q .normal)) pre [] (by simp) (fun i hi => by obtain ⟨d, hd, _⟩ := hd i hi; rw [hd]; rfl) (fun pv' e1 e2 => ?_)]
  · exact hx
  · have hix : ixs pv' = pre.reverse := by rw [e1]; simp [ixs]
    have hmem : ∀ p ∈ pv', p.1 ∈ pre := fun p hp => by
      have : p.1 ∈ ixs pv' := List.mem_map_of_mem hp
      rw [hix] at this; simpa using this
    have hsome : ∀ p ∈ pv', p.2.1.dst.isSome = true := fun p hp => by
      obtain ⟨d, hd, _⟩ := hd p.1 (hmem p hp)
      rw [e2 p hp, hd]; rfl
    have hc : (∀ p ∈ pv', ∀ d, p.2.1.dst = some d → d < n) = True := by
      simp only [eq_iff_iff, iff_true]
      intro p hp d hpd
      obtain ⟨d', hd', hlt⟩ := hd p.1 (hmem p hp)
      rw [e2 p hp, hd'] at hpd
      cases hpd
      exact hlt
    have hmask : maskT pv' = (lite pv').map fun p => (p.2.1, AV.any) := by
      have : ∀ l : PV, (∀ p ∈ l, p.2.1.dst.isSome = true) → maskT l = (lite l).map fun p => (p.2.1, AV.any) := by
        intro l
        induction l with
        | nil => intro _; rfl
        | cons p l ih =>
          intro hl
          have g1 := hl p (List.mem_cons_self ..)
          have g2 := ih (fun q hq => hl q (List.mem_cons_of_mem _ hq))
          obtain ⟨i, o, v⟩ := p
          cases hdo : o.dst with
          | none => simp [hdo] at g1
          | some d =>
            unfold maskT at g2 ⊢
            simp only [List.filterMap_cons, hdo, Option.map_some, g2, lite, List.map_cons, Option.getD_some]
      exact this pv' hsome
    simp only [hc, true_and, svT]
    rw [hmask, aTailP_eq hix hsome tail [] plan R _ h2]

section rules
variable {E : Env} {all rest : List Oper} {n kb d : Nat} {t vt : List (Nat × AV)} {h : AH} {pv : List (Oper × Nat × AV)} {K : ASt → Prop} {KP : List (Nat × AV) → List (Oper × Nat × AV) → Prop} {op : Op} {ty : TypeId} {p : String} {af : Array Edge} {D N R : List Bool} {plan : List (List Bool × List Bool)} {o : Oper} {st : ASt} {KV : AV → Prop}
theorem Pp_nil : aPreP E all n kb h [] vt pv KP = KP vt pv := (rfl)
theorem Pp_cons : aPreP E all n kb h (⟨some d, op, ty, p, af, none⟩ :: rest) vt pv KP = aStl E ⟨n, kb, vt, h⟩ op fun v => aPreP E all n kb h rest ((d, v) :: vt) ((⟨some d, op, ty, p, af, none⟩, d, v) :: pv) KP := (rfl)
theorem Pp_consg {j : Nat} {b : Bool} : aPreP E all n kb h (⟨some d, op, ty, p, af, some (j, b)⟩ :: rest) vt pv KP = askS (gslot all j) fun s => askG (getT vt s) b (ph (aStl E ⟨n, kb, vt, h⟩ op fun v => aPreP E all n kb h rest ((d, v) :: vt) ((⟨some d, op, ty, p, af, some (j, b)⟩, d, v) :: pv) KP)) (ph (aPreP E all n kb h rest ((d, .un) :: vt) ((⟨some d, op, ty, p, af, some (j, b)⟩, d, .un) :: pv) KP)) := by
  simp only [aPreP, aStlW, askS, askG]
  cases gslot all j with
  | none => rfl
  | some s => rfl
theorem Tp_nil : aTailP E all n kb t vt pv [] R [] st K = svT (pick R (pv.map fun p => (p.2.1, p.2.2)) ++ st.t) fun t' => K { st with t := t' } := (rfl)
theorem Tp_cons : aTailP E all n kb t vt pv ((D, N) :: plan) R (o :: rest) st K = svT (pick D (pv.map fun p => (p.2.1, p.2.2)) ++ st.t) fun t' =>
      aOp E o { st with t := t' } fun st3 => allP (pick N pv) (fun o v0 => aStlW E all o ⟨n, kb, vt, st3.h⟩ fun v => v = v0) ∧ aTailP E all n kb t vt pv plan R rest st3 K := (rfl)
@[congr] theorem allP_cg {l l' : List (Oper × Nat × AV)} {F : Oper → AV → Prop} (h : l = l') : allP l F = allP l' F := by rw [h]
theorem allP_nil {F : Oper → AV → Prop} : allP [] F = True := (rfl)
theorem allP_cons {o : Oper} {i : Nat} {v : AV} {l : List (Oper × Nat × AV)} {F : Oper → AV → Prop} : allP ((o, i, v) :: l) F = (F o v ∧ allP l F) := (rfl)
theorem stlW_none {dd : Option Nat} : aStlW E all ⟨dd, op, ty, p, af, none⟩ st KV = aStl E st op KV := (rfl)
theorem opAt_0 : opAt (o :: rest) 0 = o := (rfl)
theorem opAt_s {i : Nat} : opAt (o :: rest) (i + 1) = opAt rest i := by simp [opAt]
theorem pick_t {α : Type} {m : List Bool} {a : α} {l : List α} : pick (true :: m) (a :: l) = a :: pick m l := (rfl)
theorem pick_f {α : Type} {m : List Bool} {a : α} {l : List α} : pick (false :: m) (a :: l) = pick m l := (rfl)
theorem pick_0 {α : Type} {l : List α} : pick [] l = [] := by cases l <;> rfl
end rules
attribute [simp ↓] Pp_nil Pp_cons Pp_consg Tp_nil Tp_cons stlW_none opAt_0 opAt_s pick_t pick_f pick_0
attribute [simp] svT_nil svT_cons allP_nil allP_cons
end Go.AM
