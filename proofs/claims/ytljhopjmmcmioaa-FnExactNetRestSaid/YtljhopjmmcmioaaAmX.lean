/-
  Regions that draw their order: rules for simp.
-/
import Derived.Test.YtljhopjmmcmioaaAmV
namespace Go.AM
open Go.RowKit

/-- the function that a value is -/
def callV (x : AV) (F : Nat → List AV → Prop) : Prop :=
  match x with
  | .clo f caps => F f caps
  | .v (.func (.func f) _ _) => F f []
  | _ => False
@[congr] theorem callV_cg {x x' : AV} {F : Nat → List AV → Prop} (h : x = x') : callV x F = callV x' F := by rw [h]
theorem callV_f {f : Nat} {a b : Array Value} {F : Nat → List AV → Prop} : callV (.v (.func (.func f) a b)) F = F f [] := (rfl)
theorem callV_c {f : Nat} {l : List AV} {F : Nat → List AV → Prop} : callV (.clo f l) F = F f l := (rfl)
theorem X_callv {E : Env} {st : ASt} {K : ASt → Prop} {d : Option Nat} {t : TypeId} {p : String} {af : Array Edge} {g : Option (Nat × Bool)} {i : Nat} {l : List Operand} {ts : List TypeId} :
    aOp E ⟨d, .call ⟨.value (.tmp i), ⟨l⟩, ⟨ts⟩⟩, t, p, af, g⟩ st K = callV (getT st.t i) fun f caps => ACall E f (l.map st.ev ++ caps) st d K := by
  simp only [aOp, aCall, callV]
  cases getT st.t i with
  | v u =>
    cases u with
    | func f a b => cases f <;> simp
    | _ => rfl
  | _ => rfl

/-- a value is handed on -/
def sv (v : AV) (F : AV → Prop) : Prop := F v
@[congr] theorem sv_cg {v v' : AV} {F : AV → Prop} (h : v = v') : sv v F = sv v' F := by rw [h]

section
variable {E : Env} {st : ASt} {F : AV → Prop} {u : Value} {rows : List (List CD)} {l : List AV} {k sz off len f b c r : Nat} {H : Hd} {row : List CD}
theorem sv_v : sv (.v u) F = F (.v u) := (rfl)
theorem sv_cv {len : Nat} : sv (.cv u len) F = F (.cv u len) := (rfl)
theorem sv_ml {len : Nat} : sv (.ml k H sz len) F = F (.ml k H sz len) := (rfl)
theorem sv_un : sv .un F = F .un := (rfl)
theorem sv_nil : sv .nil F = F .nil := (rfl)
theorem sv_ro : sv (.ro rows) F = F (.ro rows) := (rfl)
theorem sv_sl : sv (.sl k H sz off len) F = F (.sl k H sz off len) := (rfl)
theorem sv_p : sv (.p k b c) F = F (.p k b c) := (rfl)
theorem sv_e : sv (.e k H sz r c) F = F (.e k H sz r c) := (rfl)
theorem sv_rp : sv (.rp row) F = F (.rp row) := (rfl)
theorem sv_agg : sv (.agg l) F = F (.agg l) := (rfl)
theorem sv_tup : sv (.tup l) F = F (.tup l) := (rfl)
theorem sv_clo : sv (.clo f l) F = F (.clo f l) := (rfl)

@[congr] theorem SCall_cg {f : Nat} {l l' : List AV} {h : AH} (hl : l = l') : SCall E f l h F = SCall E f l' h F := by rw [hl]
variable {x y : Operand} {T' U : TypeId}
theorem Y_move : aStl E st (.move x) F = sv (st.ev x) F := (rfl)
theorem Y_assign : aStl E st (.assign x) F = sv (st.ev x) F := (rfl)
theorem Y_pick {c a b : Operand} : aStl E st (.pick c a b) F = aTest (st.ev c) fun z => Br z (ph (sv (st.ev a) F)) (ph (sv (st.ev b) F)) := (rfl)
theorem Y_build {l : List (Nat × Operand)} : aStl E st (.build T' ⟨l⟩) F = aBuild E T' (l.map fun q => (q.1, st.ev q.2)) fun v => sv v F := (rfl)
theorem Y_load : aStl E st (.load T' x) F = aLoad E st.h T' (st.ev x) fun v => sv v F := (rfl)
theorem Y_nil : aStl E st (.nilCheck x) F = aNil (st.ev x) fun v => sv v F := (rfl)
theorem Y_bin {op : BinOp} : aStl E st (.binOp op T' x y U) F = aBin2 E op T' (st.ev x) (st.ev y) fun v => sv v F := (rfl)
theorem Y_not : aStl E st (.unOp .not T' x) F = aTest (st.ev x) fun b => sv (.v (.bool (!b))) F := (rfl)
theorem Y_conv {s : TypeId} : aStl E st (.convert s T' x) F = aConv E s T' (st.ev x) fun v => sv v F := (rfl)
theorem Y_slice {lo hi : Option Operand} : aStl E st (.slice T' x lo hi none) F = aSlice E T' (st.ev x) (lo.map st.ev) (hi.map st.ev) fun v => sv v F := (rfl)
theorem Y_field {f : Nat} : aStl E st (.fieldAddr T' x f) F = aField E T' f (st.ev x) fun v => sv v F := (rfl)
theorem Y_index : aStl E st (.indexAddr T' x y) F = elemT E T' fun _ te => indexAt te (st.ev x) (st.ev y) fun v => sv v F := (rfl)
theorem Y_idx : aStl E st (.index T' x y) F = aIdx E T' (st.ev x) (st.ev y) fun v => sv v F := (rfl)
theorem Y_extract {i : Nat} : aStl E st (.extract x i) F = aExtract (st.ev x) i fun v => sv v F := (rfl)
theorem Y_len : aStl E st (.call ⟨.builtin .len, #[x], #[T']⟩) F = aLen E T' (st.ev x) fun v => sv v F := (rfl)
theorem Y_min {U1 U2 : TypeId} : aStl E st (.call ⟨.builtin .min, #[x, y], #[U1, U2]⟩) F = aMin (st.ev x) (st.ev y) fun v => sv v F := (rfl)
theorem Y_max {U1 U2 : TypeId} : aStl E st (.call ⟨.builtin .max, #[x, y], #[U1, U2]⟩) F = aMax (st.ev x) (st.ev y) fun v => sv v F := (rfl)
theorem Y_call {f : Nat} {l : List Operand} {ts : List TypeId} : aStl E st (.call ⟨.value (.func f), ⟨l⟩, ⟨ts⟩⟩) F = SCall E f (l.map st.ev) st.h fun v => sv v F := (rfl)
end

section
variable {E : Env} {all rest : List Oper} {n kb : Nat} {t : List (Nat × AV)} {h : AH} {K : ASt → Prop}
/-- all of a region only computes: one after the other -/
def aAll (E : Env) (all : List Oper) (n kb : Nat) (h : AH) : List Oper → (t : List (Nat × AV)) → (List (Nat × AV) → Prop) → Prop
  | [], t, K => K t
  | o :: rest, t, K => aStlW E all o ⟨n, kb, t, h⟩ fun v => aAll E all n kb h rest ((o.dst.getD 0, v) :: t) K

variable {F : List (Nat × AV) → Prop} {op : Op} {ty : TypeId} {p : String} {af : Array Edge} {d : Nat}
theorem Al_nil : aAll E all n kb h [] t F = F t := (rfl)
theorem Al_cons : aAll E all n kb h (⟨some d, op, ty, p, af, none⟩ :: rest) t F = aStl E ⟨n, kb, t, h⟩ op fun v => aAll E all n kb h rest ((d, v) :: t) F := (rfl)
theorem Al_consg {j : Nat} {b : Bool} : aAll E all n kb h (⟨some d, op, ty, p, af, some (j, b)⟩ :: rest) t F = askS (gslot all j) fun s => askG (getT t s) b (ph (aStl E ⟨n, kb, t, h⟩ op fun v => aAll E all n kb h rest ((d, v) :: t) F)) (ph (aAll E all n kb h rest ((d, .un) :: t) F)) := by
  simp only [aAll, aStlW, askS, askG]
  cases gslot all j with
  | none => rfl
  | some s => rfl

theorem aPre_eq {ops : List Oper} {G : PV → Prop} (hG : ∀ pv, G pv = F (pvT pv ++ t)) : ∀ (l : List Nat) (pv : PV), (∀ i ∈ l, ∃ d, (opAt ops i).dst = some d ∧ d < n) → (∀ p ∈ pv, ∀ d, p.2.1.dst = some d → d < n) →
    aPre E ops ⟨n, kb, t, h⟩ pv (l.map fun i => (i, opAt ops i)) (fun pv' => (∀ p ∈ pv', ∀ d, p.2.1.dst = some d → d < n) ∧ G pv') = aAll E ops n kb h (l.map (opAt ops)) (pvT pv ++ t) F
  | [], pv, _, hpv => by
    simp only [List.map_nil, aPre, aAll]
    rw [hG]
    exact propext ⟨fun h => h.2, fun h => ⟨hpv, h⟩⟩
  | i :: l, pv, hl, hpv => by
    simp only [List.map_cons, aPre, aAll]
    refine congrArg _ ?_
    funext v
    obtain ⟨d, hd, hlt⟩ := hl i (List.mem_cons_self ..)
    rw [aPre_eq hG l _ (fun j hj => hl j (List.mem_cons_of_mem _ hj)) (fun p hp d' hd' => by
      rcases List.mem_cons.1 hp with rfl | hp
      · rw [hd] at hd'; cases hd'; exact hlt
      · exact hpv p hp d' hd')]
    have : pvT ((i, opAt ops i, v) :: pv) = (d, v) :: pvT pv := by simp [pvT, hd]
    rw [this, hd]
    rfl

/-- a region that draws its order and only computes -/
def quietOk (n : Nat) (ops : List Oper) : Bool := drawOk ops (List.range ops.length) [] && ops.all fun o => match o.dst with | some d => decide (d < n) | none => false

theorem DrawT.quiet {E : Env} (hE : EOk E) (hm : E.P.follows .mixedOrders = true) {id : Nat} {ops : List Oper} {Q : Exit → ASt → Prop} {n kb : Nat} {t : List (Nat × AV)} {h : AH} (hok : quietOk n ops = true)
    (hx : aAll E ops n kb h ops t fun t' => Q .normal ⟨n, kb, t', h⟩) : DrawT E id ops Q ⟨n, kb, t, h⟩ := by
  simp only [quietOk, Bool.and_eq_true] at hok
  obtain ⟨h1, h2⟩ := hok
  have hd : ∀ i ∈ List.range ops.length, ∃ d, (opAt ops i).dst = some d ∧ d < n := by
    intro i hi
    have hlt := List.mem_range.1 hi
    have hop : opAt ops i = ops[i] := by simp [opAt, hlt]
    have := List.all_eq_true.1 h2 ops[i] (List.getElem_mem hlt)
    rw [hop]
    split at this
    · rename_i d hd; exact ⟨d, hd, by simpa using this⟩
    · simp at this
  have hmap : (List.range ops.length).map (opAt ops) = ops := by
    refine List.ext_getElem (by simp) (fun i hi hi' => ?_)
    simp [opAt, hi']
  refine DrawT.intro2 hE hm (List.range ops.length) [] (.inl rfl) h1 (fun pv st' => st' = ⟨n, kb, pvT pv ++ (maskT pv ++ t), h⟩ ∧ Q .normal ⟨n, kb, pvT pv ++ t, h⟩) ?_ ?_
  · have := aPre_eq (E := E) (ops := ops) (kb := kb) (h := h) (t := t) (n := n) (F := fun t' => Q .normal ⟨n, kb, t', h⟩) (G := fun pv => aTail E ops ⟨n, kb, t, h⟩ pv [] [] { (⟨n, kb, t, h⟩ : ASt) with t := maskT pv ++ t } (fun st' => st' = ⟨n, kb, pvT pv ++ (maskT pv ++ t), h⟩ ∧ Q .normal ⟨n, kb, pvT pv ++ t, h⟩)) (fun pv => by
      simp only [aTail]
      rw [show (pv.filter fun p => !([] : List Nat).contains p.1) = pv from List.filter_eq_self.2 (by simp)]
      simp) (List.range ops.length) [] hd (by simp)
    simp only [List.map_nil] at this ⊢
    rw [this, hmap]
    exact hx
  · rintro pv st' a w ⟨rfl, hq⟩ hR
    refine ⟨_, hq, hR.dfr, hR.size, fun s => ?_, hR.heap, hR.below, hR.base_le⟩
    show VRel w h.M (getT (pvT pv ++ t) s) _
    by_cases hs : ∃ p ∈ pvT pv, p.1 = s
    · have e1 : ∀ x y : List (Nat × AV), getT (pvT pv ++ x) s = getT (pvT pv ++ y) s := by
        intro x y
        obtain ⟨p, hp, rfl⟩ := hs
        generalize pvT pv = l at hp
        induction l with
        | nil => simp at hp
        | cons q l ih =>
          obtain ⟨q1, q2⟩ := q
          simp only [List.cons_append, getT]
          by_cases hq : p.1 = q1
          · rw [if_pos hq, if_pos hq]
          · rw [if_neg hq, if_neg hq]
            rcases List.mem_cons.1 hp with rfl | hp
            · exact absurd rfl hq
            · exact ih hp
      rw [e1 t (maskT pv ++ t)]
      exact hR.tmp s
    · have := hR.tmp s
      have hne : ∀ p ∈ pvT pv, p.1 ≠ s := fun p hp he => hs ⟨p, hp, he⟩
      have hne' : ∀ p ∈ maskT pv, p.1 ≠ s := by
        intro p hp he
        unfold maskT at hp
        rw [List.mem_filterMap] at hp
        obtain ⟨x, hx, hd⟩ := hp
        rw [Option.map_eq_some_iff] at hd
        obtain ⟨d, hd, rfl⟩ := hd
        exact hs ⟨(d, x.2.2), by unfold pvT; rw [List.mem_filterMap]; exact ⟨x, hx, by rw [hd]; rfl⟩, he⟩
      rw [getT_append hne]
      have h3 : getT (pvT pv ++ (maskT pv ++ t)) s = getT t s := by rw [getT_append hne, getT_append hne']
      have h4 : VRel w h.M (getT (pvT pv ++ (maskT pv ++ t)) s) (a.tmps.getD s undef) := this
      rw [h3] at h4
      exact h4
end
attribute [simp ↓] callV_f callV_c X_callv sv_v sv_un sv_cv sv_ml sv_nil sv_ro sv_sl sv_p sv_e sv_rp sv_agg sv_tup sv_clo Y_move Y_assign Y_pick Y_build Y_load Y_nil Y_bin Y_not Y_conv Y_slice Y_field Y_index Y_idx Y_extract Y_len Y_min Y_max Y_call Al_nil Al_cons Al_consg
attribute [simp] roR roV
end Go.AM
