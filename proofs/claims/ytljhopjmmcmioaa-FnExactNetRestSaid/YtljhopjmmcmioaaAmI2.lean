/-
  A call by the callee's own text, on the caller's heap.
-/
import Derived.Test.YtljhopjmmcmioaaAmW
namespace Go.AM
open Go.RowKit

/-- an object is forgotten -/
theorem Ent.kill {E : Env} {st : ASt} {S : ASt → Prop} (k : Nat) (h : Ent E { st with h := (k, .dead) :: st.h } S) : Ent E st S := by
  intro a w hR
  obtain ⟨Es, HH⟩ := hR.heap
  exact h a w (hR.move (HH.kill k) (Tr.kill HH k) ⟨rfl, rfl, rfl⟩).rep

def inlQ (E : Env) (rs : List ResultVar) (R : AV → AH → Prop) : Exit → ASt → Prop
  | .normal, st => aRes E st rs fun l => match l with
    | [x] => R x st.h
    | l => R (.tup l) st.h
  | .ret, st => aRes E st rs fun l => match l with
    | [x] => R x st.h
    | l => R (.tup l) st.h
  | _, _ => False

def argN : Nat → List AV → List (Nat × AV)
  | _, [] => []
  | i, v :: l => (i, v) :: argN (i + 1) l

theorem argN_get : ∀ (l : List AV) (k i : Nat), getT (argN k l) i = if k ≤ i then (match l[i - k]? with | some v => v | none => .any) else .any
  | [], k, i => by simp [argN, getT]
  | v :: l, k, i => by
    unfold argN getT
    by_cases h : i = k
    · subst h; simp
    · rw [if_neg h, argN_get l (k + 1) i]
      by_cases h1 : k + 1 ≤ i
      · rw [if_pos h1, if_pos (by omega), show i - k = (i - (k + 1)) + 1 by omega]
        rfl
      · rw [if_neg h1, if_neg (by omega)]

theorem ACall.inline {P : Program} {T : Nat → Option TI} (hT : ∀ t ti, T t = some ti → TIok P t ti) {w0 : World} {base : Bs} {f : Nat} {fn : Func} {c : Code} (hf : P.funcs[f]? = some fn) (hname : (fn.name == "runtime.NumGoroutine") = false) (hb : fn.body = some c)
    {n : Nat} {rs : List ResultVar} (hnt : fn.ntmps = n) (hrs : fn.results = ⟨rs⟩) {args : List AV} (hn : args.length ≤ n) (kb' : Nat) {st : ASt} {dst : Option Nat} {K : ASt → Prop}
    (h : ∀ w1 F, aSem ⟨P, T, w1, ⟨F, base.G, base.loose⟩⟩ c (inlQ ⟨P, T, w1, ⟨F, base.G, base.loose⟩⟩ rs fun av h' => aPut ⟨st.n, st.kb, st.t, h'⟩ dst av K) ⟨n, kb', argN 0 args, st.h⟩) : ACall ⟨P, T, w0, base⟩ f args st dst K := by
  subst hnt
  have hrs' : fn.results.toList = rs := by rw [hrs]
  subst hrs'
  refine ⟨⟨fn, hf, hname, by rw [hb]; rfl⟩, fun a w hR xs hs hx => calls_of_wp hf hb ?_⟩
  let bs : Bs := ⟨fun b => b < w.heap.size ∧ ¬ st.h.M b, base.G, base.loose⟩
  have hE : EOk ⟨P, T, w, bs⟩ := hT
  obtain ⟨Es, HH⟩ := hR.heap
  have hR0 : Rep w bs ⟨fn.ntmps, kb', argN 0 args, st.h⟩ { tmps := xs ++ Array.replicate (fn.ntmps - xs.size) undef, defers := [] } w := by
    refine ⟨rfl, by simp; omega, fun i => ?_, ⟨Es, HH.obj, HH.inj, fun k b hk => ⟨fun hf => hf.2 ⟨k, hk⟩, (HH.low k b hk).2⟩, HH.elow, HH.einj, HH.em⟩, BelowF.refl _ _, fun b hb => hb.elim (fun h => h.1) (fun h => hR.base_le b (.inr h))⟩
    show VRel w st.h.M (getT (argN 0 args) i) _
    rw [argN_get, if_pos (Nat.zero_le i), Nat.sub_zero]
    cases hv : args[i]? with
    | none => exact .any _
    | some v =>
      have hlt : i < xs.size := by rw [hs]; exact (List.getElem?_eq_some_iff.1 hv).1
      have e : (xs ++ Array.replicate (fn.ntmps - xs.size) undef).getD i undef = xs.getD i undef := by
        simp only [Array.getD_eq_getD_getElem?]
        rw [Array.getElem?_append_left hlt]
      show VRel w st.h.M v ((xs ++ Array.replicate (fn.ntmps - xs.size) undef).getD i undef)
      rw [e]
      exact hx i v hv
  refine wp_mono (aSem_sound hE c _ _ _ w hR0 (h w _)) ?_
  rintro e a' w' ⟨st', hq, hR'⟩
  obtain ⟨E', H'⟩ := hR'.heap
  have t : Tr st.h.M w st'.h.M w' := ⟨hR'.below.size, fun b hb hM => hR'.below.block b ⟨hb, hM⟩, fun b hb ⟨k, hk⟩ => Classical.byContradiction fun hM => (H'.low k b hk).1 ⟨hb, hM⟩⟩
  have hRo : Rep w0 base ⟨st.n, st.kb, st.t, st'.h⟩ a w' := by
    refine ⟨hR.dfr, hR.size, fun i => (hR.tmp i).tr t, ⟨E', H'.obj, H'.inj, fun k b hk => ⟨fun hF => ?_, (H'.low k b hk).2⟩, H'.elow, H'.einj, H'.em⟩, hR.below.trans ⟨hR'.below.os, hR'.below.tape, hR'.below.output, hR'.below.size, fun b hF => ?_⟩, fun b hb => Nat.lt_of_lt_of_le (hR.base_le b hb) hR'.below.size⟩
    · obtain ⟨q, hq⟩ := t.mono b (hR.base_le b (.inl hF)) ⟨k, hk⟩
      exact (HH.low q b hq).1 hF
    · exact t.frame b (hR.base_le b (.inl hF)) (fun ⟨q, hq⟩ => (HH.low q b hq).1 hF)
  have key : (aRes ⟨P, T, w, bs⟩ st' fn.results.toList fun l => match l with | [x] => aPut ⟨st.n, st.kb, st.t, st'.h⟩ dst x K | l => aPut ⟨st.n, st.kb, st.t, st'.h⟩ dst (.tup l) K) → a'.defers = [] ∧ ∃ v, (results fn a'.tmps).run P w' = .ok v w' ∧
      ∃ v' av h', Ending.returned v = .returned v' ∧ K (st.aft dst av h') ∧ Rep w0 base (st.aft dst av h') (a.put dst v') w' ∧ (base.loose = false → Tr st.h.M w h'.M w') ∧ VRel w' h'.M av v' := by
    intro hq
    obtain ⟨vs, l, h1, h2, h3, h4⟩ := aRes_sound hE hR' fn.results.toList hq
    have h1' : (fn.results.toList.mapM (resStep a'.tmps)).run P w' = .ok vs w' := h1
    have hrun : (results fn a'.tmps).run P w' = .ok (if vs.length = 1 then vs.getD 0 undef else .tuple vs.toArray) w' := by
      rw [results_eq, Array.mapM_eq_mapM_toList]
      simp only [Sem.run_bind, Sem.run_map, h1', Result.andThen_ok, Sem.run_pure]
      cases vs with
      | nil => simp
      | cons v vs => cases vs <;> simp
    refine ⟨hR'.dfr, _, hrun, ?_⟩
    have fin : ∀ (av : AV) (v : Value), VRel w' st'.h.M av v → aPut ⟨st.n, st.kb, st.t, st'.h⟩ dst av K → ∃ v' av h', Ending.returned v = .returned v' ∧ K (st.aft dst av h') ∧ Rep w0 base (st.aft dst av h') (a.put dst v') w' ∧ (base.loose = false → Tr st.h.M w h'.M w') ∧ VRel w' h'.M av v' := by
      intro av v hv hK
      obtain ⟨g1, g2⟩ := hRo.put hv hK
      have e : (({ st with h := st'.h } : ASt).aft dst av st'.h) = st.aft dst av st'.h := by unfold ASt.aft; cases dst <;> rfl
      have e2 : (⟨st.n, st.kb, st.t, st'.h⟩ : ASt).aft dst av st'.h = st.aft dst av st'.h := e
      rw [show (⟨st.n, st.kb, st.t, st'.h⟩ : ASt).h = st'.h from rfl, e2] at g1 g2
      exact ⟨v, av, st'.h, rfl, g1, g2, fun _ => t, hv⟩
    split at h4
    · rename_i x
      rw [if_pos (by simpa using h2)]
      exact fin x _ (h3 0 x rfl) h4
    · rename_i hne
      have hl : ¬ vs.length = 1 := by
        intro h1
        rw [h1] at h2
        obtain ⟨x, hx⟩ := List.length_eq_one_iff.1 h2.symm
        exact hne x hx
      rw [if_neg hl]
      exact fin (.tup l) _ (.tup l vs.toArray (by simpa using h2) (fun i av hi => by simpa using h3 i av hi)) h4
  cases e with
  | normal => exact key hq
  | ret => exact key hq
  | _ => exact hq.elim

theorem inl_n {E : Env} {rs : List ResultVar} {R : AV → AH → Prop} {st : ASt} : inlQ E rs R .normal st = aRes E st rs fun l => match l with | [x] => R x st.h | l => R (.tup l) st.h := (rfl)
theorem inl_r {E : Env} {rs : List ResultVar} {R : AV → AH → Prop} {st : ASt} : inlQ E rs R .ret st = aRes E st rs fun l => match l with | [x] => R x st.h | l => R (.tup l) st.h := (rfl)
theorem X_mkf {E : Env} {st : ASt} {K : ASt → Prop} {d : Option Nat} {t : TypeId} {p : String} {af : Array Edge} {g : Option (Nat × Bool)} {f : Nat} {l : List Operand} :
    aOp E ⟨d, .makeFunc (.func f) #[] ⟨l⟩, t, p, af, g⟩ st K = aPut st d (.clo f (l.map st.ev)) K := by
  simp [aOp, aPure]
theorem nil_p {k b c : Nat} {F : AV → Prop} : aNil (.p k b c) F = F (.p k b c) := (rfl)
theorem nil_e {k sz r c : Nat} {H : Hd} {F : AV → Prop} : aNil (.e k H sz r c) F = F (.e k H sz r c) := (rfl)
theorem nil_rp {row : List CD} {F : AV → Prop} : aNil (.rp row) F = F (.rp row) := (rfl)
theorem nil_clo {f : Nat} {l : List AV} {F : AV → Prop} : aNil (.clo f l) F = F (.clo f l) := (rfl)
attribute [simp ↓] X_mkf nil_p nil_e nil_rp nil_clo inl_n inl_r
attribute [simp] argN
end Go.AM
