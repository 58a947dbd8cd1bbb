import Derived.Test.YtdfdabjdfmamgaaGreatPA
import Derived.Test.YtdfdabjdfmamgaaGreatMF
import Derived.Test.YtdfdabjdfmamgaaGreatNA
namespace Go.Proofs.YtdfdabjdfmamgaaGreat
open Go.AM
set_option maxRecDepth 20000
theorem sumN_append {α : Type} {f : α → Nat} : ∀ (a b : List α), sumN f (a ++ b) = sumN f a + sumN f b
  | [], b => by simp [sumN]
  | x :: a, b => by simp only [List.cons_append, sumN, sumN_append a b]; omega
theorem sumN_set {α : Type} {f : α → Nat} : ∀ (l : List α) (i : Nat) (h : i < l.length) (x : α), f x = f l[i] → sumN f (l.set i x) = sumN f l
  | a :: l, 0, _, x, hx => by simp at hx; simp [sumN, hx]
  | a :: l, i + 1, h, x, hx => by
    simp only [List.set_cons_succ, sumN]
    rw [sumN_set l i (by simpa using h) x (by simpa using hx)]
theorem nbFlush_sum {L : List Part} {P : List Int} {D : Int} : sumN nPart (nbFlush L P D) = sumN nPart L + P.length := by
  unfold nbFlush
  rw [sumN_append, sumN_append]
  by_cases hp : P = [] <;> by_cases hd : 0 < D <;> simp [hp, hd, sumN, nPart]
theorem nbKeep_sum {L : List Part} {n : Int} : sumN nPart (nbKeep L n) = sumN nPart L := by
  unfold nbKeep
  split
  · rename_i h
    split
    · exact sumN_set L _ (by omega) _ rfl
    · rw [sumN_append]; simp [sumN, nPart]
  · rename_i h
    have : L = [] := List.eq_nil_of_length_eq_zero (by omega)
    subst this
    simp [sumN, nPart]
theorem nbRun_sum {o : List Part} : ∀ (i : Nat), i ≤ o.length → sumN nPart (nbRun (o.take i)).1 + (nbRun (o.take i)).2.1.length ≤ sumN nPart (o.take i)
  | 0, _ => by simp [nbRun, sumN]
  | i + 1, hi => by
    have ih := nbRun_sum (o := o) i (by omega)
    have hlt : i < o.length := by omega
    rw [nbRun_suc hlt, ← List.take_append_getElem hlt, sumN_append]
    generalize nbRun (o.take i) = s at ih
    generalize o[i] = p
    obtain ⟨L, P, D⟩ := s
    simp only at ih
    have hp : sumN nPart [p] = p.signs.length := by simp [sumN, nPart]
    rw [hp]
    unfold nbStep
    split
    · simp; omega
    · split
      · simp; omega
      · split
        · simp only [nbKeep_sum, nbFlush_sum]; simp; omega
        · simp; omega
theorem normal_sum (o : List Part) : sumN nPart (normal o) ≤ sumN nPart o := by
  have h := nbRun_sum (o := o) o.length (by omega)
  rw [List.take_length] at h
  unfold normal
  rw [nbFlush_sum]
  exact h
theorem normal_len {o : List Part} (ho : ∀ p ∈ o, partOk p) : (normal o).length ≤ 3 * o.length + 2 := by
  have h := (nbRun_ok ho o.length (by omega)).l
  rw [List.take_length] at h
  have := nbFlush_len (nbRun o).1 (nbRun o).2.1 (nbRun o).2.2
  unfold normal
  omega
theorem sumN_parts {o : List Part} (ho : ∀ p ∈ o, partOk p) : sumN nPart o ≤ 200 * o.length := by
  induction o with
  | nil => simp [sumN]
  | cons p o ih =>
    have h1 := (ho p (List.mem_cons_self ..)).bounds
    have h2 := ih (fun q hq => ho q (List.mem_cons_of_mem _ hq))
    simp only [sumN, nPart, List.length_cons]
    omega
theorem nL_normal {o : List Part} (ho : ∀ p ∈ o, partOk p) : nL nPart (normal o) ≤ 203 * o.length + 2 := by
  have h1 := normal_sum o
  have h2 := normal_len ho
  have h3 := sumN_parts ho
  unfold nL; omega
theorem opNorm_n (o : List Part) : nL nPart (opNorm o) ≤ 2 ^ 20 := by
  unfold opNorm
  split
  · rename_i h
    have := nL_normal h.1.1
    have := h.1.2
    omega
  · simp [nL, sumN]
def isNorm (o : List Part) : Prop := opOk o ∧ opNorm o = o
theorem implIsNorm_c (o : List Part) (hl : nL nPart o ≤ 2 ^ 40) : PureC Tryz.prog 261 [.c (.s (o.map Part.row))] (.one (.c (vb (isNorm o)) 1)) := by
  refine PureC.intro' tt_ok Tryz.func261 (by kernel_rfl) rfl rfl rfl (Nat.le_of_ble_eq_true rfl) (fun w0 base => ?_)
  simp
  refine ACall.pure (implOpOk_c o hl) (by simp) ?_
  by_cases h : opOk o
  · simp [h]
    refine ACall.pure (implOpNorm_c o hl) (by simp) ?_
    simp
    intro H
    refine ACall.pure (implOpSame_c o (opNorm o) hl) (by simp) ?_
    simp [isNorm, h]
    exact dc_congr ⟨fun h => h.symm, fun h => h.symm⟩
  · simp [h, isNorm]
theorem specIsNorm_c (o : List Part) (hl : nL nPart o ≤ 2 ^ 40) : PureC Tryz.prog 257 [.c (.s (o.map Part.row))] (.one (.c (vb (isNorm o)) 1)) := by
  refine PureC.intro' tt_ok Tryz.func257 (by kernel_rfl) rfl rfl rfl (Nat.le_of_ble_eq_true rfl) (fun w0 base => ?_)
  simp
  refine ACall.pure (specOpOk_c o hl) (by simp) ?_
  by_cases h : opOk o
  · simp [h]
    refine ACall.pure (specOpNorm_c o hl) (by simp) ?_
    simp
    intro H
    refine ACall.pure (specOpSame_c' (opNorm o) o (Nat.le_trans (opNorm_n o) (by decide))) (by simp) ?_
    simp [isNorm, h]
  · simp [h, isNorm]
def textOk (t : List Int) : Prop := t.length ≤ 200 ∧ signsOk t
theorem implTextOk_c (t : List Int) (hl : t.length ≤ 2 ^ 40) : PureC Tryz.prog 223 [.c (.s (t.map intR))] (.one (.c (vb (textOk t)) 1)) := by
  refine PureC.intro' tt_ok Tryz.func223 (by kernel_rfl) rfl rfl rfl (Nat.le_of_ble_eq_true rfl) (fun w0 base => ?_)
  by_cases h : t.length ≤ 200
  · have h' : (t.length : Int) ≤ 200 := by omega
    simp [h']
    refine ACall.pure (implSignsOk_c t hl) (by simp) ?_
    simp [textOk, h]
  · have h' : ¬ (t.length : Int) ≤ 200 := by omega
    simp [h', textOk, h]
theorem specTextOk_c (t : List Int) (hl : t.length ≤ 2 ^ 40) : PureC Tryz.prog 218 [.c (.s (t.map intR))] (.one (.c (vb (textOk t)) 1)) := by
  refine PureC.intro' tt_ok Tryz.func218 (by kernel_rfl) rfl rfl rfl (Nat.le_of_ble_eq_true rfl) (fun w0 base => ?_)
  simp
  refine ACall.pure (specSignsOk_c t hl) (by simp) ?_
  have e : ((t.length : Int) ≤ 200) = (t.length ≤ 200) := by simp; omega
  by_cases hg : signsOk t
  · simp [hg, textOk, e]
  · simp [hg, textOk]
end Go.Proofs.YtdfdabjdfmamgaaGreat

namespace Go.Proofs.YtdfdabjdfmamgaaGreat
set_option maxRecDepth 20000
def psz (p : Part) : Nat := p.n.toNat + p.signs.length
def pcut (p : Part) (n : Nat) : Part := if p.kind = 2 then ⟨p.kind, p.n, p.signs.take n⟩ else ⟨p.kind, n, p.signs⟩
def pleft (p : Part) (n : Nat) : Part := if p.kind = 2 then ⟨p.kind, p.n, p.signs.drop n⟩ else ⟨p.kind, p.n - n, p.signs⟩
theorem psz_int {p : Part} (h : partOk p) : (psz p : Int) = p.n + p.signs.length ∧ psz p ≤ 200 := by
  have hb := h.bounds
  unfold psz
  by_cases hk : p.kind = 2
  · have := hb.2.2.2.2.1 hk
    omega
  · have := hb.2.2.2.2.2 hk
    rw [this]
    simp
    omega
@[simp] theorem pcut_kind {p : Part} {n : Nat} : (pcut p n).kind = p.kind := by unfold pcut; split <;> rfl
@[simp] theorem pleft_kind {p : Part} {n : Nat} : (pleft p n).kind = p.kind := by unfold pleft; split <;> rfl
theorem pleft_ok {p : Part} (h : partOk p) {n : Nat} (hn : n ≤ psz p) : partOk (pleft p n) := by
  have hp := psz_int h
  unfold pleft
  by_cases hk : p.kind = 2
  · rw [if_pos hk]
    rw [partOk_put hk] at h
    refine .inr ⟨hk, h.1, ?_, fun m hm => h.2.2 m (List.mem_of_mem_drop hm)⟩
    simp
    omega
  · rw [if_neg hk]
    have hb := h.bounds
    have hk2 : p.kind = 1 ∨ p.kind = 3 := by omega
    have := hb.2.2.2.2.2 hk
    refine .inl ⟨hk2, ?_, this⟩
    rw [this] at hp
    simp at hp
    simp only
    omega
theorem pleft_sz {p : Part} (h : partOk p) {n : Nat} (hn : n ≤ psz p) : psz (pleft p n) = psz p - n := by
  have hb := h.bounds
  unfold psz pleft at *
  by_cases hk : p.kind = 2
  · rw [if_pos hk]
    have := hb.2.2.2.2.1 hk
    simp only [this, List.length_drop] at hn ⊢
    omega
  · rw [if_neg hk]
    have := hb.2.2.2.2.2 hk
    simp only [this, List.length_nil] at hn ⊢
    omega
theorem pleft_pleft {p : Part} {m n : Nat} : pleft (pleft p m) n = pleft p (m + n) := by
  unfold pleft
  by_cases hk : p.kind = 2
  · simp [hk, List.drop_drop]
  · simp [hk]
    omega
theorem pleft_zero {p : Part} : pleft p 0 = p := by unfold pleft; split <;> simp
/-- the parts from the first that isn't empty -/
def nxt : List Part → List Part
  | [] => []
  | p :: l => if psz p = 0 then nxt l else p :: l
end Go.Proofs.YtdfdabjdfmamgaaGreat

namespace Go.Proofs.YtdfdabjdfmamgaaGreat
set_option maxRecDepth 20000
end Go.Proofs.YtdfdabjdfmamgaaGreat

namespace Go.Proofs.YtdfdabjdfmamgaaGreat
set_option maxRecDepth 20000

/-- what remains behind a place in an operation -/
def cur (o : List Part) (i d : Nat) : List Part :=
  match o.drop i with
  | [] => []
  | p :: l => pleft p d :: l
theorem cur_end {o : List Part} {i d : Nat} (h : o.length ≤ i) : cur o i d = [] := by unfold cur; rw [List.drop_eq_nil_of_le h]
theorem cur_at {o : List Part} {i d : Nat} (h : i < o.length) : cur o i d = pleft o[i] d :: o.drop (i + 1) := by unfold cur; rw [List.drop_eq_getElem_cons h]
theorem cur_zero {o : List Part} {i : Nat} : cur o i 0 = o.drop i := by
  unfold cur
  cases o.drop i with
  | nil => rfl
  | cons p l => simp [pleft_zero]
theorem cur_step {o : List Part} (ho : ∀ p ∈ o, partOk p) {i : Nat} (h : i < o.length) : nxt (cur o i (psz o[i])) = nxt (cur o (i + 1) 0) := by
  rw [cur_at h, cur_zero]
  have := pleft_sz (ho _ (List.getElem_mem h)) (Nat.le_refl _)
  simp [nxt, this]
theorem cur_stop {o : List Part} (ho : ∀ p ∈ o, partOk p) {i d : Nat} (h : i < o.length) (hd : d < psz o[i]) : nxt (cur o i d) = cur o i d := by
  rw [cur_at h]
  have := pleft_sz (ho _ (List.getElem_mem h)) (Nat.le_of_lt hd)
  have h2 : ¬ psz (pleft o[i] d) = 0 := by omega
  simp [nxt, h2]
theorem cur_left {o : List Part} {i d n : Nat} (h : i < o.length) {p : Part} {l : List Part} (hc : cur o i d = p :: l) : pleft p n :: l = cur o i (d + n) := by
  rw [cur_at h] at hc ⊢
  cases hc
  rw [pleft_pleft]
end Go.Proofs.YtdfdabjdfmamgaaGreat

namespace Go.Proofs.YtdfdabjdfmamgaaGreat
open Go.AM
set_option maxRecDepth 20000
theorem get_miss {k j : Nat} {o : AObj} {h : AH} (hne : j ≠ k) : AH.get ((k, o) :: h) j = AH.get h j := if_neg hne
end Go.Proofs.YtdfdabjdfmamgaaGreat

namespace Go.Proofs.YtdfdabjdfmamgaaGreat
open Go.AM
set_option maxRecDepth 20000

theorem implSize_c (p : Part) (h : partOk p) : PureC Tryz.prog 311 [.agg p.row] (.one (.c (vi (psz p)) 1)) := by
  refine PureC.intro' tt_ok Tryz.func311 (by kernel_rfl) rfl rfl rfl (Nat.le_of_ble_eq_true rfl) (fun w0 base => ?_)
  have hp := psz_int h
  have e : Go.IntKind.i64.wrap (p.n + (p.signs.length : Int)) = p.n + p.signs.length := Go.IntWalk.i64_in _ (by omega)
  rw [hp.1]
  simp [Part.row, e]

def hdV : List Part → AV
  | [] => .agg [.v (.int .i64 0), .v (.int .i64 0), .nil]
  | p :: _ => .agg [.v (.int .i64 p.kind), .v (.int .i64 p.n), .ro (p.signs.map intR)]

theorem next_call {w0 : World} {bF bG : Nat → Prop} {bl : Bool} {st : ASt} {dst : Option Nat} {K : ASt → Prop} {kx b kb : Nat} {l : List Part} (hk : kx + 16 < kb) (hs : ∀ p ∈ l, partOk p)
    (g : st.h.get kx = .vars b 321 [.ro (l.map Part.row)])
    (hK : ∀ h', AH.get h' kx = .vars b 321 [.ro ((nxt l).map Part.row)] → (∀ q, q ≠ kx → q < kb → AH.get h' q = st.h.get q) → aPut ⟨st.n, st.kb, st.t, h'⟩ dst (hdV (nxt l)) K) :
    ACall ⟨Tryz.prog, tt, w0, ⟨bF, bG, bl, fun _ => True⟩⟩ 309 [.p kx b 0] st dst K := by
  refine ACall.inline tt_ok Tryz.func309 (by kernel_rfl) rfl rfl rfl (Nat.le_of_ble_eq_true rfl) kb (fun w1 F => ?_)
  simp
  intro b2
  have hkk : ¬ kx = kb + 32 := by omega
  have hkk2 : ¬ kb + 32 = kx := by omega
  refine LoopT.introW eok (fun m : List Part => nxt m = nxt l ∧ ∀ p ∈ m, p ∈ l) (fun m => ⟨40, kb, [(0, .p kx b 0), (2, .p (kb + 32) b2 0)], (kx, .vars b 321 [.ro (m.map Part.row)]) :: (kb + 32, .vars b2 259 [.v (.int .i64 0), .v (.int .i64 0), .nil]) :: st.h⟩) (fun m => m.length) l ⟨rfl, fun _ h => h⟩ (by simp [hkk, g]) (fun m hm => ?_)
  · cases m with
    | nil =>
      have hn : nxt l = [] := by rw [← hm.1]; rfl
      rw [hn] at hK
      simp [hkk2]
      refine hK _ (by simp [hkk]) (fun q q1 q2 => ?_)
      repeat (first | exact rfl | refine (get_miss (by omega)).trans ?_)
    | cons p m =>
      have hp := hs p (hm.2 p (List.mem_cons_self ..))
      simp [Part.row]
      refine ACall.pure (implSize_c p hp) (by simp [Part.row]) ?_
      by_cases hz : psz p = 0
      · simp [hz, hkk, hkk2]
        refine ⟨m, ⟨by rw [← hm.1]; simp [nxt, hz], fun q hq => hm.2 q (List.mem_cons_of_mem _ hq)⟩, by omega, ?_⟩
        simp [cut]
        exact List.take_of_length_le (by simp)
      · have hn : nxt l = p :: m := by rw [← hm.1]; simp [nxt, hz]
        rw [hn] at hK
        have hm0 : ¬ (m.length : Int) + 1 = 0 := by omega
        simp [hz, hkk2, hm0]
        refine hK _ ?_ (fun q q1 q2 => ?_)
        · simp [hkk, Part.row]
        repeat (first | exact rfl | refine (get_miss (by omega)).trans ?_)
end Go.Proofs.YtdfdabjdfmamgaaGreat

namespace Go.Proofs.YtdfdabjdfmamgaaGreat
open Go.AM
set_option maxRecDepth 20000

theorem cut_take (s : List Int) {n : Nat} (_h : n ≤ s.length) : cut (s.map intR) 0 n = (s.take n).map intR := by
  unfold cut
  split
  · rename_i h2
    rw [List.take_of_length_le (by simp at h2; omega)]
  · simp [List.map_take]
theorem cut_drop (s : List Int) {n : Nat} : cut (s.map intR) n (s.length - n) = (s.drop n).map intR := by
  unfold cut
  split
  · rename_i h2
    rw [h2.1]; simp
  · rw [List.take_of_length_le (by simp), List.map_drop]

theorem take_call {w0 : World} {bF bG : Nat → Prop} {bl : Bool} {st : ASt} {dst : Option Nat} {K : ASt → Prop} {kx b n : Nat} {p : Part} {l : List Part} (hk : kx < 15000) (hp : partOk p) (hn : n ≤ psz p) (hl : l.length ≤ 2 ^ 20)
    (g : st.h.get kx = .vars b 321 [.ro ((p :: l).map Part.row)])
    (hK : ∀ h', AH.get h' kx = .vars b 321 [.ro ((pleft p n :: l).map Part.row)] → (∀ q, q ≠ kx → q < 15000 → AH.get h' q = st.h.get q) → aPut ⟨st.n, st.kb, st.t, h'⟩ dst (hdV [pcut p n]) K) :
    ACall ⟨Tryz.prog, tt, w0, ⟨bF, bG, bl, fun _ => True⟩⟩ 312 [.p kx b 0, .v (.int .i64 n)] st dst K := by
  refine ACall.inlineE tt_ok Tryz.func312 (by kernel_rfl) rfl rfl rfl (Nat.le_of_ble_eq_true rfl) 20000 (fun w1 F => ?_)
  have hps := psz_int hp
  have hb := hp.bounds
  have k0 : ¬ kx = 20064 := by omega
  have k1 : ¬ kx = 20080 := by omega
  have k2 : ¬ kx = 20096 := by omega
  have k3 : ¬ kx = 20112 := by omega
  have k4 : ¬ kx = 20608 := by omega
  have j0 : ¬ 20064 = kx := by omega
  have j1 : ¬ 20080 = kx := by omega
  have j2 : ¬ 20096 = kx := by omega
  have j3 : ¬ 20112 = kx := by omega
  have j4 : ¬ 20608 = kx := by omega
  simp [g, Part.row, k0]
  intro b4 b5
  refine DrawT.cut (fun x : Nat × Nat => ⟨48, 20000, [(0, .p kx b 0), (1, .v (.int .i64 n)), (4, .p 20064 b4 0), (5, .p 20080 b5 0), (6, .p 20096 x.1 0), (7, .p 20112 x.2 0)],
    (20096, .vars x.1 259 [.v (.int .i64 p.kind), .v (.int .i64 p.n), .ro (p.signs.map intR)]) :: (20112, .vars x.2 259 [.v (.int .i64 p.kind), .v (.int .i64 p.n), .ro (p.signs.map intR)]) :: (20080, .vars b5 259 [.v (.int .i64 p.kind), .v (.int .i64 p.n), .ro (p.signs.map intR)]) :: (20064, .vars b4 259 [.v (.int .i64 0), .v (.int .i64 0), .nil]) :: st.h⟩) ?_ ?_
  · refine DrawT.introP2 eok mix [0, 1] 2 3 [4, 5] [([false, false], [true, true]), ([false, false], [true, true]), ([false, true], [true, false]), ([true, false], [false, false])] [false, false] [([false, false], [true, true]), ([false, false], [true, true]), ([false, true], [true, false]), ([true, false], [false, false])] [false, false] (by kernel_rfl) ?_
    simp
    trace_state
  rintro ⟨b6, b7⟩
  simp
  by_cases hk2 : p.kind = 2
  · simp [hk2]
    refine DrawT.introP eok mix [0, 1, 2, 3, 4, 5, 6, 7, 8, 10] [9, 11] [([false, true, false, false, false, false, true, true, true, true], [true, false, true, true, true, true, false, false, false, false]), ([true, false, true, true, true, true, false, false, false, false], [false, false, false, false, false, false, false, false, false, false])] [false, false, false, false, false, false, false, false, false, false] (by kernel_rfl) ?_
    have hns : n ≤ p.signs.length := by have := hb.2.2.2.2.1 hk2; omega
    simp [hns]
    refine DrawT.introP eok mix [0, 1, 3, 4, 5, 6, 7, 9, 10] [2, 8, 11] [([false, false, false, false, false, false, false, true, false], [true, true, true, true, true, true, true, false, true]), ([false, false, true, false, false, false, false, false, false], [true, true, false, true, true, true, true, false, true]), ([true, false, false, true, true, true, true, false, true], [false, true, false, false, false, false, false, false, false])] [false, true, false, false, false, false, false, false, false] (by kernel_rfl) ?_
    have ct : cut ([vi p.kind, vi p.n, CD.s (p.signs.map intR)] :: l.map Part.row) 1 l.length = l.map Part.row := by
      simp [cut]
      exact List.take_of_length_le (by simp)
    have hv : hdV [pcut p n] = .agg [.v (.int .i64 2), .v (.int .i64 p.n), .ro ((p.signs.map intR).take n)] := by simp [hdV, pcut, hk2, List.map_take]
    rw [hv] at hK
    simp [g, Part.row, k0, k1, k2, k3, k4, j0, j3, ct, cut_take p.signs hns, cut_drop p.signs]
    intro b8
    refine ⟨by omega, fun H => ⟨_, HEnt.frz (kx := kx) (b := b) (T := 321) (cells := [.sl 20608 H 3 0 (1 + l.length)]) (j := 0) (k := 20608) (sz := 3) (off := 0) (len := 1 + l.length) (H := H) (rows := (pleft p n).row :: l.map Part.row) (own := false) ?_ rfl ?_ (by simp; omega), ?_⟩⟩
    · simp [k0]
    · simp [j4, Part.row, pleft, hk2]
    · refine hK _ ?_ (fun q q1 q2 => ?_)
      · simp [cut, Nat.add_comm]
      · repeat (first | exact rfl | refine (get_miss (by omega)).trans ?_)
  · simp [hk2]
    refine DrawT.introP eok mix [0, 1, 2, 3, 4, 5, 7] [6, 8] [([false, true, false, false, false, false, true], [true, false, true, true, true, true, false]), ([true, false, true, true, true, true, false], [false, false, false, false, false, false, false])] [false, false, false, false, false, false, false] (by kernel_rfl) ?_
    have e : Go.IntKind.i64.wrap (p.n - (n : Int)) = p.n - n := Go.IntWalk.i64_in _ (by omega)
    simp [e]
    refine DrawT.introP eok mix [0, 1, 3, 4, 5, 6, 7, 9, 10] [2, 8, 11] [([false, false, false, false, false, false, false, true, false], [true, true, true, true, true, true, true, false, true]), ([false, false, true, false, false, false, false, false, false], [true, true, false, true, true, true, true, false, true]), ([true, false, false, true, true, true, true, false, true], [false, true, false, false, false, false, false, false, false])] [false, true, false, false, false, false, false, false, false] (by kernel_rfl) ?_
    have ct : cut ([vi p.kind, vi p.n, CD.s (p.signs.map intR)] :: l.map Part.row) 1 l.length = l.map Part.row := by
      simp [cut]
      exact List.take_of_length_le (by simp)
    have hv : hdV [pcut p n] = .agg [.v (.int .i64 p.kind), .v (.int .i64 n), .ro (p.signs.map intR)] := by simp [hdV, pcut, hk2]
    rw [hv] at hK
    simp [g, Part.row, k0, k1, k2, k3, k4, j0, j3, ct]
    intro b8
    refine ⟨by omega, fun H => ⟨_, HEnt.frz (kx := kx) (b := b) (T := 321) (cells := [.sl 20608 H 3 0 (1 + l.length)]) (j := 0) (k := 20608) (sz := 3) (off := 0) (len := 1 + l.length) (H := H) (rows := (pleft p n).row :: l.map Part.row) (own := false) ?_ rfl ?_ (by simp; omega), ?_⟩⟩
    · simp [k0]
    · simp [j4, Part.row, pleft, hk2]
    · refine hK _ ?_ (fun q q1 q2 => ?_)
      · simp [cut, Nat.add_comm]
      · repeat (first | exact rfl | refine (get_miss (by omega)).trans ?_)
end Go.Proofs.YtdfdabjdfmamgaaGreat

namespace Go.Proofs.YtdfdabjdfmamgaaGreat
open Go.AM
set_option maxRecDepth 20000
/-- two operations that are being read; all else below 14000 stays as it was -/
structure RS (kx ky bx by_ : Nat) (h0 h : AH) (X Y : List Part) : Prop where
  ne : kx ≠ ky
  lx : kx < 14000 - 16
  ly : ky < 14000 - 16
  gx : AH.get h kx = .vars bx 321 [.ro (X.map Part.row)]
  gy : AH.get h ky = .vars by_ 321 [.ro (Y.map Part.row)]
  o : ∀ q, q ≠ kx → q ≠ ky → q < 14000 → AH.get h q = AH.get h0 q
section
variable {w0 : World} {bF bG : Nat → Prop} {bl : Bool} {st : ASt} {dst : Option Nat} {K : ASt → Prop} {kx ky bx by_ : Nat} {h0 : AH} {X Y : List Part}
theorem RS.next (R : RS kx ky bx by_ h0 st.h X Y) (hs : ∀ p ∈ X, partOk p) (hK : ∀ h', RS kx ky bx by_ h0 h' (nxt X) Y → aPut ⟨st.n, st.kb, st.t, h'⟩ dst (hdV (nxt X)) K) :
    ACall ⟨Tryz.prog, tt, w0, ⟨bF, bG, bl, fun _ => True⟩⟩ 309 [.p kx bx 0] st dst K := by
  have := R.lx
  have := R.ly
  refine next_call (l := X) (kb := 20000) (by omega) hs R.gx (fun h1 g1 o1 => hK h1 ⟨R.ne, R.lx, R.ly, g1, by rw [o1 ky R.ne.symm (by omega)]; exact R.gy, fun q q1 q2 q3 => by rw [o1 q q1 (by omega)]; exact R.o q q1 q2 q3⟩)
theorem RS.take {p : Part} {l : List Part} {n : Nat} (R : RS kx ky bx by_ h0 st.h (p :: l) Y) (hp : partOk p) (hn : n ≤ psz p) (hl : l.length ≤ 2 ^ 20) (hK : ∀ h', RS kx ky bx by_ h0 h' (pleft p n :: l) Y → aPut ⟨st.n, st.kb, st.t, h'⟩ dst (hdV [pcut p n]) K) :
    ACall ⟨Tryz.prog, tt, w0, ⟨bF, bG, bl, fun _ => True⟩⟩ 312 [.p kx bx 0, .v (.int .i64 n)] st dst K := by
  have := R.lx
  have := R.ly
  refine take_call (by omega) hp hn hl R.gx (fun h1 g1 o1 => hK h1 ⟨R.ne, R.lx, R.ly, g1, by rw [o1 ky R.ne.symm (by omega)]; exact R.gy, fun q q1 q2 q3 => by rw [o1 q q1 (by omega)]; exact R.o q q1 q2 q3⟩)
end
end Go.Proofs.YtdfdabjdfmamgaaGreat

namespace Go.Proofs.YtdfdabjdfmamgaaGreat
open Go.AM
set_option maxRecDepth 20000
set_option maxHeartbeats 1600000
end Go.Proofs.YtdfdabjdfmamgaaGreat

namespace Go.Proofs.YtdfdabjdfmamgaaGreat
open Go.AM
set_option maxRecDepth 20000
theorem l04Size_c (p : Part) (h : partOk p) : PureC Tryz.prog 333 [.agg p.row] (.one (.c (vi (psz p)) 1)) := by
  refine PureC.intro' tt_ok Tryz.func333 (by kernel_rfl) rfl rfl rfl (Nat.le_of_ble_eq_true rfl) (fun w0 base => ?_)
  have hp := psz_int h
  have hb := h.bounds
  rw [hp.1]
  simp [Part.row]
  by_cases hk : p.kind = 2
  · have := hb.2.2.2.2.1 hk
    simp [hk, this]
  · have := hb.2.2.2.2.2 hk
    simp [hk, this]
/-- a place in an operation -/
structure Cu (a : List Part) (i d : Nat) (X : List Part) : Prop where
  ok : ∀ p ∈ a, partOk p
  le : i ≤ a.length
  v : ∀ h : i < a.length, d ≤ psz a[i]
  z : i = a.length → d = 0
  c : cur a i d = X
def hdK : List Part → Int
  | [] => 0
  | p :: _ => p.kind
/-- two operations that are being read by the reference; all else below 14000 stays as it was -/
structure CR (kx ky bx by_ : Nat) (h0 h : AH) (a b : List Part) (i d j e : Nat) (X Y : List Part) : Prop where
  ne : kx ≠ ky
  lx : kx < 14000 - 16
  ly : ky < 14000 - 16
  gx : AH.get h kx = .vars bx 304 [.ro (a.map Part.row), .v (.int .i64 i), .v (.int .i64 d)]
  gy : AH.get h ky = .vars by_ 304 [.ro (b.map Part.row), .v (.int .i64 j), .v (.int .i64 e)]
  o : ∀ q, q ≠ kx → q ≠ ky → q < 14000 → AH.get h q = AH.get h0 q
  cx : Cu a i d X
  cy : Cu b j e Y
theorem Cu.bnd {a : List Part} {i d : Nat} {X : List Part} (h : Cu a i d X) : d ≤ 200 := by
  by_cases hlt : i < a.length
  · have := h.v hlt
    have := (psz_int (h.ok _ (List.getElem_mem hlt))).2
    omega
  · have := h.z (by have := h.le; omega)
    omega
theorem kind_call {w0 : World} {bF bG : Nat → Prop} {bl : Bool} {st : ASt} {dst : Option Nat} {K : ASt → Prop} {kx b i d : Nat} {a X : List Part} (_hk : kx < 14000) (hl : a.length ≤ 2 ^ 20) (cx : Cu a i d X)
    (g : st.h.get kx = .vars b 304 [.ro (a.map Part.row), .v (.int .i64 i), .v (.int .i64 d)])
    (hK : ∀ h' i' d', Cu a i' d' (nxt X) → AH.get h' kx = .vars b 304 [.ro (a.map Part.row), .v (.int .i64 i'), .v (.int .i64 d')] → (∀ q, q ≠ kx → q < 20000 → AH.get h' q = st.h.get q) → aPut ⟨st.n, st.kb, st.t, h'⟩ dst (.v (.int .i64 (hdK (nxt X)))) K) :
    ACall ⟨Tryz.prog, tt, w0, ⟨bF, bG, bl, fun _ => True⟩⟩ 295 [.p kx b 0] st dst K := by
  refine ACall.inline tt_ok Tryz.func295 (by kernel_rfl) rfl rfl rfl (Nat.le_of_ble_eq_true rfl) 20000 (fun w1 F => ?_)
  simp
  refine LoopT.introW eok (fun x : Nat × Nat => Cu a x.1 x.2 (cur a x.1 x.2) ∧ nxt (cur a x.1 x.2) = nxt X) (fun x => ⟨62, 20000, [(0, .p kx b 0), (2, .v (.int .i64 0))], (kx, .vars b 304 [.ro (a.map Part.row), .v (.int .i64 x.1), .v (.int .i64 x.2)]) :: st.h⟩) (fun x => a.length - x.1) (i, d) ⟨⟨cx.ok, cx.le, cx.v, cx.z, rfl⟩, by rw [cx.c]⟩ (by simp [g]) (fun x hx => ?_)
  obtain ⟨i, d⟩ := x
  obtain ⟨hc, hn⟩ := hx
  have hcl := hc.le
  have hb := hc.bnd
  simp only at hc hn hcl ⊢
  simp
  by_cases hlt : i < a.length
  · have hp := hc.ok _ (List.getElem_mem hlt)
    have hd := hc.v hlt
    have hps := psz_int hp
    refine DrawT.quiet eok mix (by kernel_rfl) ?_
    simp [hlt]
    refine ⟨_, _, l04Size_c a[i] hp, by simp [Part.row], ?_⟩
    by_cases he : d = psz a[i]
    · have e1 : Go.IntKind.i64.wrap ((i : Int) + 1) = ((i + 1 : Nat) : Int) := i64_suc (by omega)
      simp [he, e1]
      refine ⟨i + 1, 0, ⟨⟨hc.ok, by omega, fun _ => by omega, fun _ => rfl, rfl⟩, ?_⟩, by omega, by omega, rfl⟩
      rw [← hn, he, cur_step hc.ok hlt]
    · have he2 : ¬ (d : Int) = psz a[i] := by omega
      have hne : ¬ i = a.length := by omega
      simp [he2]
      refine DrawT.quiet eok mix (by kernel_rfl) ?_
      have hne2 : ¬ (i : Int) = a.length := by omega
      simp [hne2]
      refine DrawT.quiet eok mix (by kernel_rfl) ?_
      simp [hlt, Part.row]
      have hs := cur_stop hc.ok hlt (show d < psz a[i] by omega)
      rw [hs] at hn
      have hk2 : hdK (nxt X) = a[i].kind := by rw [← hn, cur_at hlt]; simp [hdK]
      rw [hk2] at hK
      refine hK _ i d ⟨hc.ok, hc.le, hc.v, hc.z, hn⟩ (by simp) (fun q q1 q2 => by simp [q1])
  · have hi : i = a.length := by omega
    have hd := hc.z hi
    refine DrawT.quiet eok mix (by kernel_rfl) ?_
    simp [hlt]
    refine DrawT.quiet eok mix (by kernel_rfl) ?_
    simp [hi]
    have hn2 : nxt X = [] := by rw [← hn, cur_end (by omega)]; rfl
    rw [hn2] at hK
    refine hK _ i d ⟨hc.ok, hc.le, hc.v, hc.z, cur_end (by omega)⟩ (by simp [hi]) (fun q q1 q2 => by simp [q1])
theorem Cu.head {a : List Part} {i d : Nat} {p : Part} {l : List Part} (h : Cu a i d (p :: l)) : ∃ hi : i < a.length, p = pleft a[i] d ∧ l = a.drop (i + 1) ∧ psz p = psz a[i] - d ∧ d ≤ psz a[i] ∧ p.kind = a[i].kind ∧ partOk p := by
  have hi : i < a.length := by
    have := h.le
    rcases Nat.lt_or_ge i a.length with h1 | h1
    · exact h1
    · have := h.c
      rw [cur_end h1] at this
      cases this
  have hc := h.c
  rw [cur_at hi] at hc
  cases hc
  have hp := h.ok _ (List.getElem_mem hi)
  exact ⟨hi, rfl, rfl, pleft_sz hp (h.v hi), h.v hi, by simp, pleft_ok hp (h.v hi)⟩
theorem Cu.add {a : List Part} {i d n : Nat} {p : Part} {l : List Part} (h : Cu a i d (p :: l)) (hn : n ≤ psz p) : Cu a i (d + n) (pleft p n :: l) := by
  obtain ⟨hi, h1, h2, h3, h4, -, -⟩ := h.head
  exact ⟨h.ok, h.le, fun _ => by omega, fun he => by omega, (cur_left hi h.c).symm⟩
theorem left_call {w0 : World} {bF bG : Nat → Prop} {bl : Bool} {st : ASt} {dst : Option Nat} {K : ASt → Prop} {kx b i d : Nat} {a l : List Part} {p : Part} (cx : Cu a i d (p :: l))
    (g : st.h.get kx = .vars b 304 [.ro (a.map Part.row), .v (.int .i64 i), .v (.int .i64 d)])
    (hK : aPut st dst (.v (.int .i64 (psz p))) K) :
    ACall ⟨Tryz.prog, tt, w0, ⟨bF, bG, bl, fun _ => True⟩⟩ 296 [.p kx b 0] st dst K := by
  refine ACall.inline tt_ok Tryz.func296 (by kernel_rfl) rfl rfl rfl (Nat.le_of_ble_eq_true rfl) 20000 (fun w1 F => ?_)
  obtain ⟨hi, h1, h2, h3, h4, -, -⟩ := cx.head
  have hp := cx.ok _ (List.getElem_mem hi)
  have hps := psz_int hp
  simp
  refine DrawT.quiet eok mix (by kernel_rfl) ?_
  simp [g, hi]
  refine ⟨_, _, l04Size_c a[i] hp, by simp [Part.row], ?_⟩
  have e : Go.IntKind.i64.wrap ((psz a[i] : Int) - (d : Int)) = (psz p : Int) := by rw [Go.IntWalk.i64_in _ (by omega)]; omega
  simp [e]
  exact hK
theorem curTake_call {w0 : World} {bF bG : Nat → Prop} {bl : Bool} {st : ASt} {dst : Option Nat} {K : ASt → Prop} {kx b i d n : Nat} {a l : List Part} {p : Part} (_hk : kx < 14000) (cx : Cu a i d (p :: l)) (hk2 : p.kind = 2) (hn : n ≤ psz p)
    (g : st.h.get kx = .vars b 304 [.ro (a.map Part.row), .v (.int .i64 i), .v (.int .i64 d)])
    (hK : ∀ h', Cu a i (d + n) (pleft p n :: l) → AH.get h' kx = .vars b 304 [.ro (a.map Part.row), .v (.int .i64 i), .v (.int .i64 ((d + n : Nat) : Int))] → (∀ q, q ≠ kx → q < 20000 → AH.get h' q = st.h.get q) → aPut ⟨st.n, st.kb, st.t, h'⟩ dst (.ro ((p.signs.take n).map intR)) K) :
    ACall ⟨Tryz.prog, tt, w0, ⟨bF, bG, bl, fun _ => True⟩⟩ 299 [.p kx b 0, .v (.int .i64 n)] st dst K := by
  refine ACall.inline tt_ok Tryz.func299 (by kernel_rfl) rfl rfl rfl (Nat.le_of_ble_eq_true rfl) 20000 (fun w1 F => ?_)
  obtain ⟨hi, h1, h2, h3, h4, h5, -⟩ := cx.head
  have hp := cx.ok _ (List.getElem_mem hi)
  have hps := psz_int hp
  have hkk : a[i].kind = 2 := by rw [← h5]; exact hk2
  have hn0 := hp.bounds.2.2.2.2.1 hkk
  have hsz : psz a[i] = a[i].signs.length := by omega
  have hs : p.signs = a[i].signs.drop d := by rw [h1]; simp [pleft, hkk]
  have e : Go.IntKind.i64.wrap ((d : Int) + (n : Int)) = ((d + n : Nat) : Int) := by rw [Go.IntWalk.i64_in _ (by omega)]; omega
  have hle : d + n ≤ a[i].signs.length := by omega
  have hv : cut (a[i].signs.map intR) d n = (p.signs.take n).map intR := by
    unfold cut
    split
    · rename_i hh
      rw [hs, hh.1]
      simp at hh
      simp [hh.2]
    · rw [hs, List.map_take, List.map_drop]
  obtain ⟨m, hm⟩ : ∃ m, d + n = m := ⟨_, rfl⟩
  have e2 : m - d = n := by omega
  have hadd := cx.add hn
  rw [hm] at e hle hK hadd
  simp
  refine DrawT.quiet eok mix (by kernel_rfl) ?_
  simp [g, hi, Part.row, e, e2, hv]
  simp only [List.map_take] at hK
  refine ⟨hle, by omega, hK _ hadd ?_ (fun q q1 q2 => ?_)⟩
  · simp
  · simp [q1]
section
variable {w0 : World} {bF bG : Nat → Prop} {bl : Bool} {st : ASt} {dst : Option Nat} {K : ASt → Prop} {kx ky bx by_ i d j e : Nat} {h0 : AH} {a b X Y : List Part}
theorem CR.kind (R : CR kx ky bx by_ h0 st.h a b i d j e X Y) (hl : a.length ≤ 2 ^ 20) (hK : ∀ h' i' d', CR kx ky bx by_ h0 h' a b i' d' j e (nxt X) Y → aPut ⟨st.n, st.kb, st.t, h'⟩ dst (.v (.int .i64 (hdK (nxt X)))) K) :
    ACall ⟨Tryz.prog, tt, w0, ⟨bF, bG, bl, fun _ => True⟩⟩ 295 [.p kx bx 0] st dst K := by
  have := R.lx
  have := R.ly
  refine kind_call (by omega) hl R.cx R.gx (fun h1 i1 d1 c1 g1 o1 => hK h1 i1 d1 ⟨R.ne, R.lx, R.ly, g1, by rw [o1 ky R.ne.symm (by omega)]; exact R.gy, fun q q1 q2 q3 => by rw [o1 q q1 (by omega)]; exact R.o q q1 q2 q3, c1, R.cy⟩)
theorem CR.left {p : Part} {l : List Part} (R : CR kx ky bx by_ h0 st.h a b i d j e (p :: l) Y) (hK : aPut st dst (.v (.int .i64 (psz p))) K) :
    ACall ⟨Tryz.prog, tt, w0, ⟨bF, bG, bl, fun _ => True⟩⟩ 296 [.p kx bx 0] st dst K := left_call R.cx R.gx hK
theorem CR.take {p : Part} {l : List Part} {n : Nat} (R : CR kx ky bx by_ h0 st.h a b i d j e (p :: l) Y) (hk2 : p.kind = 2) (hn : n ≤ psz p) (hK : ∀ h', CR kx ky bx by_ h0 h' a b i (d + n) j e (pleft p n :: l) Y → aPut ⟨st.n, st.kb, st.t, h'⟩ dst (.ro ((p.signs.take n).map intR)) K) :
    ACall ⟨Tryz.prog, tt, w0, ⟨bF, bG, bl, fun _ => True⟩⟩ 299 [.p kx bx 0, .v (.int .i64 n)] st dst K := by
  have := R.lx
  have := R.ly
  refine curTake_call (by omega) R.cx hk2 hn R.gx (fun h1 c1 g1 o1 => hK h1 ⟨R.ne, R.lx, R.ly, g1, by rw [o1 ky R.ne.symm (by omega)]; exact R.gy, fun q q1 q2 q3 => by rw [o1 q q1 (by omega)]; exact R.o q q1 q2 q3, c1, R.cy⟩)
/-- so many signs are done -/
theorem CR.done {p : Part} {l : List Part} {n : Nat} (R : CR kx ky bx by_ h0 st.h a b i d j e (p :: l) Y) (hn : n ≤ psz p) : CR kx ky bx by_ ((kx, .vars bx 304 [.ro (a.map Part.row), .v (.int .i64 i), .v (.int .i64 ((d + n : Nat) : Int))]) :: st.h) ((kx, .vars bx 304 [.ro (a.map Part.row), .v (.int .i64 i), .v (.int .i64 ((d + n : Nat) : Int))]) :: st.h) a b i (d + n) j e (pleft p n :: l) Y :=
  ⟨R.ne, R.lx, R.ly, by simp, by rw [get_cons, if_neg R.ne.symm]; exact R.gy, fun _ _ _ _ => rfl, R.cx.add hn, R.cy⟩
end
end Go.Proofs.YtdfdabjdfmamgaaGreat

namespace Go.Proofs.YtdfdabjdfmamgaaGreat
open Go.AM
set_option maxRecDepth 20000
end Go.Proofs.YtdfdabjdfmamgaaGreat

namespace Go.Proofs.YtdfdabjdfmamgaaGreat
open Go.AM
set_option maxRecDepth 20000
set_option maxHeartbeats 1600000
end Go.Proofs.YtdfdabjdfmamgaaGreat

namespace Go.Proofs.YtdfdabjdfmamgaaGreat
open Go.AM
set_option maxRecDepth 20000
def headRev (d : Doc) : Int := Go.IntKind.i64.wrap (d.fr + d.list.length)
end Go.Proofs.YtdfdabjdfmamgaaGreat

namespace Go.Proofs.YtdfdabjdfmamgaaGreat
open Go.AM
set_option maxRecDepth 20000
theorem copyInts_c (l : List Int) (hl : l.length ≤ 2 ^ 40) : PureC Tryz.prog 226 [.c (.s (l.map intR))] (.one (.c (.s (l.map intR)) 1)) := by
  refine PureC.intro' tt_ok Tryz.func226 (by kernel_rfl) rfl rfl rfl (Nat.le_of_ble_eq_true rfl) (fun w0 base => ?_)
  simp
  omega
def Rep.zero : Rep := ⟨0, 0, 0, [], false, [], []⟩
end Go.Proofs.YtdfdabjdfmamgaaGreat

namespace Go.Proofs.YtdfdabjdfmamgaaGreat
open Go.AM
set_option maxRecDepth 20000
theorem take_snoc {α β : Type} {f : α → β} {l : List α} {i : Nat} (h : i < l.length) : List.take i (l.map f) ++ [f l[i]] = List.take (i + 1) (l.map f) := by
  rw [List.take_add_one]; simp [h]
theorem copyOp_c (o : List Part) (hl : nL nPart o ≤ 2 ^ 30) : PureC Tryz.prog 228 [.c (.s (o.map Part.row))] (.one (.c (.s (o.map Part.row)) 3)) := by
  refine PureC.intro' tt_ok Tryz.func228 (by kernel_rfl) rfl rfl rfl (Nat.le_of_ble_eq_true rfl) (fun w0 base => ?_)
  have hle := nL_len hl
  simp
  refine LoopT.intro eok (fun x : Nat × Hd => x.1 ≤ o.length) (fun x => ⟨22, 0, [(8, .v (.int .i64 x.1)), (7, .v (.int .i64 o.length)), (6, .ro (o.map Part.row)), (3, .sl 304 x.2 3 0 x.1)], [(304, .rows x.2 3 ((o.take x.1).map Part.row) true)]⟩) (fun x => o.length - x.1) (0, none) (by simp) (by simp) (fun x hi => ?_)
  obtain ⟨i, H⟩ := x
  simp only at hi ⊢
  by_cases h : i < o.length
  · have e : Go.IntKind.i64.wrap ((i : Int) + 1) = ((i + 1 : Nat) : Int) := i64_suc (by omega)
    have hm : min i o.length = i := by omega
    have hs := nL_at hl h
    simp [h, Part.row]
    intro b5
    refine ACall.pure (copyInts_c o[i].signs (by unfold nPart at hs; omega)) (by simp) ?_
    simp [hm]
    exact ⟨by omega, fun H3 => ⟨i + 1, by omega, by omega, H3, ⟨e, rfl, rfl⟩, rfl, take_snoc (f := Part.row) h⟩⟩
  · have : i = o.length := by omega
    subst this
    simp [cut]
theorem l02Copy_c (o : List Part) (hl : nL nPart o ≤ 2 ^ 30) : PureC Tryz.prog 220 [.c (.s (o.map Part.row))] (.one (.c (.s (o.map Part.row)) 3)) := by
  refine PureC.intro' tt_ok Tryz.func220 (by kernel_rfl) rfl rfl rfl (Nat.le_of_ble_eq_true rfl) (fun w0 base => ?_)
  have hle := nL_len hl
  simp
  intro b
  refine LoopT.intro eok (fun x : Nat × Hd => x.1 ≤ o.length) (fun x => ⟨27, 0, [(9, .v (.int .i64 x.1)), (8, .v (.int .i64 o.length)), (7, .ro (o.map Part.row)), (3, .sl 96 x.2 3 0 x.1)], [(96, .rows x.2 3 ((o.take x.1).map Part.row) true)]⟩) (fun x => o.length - x.1) (0, some (b, 0, 0)) (by simp) (by simp) (fun x hi => ?_)
  obtain ⟨i, H⟩ := x
  simp only at hi ⊢
  by_cases h : i < o.length
  · have e : Go.IntKind.i64.wrap ((i : Int) + 1) = ((i + 1 : Nat) : Int) := i64_suc (by omega)
    have hm : min i o.length = i := by omega
    have hs := nL_at hl h
    unfold nPart at hs
    simp [h, Part.row]
    intro b5
    refine DrawT.introP eok mix [0, 1, 2, 3, 4, 6, 7] [5, 8, 9, 10, 11, 12] [([false, false, false, false, false, false, false], [true, true, true, true, true, true, true]), ([true, false, false, false, false, false, false], [false, true, true, true, true, true, true]), ([false, false, true, false, true, false, false], [false, true, false, true, false, true, true]), ([false, false, false, false, false, false, false], [false, true, false, true, false, true, true]), ([false, false, false, false, false, false, true], [false, true, false, true, false, true, false]), ([false, true, false, true, false, true, false], [false, false, false, false, false, false, false])] [false, false, false, false, false, false, false] (by kernel_rfl) ?_
    simp [hm]
    exact ⟨by omega, by omega, fun H3 => ⟨i + 1, by omega, by omega, H3, ⟨e, rfl, rfl⟩, rfl, take_snoc (f := Part.row) h⟩⟩
  · have : i = o.length := by omega
    subst this
    simp [cut]
def Call.zero : Call := ⟨0, ⟨#[]⟩, 0, 0, 0, [], []⟩
end Go.Proofs.YtdfdabjdfmamgaaGreat

namespace Go.Proofs.YtdfdabjdfmamgaaGreat
open Go.AM
set_option maxRecDepth 20000

/-- what is made of a text, from a place on -/
def apStep (t : List Int) (s : List Int × Int) (p : Part) : List Int × Int :=
  if p.kind = 1 then (s.1 ++ (t.drop s.2.toNat).take p.n.toNat, s.2 + p.n) else if p.kind = 2 then (s.1 ++ p.signs, s.2) else (s.1, s.2 + p.n)
def apRun (o : List Part) (t : List Int) : List Int × Int := o.foldl (apStep t) ([], 0)
theorem apRun_suc {o : List Part} {t : List Int} {i : Nat} (h : i < o.length) : apRun (o.take (i + 1)) t = apStep t (apRun (o.take i) t) o[i] := by
  unfold apRun
  rw [← List.take_append_getElem h, List.foldl_append]
  rfl

def fits3 (o : List Part) (t : List Int) : Prop := opOk o ∧ textOk t ∧ opFrom o = t.length
open Classical in
noncomputable def apply (o : List Part) (t : List Int) : List Int × Bool := if fits3 o t then ((apRun o t).1, true) else ([], false)

/-- how far the text has been read -/
theorem apRun_at {o : List Part} {t : List Int} (ho : ∀ p ∈ o, partOk p) : ∀ (i : Nat), i ≤ o.length → (apRun (o.take i) t).2 = sumI fK (o.take i) + sumI fD (o.take i) ∧ (apRun (o.take i) t).1.length ≤ 200 * i
  | 0, _ => by simp [apRun, sumI]
  | i + 1, hi => by
    have hlt : i < o.length := by omega
    obtain ⟨h1, h2⟩ := apRun_at ho i (by omega)
    have hb := (ho _ (List.getElem_mem hlt)).bounds
    rw [apRun_suc hlt, sumI_suc hlt, sumI_suc hlt]
    generalize apRun (o.take i) t = s at h1 h2
    obtain ⟨L, a⟩ := s
    simp only at h1 h2
    generalize sumI fK (o.take i) = x1 at h1 ⊢
    generalize sumI fD (o.take i) = x2 at h1 ⊢
    unfold apStep fK fD
    by_cases k1 : o[i].kind = 1
    · simp [k1]
      omega
    · by_cases k2 : o[i].kind = 2
      · simp [k2]; omega
      · simp [k1, k2]; omega

theorem sumI_take_le {f : Part → Int} (hf : ∀ p, partOk p → 0 ≤ f p) : ∀ {o : List Part} (_ : ∀ p ∈ o, partOk p) (i : Nat), sumI f (o.take i) ≤ sumI f o
  | [], _, i => by simp
  | p :: o, ho, 0 => by
    have h1 := hf p (ho p (List.mem_cons_self ..))
    have h2 := sumI_take_le hf (o := o) (fun q hq => ho q (List.mem_cons_of_mem _ hq)) 0
    simp only [List.take_zero, sumI] at h2 ⊢
    omega
  | p :: o, ho, i + 1 => by
    have h2 := sumI_take_le hf (o := o) (fun q hq => ho q (List.mem_cons_of_mem _ hq)) i
    simp only [List.take_succ_cons, sumI]
    omega

/-- the places lie in the text -/
theorem apRun_in {o : List Part} {t : List Int} (h : fits3 o t) {i : Nat} (hi : i < o.length) : 0 ≤ (apRun (o.take i) t).2 ∧ (o[i].kind ≠ 2 → (apRun (o.take i) t).2 + o[i].n ≤ t.length) ∧ (apRun (o.take i) t).2 ≤ t.length := by
  have ho := h.1.1.1
  have h1 := (apRun_at (t := t) ho i (by omega)).1
  have hf : opFrom o = sumI fK o + sumI fD o := by unfold opFrom l02Sum; rw [if_pos h.1.1]
  have h2 := sumI_take_le (fun p hp => (fK_b hp).1) ho (i + 1)
  have h3 := sumI_take_le (fun p hp => (fD_b hp).1) ho (i + 1)
  have h4 := sumI_bound (f := fK) (fun p h => fK_b h) (take_ok ho i)
  have h5 := sumI_bound (f := fD) (fun p h => fD_b h) (take_ok ho i)
  have h6 := sumI_suc (f := fK) hi
  have h7 := sumI_suc (f := fD) hi
  have h8 := h.2.2
  have hb := (ho _ (List.getElem_mem hi)).bounds
  have k1 := fK_b (ho _ (List.getElem_mem hi))
  have k2 := fD_b (ho _ (List.getElem_mem hi))
  refine ⟨by omega, fun hk => ?_, by omega⟩
  have : fK o[i] + fD o[i] = o[i].n := by
    unfold fK fD
    by_cases c1 : o[i].kind = 1
    · simp [c1]
    · simp [c1, hk]
  omega

theorem implApply_c (o : List Part) (t : List Int) (hl : nL nPart o ≤ 2 ^ 40) (ht : t.length ≤ 2 ^ 40) : PureC Tryz.prog 263 [.c (.s (o.map Part.row)), .c (.s (t.map intR))] (.tup [.c (.s ((apply o t).1.map intR)) 1, .c (.v (.bool (apply o t).2)) 1]) := by
  refine PureC.intro' tt_ok Tryz.func263 (by kernel_rfl) rfl rfl rfl (Nat.le_of_ble_eq_true rfl) (fun w0 base => ?_)
  simp
  have no : ¬ fits3 o t → apply o t = ([], false) := fun h => by unfold apply; rw [if_neg h]
  refine ACall.pure (implOpOk_c o hl) (by simp) ?_
  by_cases c1 : opOk o
  rotate_left
  · have e : dc (opOk o) = false := by rw [dc_no]; exact c1
    simp [e, no (fun h => c1 h.1)]
  simp [c1]
  refine ACall.pure (implTextOk_c t ht) (by simp) ?_
  by_cases c2 : textOk t
  rotate_left
  · have e : dc (textOk t) = false := by rw [dc_no]; exact c2
    simp [e, no (fun h => c2 h.2.1)]
  simp [c2]
  refine ACall.pure (implOpFrom_c o hl) (by simp) ?_
  by_cases c3 : opFrom o = t.length
  rotate_left
  · simp [c3, no (fun h => c3 h.2.2)]
  have hf : fits3 o t := ⟨c1, c2, c3⟩
  have e : apply o t = ((apRun o t).1, true) := by unfold apply; rw [if_pos hf]
  have ho := c1.1.1
  have hlen := c1.1.2
  simp [c3, e]
  refine LoopT.intro eok (fun x : Nat × Hd => x.1 ≤ o.length) (fun x => ⟨60, 0, [(27, .v (.int .i64 x.1)), (26, .v (.int .i64 o.length)), (25, .ro (o.map Part.row)), (7, .v (.int .i64 (apRun (o.take x.1) t).2)), (6, .sl 752 x.2 1 0 (apRun (o.take x.1) t).1.length), (1, .ro (t.map intR))], [(752, .rows x.2 1 ((apRun (o.take x.1) t).1.map intR) true)]⟩) (fun x => o.length - x.1) (0, none) (by simp) (by simp [apRun]) (fun x hi => ?_)
  obtain ⟨i, H⟩ := x
  simp only at hi ⊢
  by_cases h : i < o.length
  · have hin := apRun_in hf h
    have hat := apRun_at (t := t) ho i hi
    have hb := (ho _ (List.getElem_mem h)).bounds
    have hs := apRun_suc (t := t) h
    generalize apRun (o.take i) t = s at hin hat hs
    obtain ⟨L, a⟩ := s
    simp only at hin hat hs
    obtain ⟨a', rfl⟩ : ∃ a' : Nat, a = a' := ⟨a.toNat, by omega⟩
    obtain ⟨n, hn⟩ : ∃ n : Nat, o[i].n = n := ⟨o[i].n.toNat, by omega⟩
    have e : Go.IntKind.i64.wrap ((i : Int) + 1) = ((i + 1 : Nat) : Int) := i64_suc (by omega)
    have ea : Go.IntKind.i64.wrap ((a' : Int) + n) = (a' : Int) + n := Go.IntWalk.i64_in _ (by omega)
    rw [hn] at hin
    simp [h, Part.row]
    intro b9
    by_cases k1 : o[i].kind = 1
    · have hle : a' + n ≤ t.length := by have := hin.2.1 (by omega); omega
      have hst : apStep t (L, (a' : Int)) o[i] = (L ++ (t.drop a').take n, (a' : Int) + n) := by simp [apStep, k1, hn]
      rw [hst] at hs
      obtain ⟨m, hm⟩ : ∃ m, (t.drop a').take n = m := ⟨_, rfl⟩
      have hcut : cut (t.map intR) a' n = m.map intR := by rw [cut_eq, ← hm]; simp
      have hlen2 : m.length = n := by rw [← hm]; simp; omega
      rw [hm] at hs
      simp [k1, hn, ea, hle, hcut]
      refine ⟨by omega, fun H2 => ⟨i + 1, by omega, by omega, H2, ?_⟩⟩
      rw [hs]
      simp [e]
    · by_cases k3 : o[i].kind = 3
      · have hst : apStep t (L, (a' : Int)) o[i] = (L, (a' : Int) + n) := by simp [apStep, k3, hn]
        rw [hst] at hs
        simp [k3, hn, ea]
        refine ⟨i + 1, by omega, by omega, H, ?_⟩
        rw [hs]
        simp [e]
      · have k2 : o[i].kind = 2 := by omega
        have hst : apStep t (L, (a' : Int)) o[i] = (L ++ o[i].signs, (a' : Int)) := by simp [apStep, k2]
        rw [hst] at hs
        simp [k2]
        refine ⟨by omega, fun H2 => ⟨i + 1, by omega, by omega, H2, ?_⟩⟩
        rw [hs]
        simp [e]
  · have he : o.take i = o := List.take_of_length_le (by omega)
    rw [he]
    simp [h]
end Go.Proofs.YtdfdabjdfmamgaaGreat

namespace Go.Proofs.YtdfdabjdfmamgaaGreat
open Go.AM
set_option maxRecDepth 20000

theorem l03Fits_c (o : List Part) (t : List Int) (hl : nL nPart o ≤ 2 ^ 40) (ht : t.length ≤ 2 ^ 40) : PureC Tryz.prog 324 [.c (.s (o.map Part.row)), .c (.s (t.map intR))] (.one (.c (vb (fits3 o t)) 1)) := by
  refine PureC.intro' tt_ok Tryz.func324 (by kernel_rfl) rfl rfl rfl (Nat.le_of_ble_eq_true rfl) (fun w0 base => ?_)
  simp
  refine ACall.pure (specOpOk_c o hl) (by simp) ?_
  by_cases c1 : opOk o
  rotate_left
  · simp [c1, fits3]
  simp [c1]
  refine ACall.pure (specTextOk_c t ht) (by simp) ?_
  by_cases c2 : textOk t
  rotate_left
  · simp [c2, fits3]
  simp [c2]
  refine ACall.pure (specOpFrom_c o hl) (by simp) ?_
  simp [fits3, c1, c2]

theorem specApply_c (o : List Part) (t : List Int) (hl : nL nPart o ≤ 2 ^ 40) (ht : t.length ≤ 2 ^ 40) : PureC Tryz.prog 256 [.c (.s (o.map Part.row)), .c (.s (t.map intR))] (.tup [.c (.s ((apply o t).1.map intR)) 1, .c (.v (.bool (apply o t).2)) 1]) := by
  refine PureC.intro' tt_ok Tryz.func256 (by kernel_rfl) rfl rfl rfl (Nat.le_of_ble_eq_true rfl) (fun w0 base => ?_)
  simp
  refine ACall.pure (l03Fits_c o t hl ht) (by simp) ?_
  by_cases hf : fits3 o t
  rotate_left
  · have e : dc (fits3 o t) = false := by rw [dc_no]; exact hf
    have e2 : apply o t = ([], false) := by unfold apply; rw [if_neg hf]
    simp [e, e2]
  have e : apply o t = ((apRun o t).1, true) := by unfold apply; rw [if_pos hf]
  have ho := hf.1.1.1
  have hlen := hf.1.1.2
  simp [hf, e]
  intro b
  refine LoopT.intro eok (fun x : Nat × Hd => x.1 ≤ o.length) (fun x => ⟨50, 0, [(17, .v (.int .i64 x.1)), (16, .v (.int .i64 o.length)), (15, .ro (o.map Part.row)), (7, .v (.int .i64 (apRun (o.take x.1) t).2)), (6, .sl 224 x.2 1 0 (apRun (o.take x.1) t).1.length), (1, .ro (t.map intR))], [(224, .rows x.2 1 ((apRun (o.take x.1) t).1.map intR) true)]⟩) (fun x => o.length - x.1) (0, some (b, 0, 0)) (by simp) (by simp [apRun]) (fun x hi => ?_)
  obtain ⟨i, H⟩ := x
  simp only at hi ⊢
  by_cases h : i < o.length
  · have hin := apRun_in hf h
    have hat := apRun_at (t := t) ho i hi
    have hb := (ho _ (List.getElem_mem h)).bounds
    have hs := apRun_suc (t := t) h
    generalize apRun (o.take i) t = s at hin hat hs
    obtain ⟨L, a⟩ := s
    simp only at hin hat hs
    obtain ⟨a', rfl⟩ : ∃ a' : Nat, a = a' := ⟨a.toNat, by omega⟩
    obtain ⟨n, hn⟩ : ∃ n : Nat, o[i].n = n := ⟨o[i].n.toNat, by omega⟩
    have e : Go.IntKind.i64.wrap ((i : Int) + 1) = ((i + 1 : Nat) : Int) := i64_suc (by omega)
    have ea : Go.IntKind.i64.wrap ((a' : Int) + n) = (a' : Int) + n := Go.IntWalk.i64_in _ (by omega)
    rw [hn] at hin
    simp [h, Part.row]
    intro b9
    by_cases k1 : o[i].kind = 1
    · have hle : a' + n ≤ t.length := by have := hin.2.1 (by omega); omega
      have hst : apStep t (L, (a' : Int)) o[i] = (L ++ (t.drop a').take n, (a' : Int) + n) := by simp [apStep, k1, hn]
      rw [hst] at hs
      obtain ⟨m, hm⟩ : ∃ m, (t.drop a').take n = m := ⟨_, rfl⟩
      have hcut : cut (t.map intR) a' n = m.map intR := by rw [cut_eq, ← hm]; simp
      have hlen2 : m.length = n := by rw [← hm]; simp; omega
      rw [hm] at hs
      simp [k1, hn, ea, hle, hcut]
      refine ⟨by omega, fun H2 => ⟨i + 1, by omega, by omega, H2, ?_⟩⟩
      rw [hs]
      simp [e]
    · by_cases k2 : o[i].kind = 2
      · have hst : apStep t (L, (a' : Int)) o[i] = (L ++ o[i].signs, (a' : Int)) := by simp [apStep, k2]
        rw [hst] at hs
        simp [k2]
        refine ⟨by omega, fun H2 => ⟨i + 1, by omega, by omega, H2, ?_⟩⟩
        rw [hs]
        simp [e]
      · have k3 : o[i].kind = 3 := by omega
        have hst : apStep t (L, (a' : Int)) o[i] = (L, (a' : Int) + n) := by simp [apStep, k3, hn]
        rw [hst] at hs
        simp [k1, k2, hn, ea]
        refine ⟨i + 1, by omega, by omega, H, ?_⟩
        rw [hs]
        simp [e]
  · have he : o.take i = o := List.take_of_length_le (by omega)
    rw [he]
    simp [h]

theorem apply_len (o : List Part) (t : List Int) : (apply o t).1.length ≤ 2 ^ 17 := by
  unfold apply
  split
  · rename_i h
    have h1 := (apRun_at (t := t) h.1.1.1 o.length (by omega)).2
    rw [List.take_length] at h1
    have := h.1.1.2
    simp only; omega
  · simp

abbrev partsR (o : List Part) : List CD := [.s (o.map Part.row)]
open Classical in
noncomputable def applyFrom : List (List Part) → List Int → Option (List Int)
  | [], t => some t
  | o :: l, t => if (apply o t).2 = true then applyFrom l (apply o t).1 else none
open Classical in
noncomputable def applyAll (l : List (List Part)) (t : List Int) : List Int × Bool :=
  if textOk t then match applyFrom l t with
    | some u => (u, true)
    | none => ([], false)
  else ([], false)

theorem applyFrom_drop {l : List (List Part)} {i : Nat} {u : List Int} (h : i < l.length) : applyFrom (l.drop i) u = if (apply l[i] u).2 = true then applyFrom (l.drop (i + 1)) (apply l[i] u).1 else none := by
  rw [List.drop_eq_getElem_cons h, applyFrom]

theorem implApplyAll_c (l : List (List Part)) (t : List Int) (hl : l.length ≤ 2 ^ 30) (hs : ∀ o ∈ l, nL nPart o ≤ 2 ^ 40) (ht : t.length ≤ 2 ^ 40) : PureC Tryz.prog 176 [.c (.s (l.map partsR)), .c (.s (t.map intR))] (.tup [.c (.s ((applyAll l t).1.map intR)) 1, .c (.v (.bool (applyAll l t).2)) 1]) := by
  refine PureC.intro' tt_ok Tryz.func176 (by kernel_rfl) rfl rfl rfl (Nat.le_of_ble_eq_true rfl) (fun w0 base => ?_)
  simp
  refine ACall.pure (implTextOk_c t ht) (by simp) ?_
  by_cases c2 : textOk t
  rotate_left
  · have e : dc (textOk t) = false := by rw [dc_no]; exact c2
    have e2 : applyAll l t = ([], false) := by unfold applyAll; rw [if_neg c2]
    simp [e, e2]
  obtain ⟨r, hr⟩ : ∃ r, applyAll l t = r := ⟨_, rfl⟩
  have hr' : (match applyFrom l t with | some u => (u, true) | none => ([], false)) = r := by rw [← hr]; unfold applyAll; rw [if_pos c2]
  rw [hr]
  simp [c2]
  refine ACall.pure (copyInts_c t ht) (by simp) ?_
  simp
  intro H0
  refine LoopT.intro eok (fun x : Nat × Nat × Hd × List Int => x.1 ≤ l.length ∧ x.2.2.2.length ≤ 2 ^ 40 ∧ (match applyFrom (l.drop x.1) x.2.2.2 with | some u => (u, true) | none => ([], false)) = r)
    (fun x => ⟨33, 0, [(18, .v (.int .i64 x.1)), (17, .v (.int .i64 l.length)), (16, .ro (l.map partsR)), (6, .sl x.2.1 x.2.2.1 1 0 x.2.2.2.length)], [(x.2.1, .rows x.2.2.1 1 (x.2.2.2.map intR) true)]⟩) (fun x => l.length - x.1) (0, 240, H0, t) (by simp [ht, hr']) (by simp) (fun x hi => ?_)
  obtain ⟨i, K, H, u⟩ := x
  simp only at hi ⊢
  obtain ⟨hi1, hi2, hi3⟩ := hi
  by_cases h : i < l.length
  · have e : Go.IntKind.i64.wrap ((i : Int) + 1) = ((i + 1 : Nat) : Int) := i64_suc (by omega)
    rw [applyFrom_drop h] at hi3
    have hlen := apply_len l[i] u
    simp [h]
    refine ACall.pure (implApply_c l[i] u (hs _ (List.getElem_mem h)) hi2) (by simp) ?_
    generalize apply l[i] u = q at hi3 hlen
    obtain ⟨v, ok⟩ := q
    simp only at hi3 hlen
    cases ok
    · simp at hi3
      simp [← hi3]
    · simp at hi3
      simp
      intro H2
      exact ⟨i + 1, 400, H2, v, ⟨by omega, by omega, hi3⟩, by omega, ⟨e, rfl, rfl, rfl⟩, .inl rfl⟩
  · have hd : l.drop i = [] := List.drop_eq_nil_of_le (by omega)
    rw [hd] at hi3
    simp [applyFrom] at hi3
    simp [h, ← hi3]

end Go.Proofs.YtdfdabjdfmamgaaGreat

namespace Go.Proofs.YtdfdabjdfmamgaaGreat
open Go.AM
set_option maxRecDepth 20000
theorem apRun_len {o : List Part} {t : List Int} (h : fits3 o t) : ∀ (i : Nat), i ≤ o.length → ((apRun (o.take i) t).1.length : Int) = sumI fK (o.take i) + sumI fP (o.take i) ∧ signsOk (apRun (o.take i) t).1
  | 0, _ => by simp [apRun, sumI, signsOk]
  | i + 1, hi => by
    have hlt : i < o.length := by omega
    obtain ⟨h1, h2⟩ := apRun_len h i (by omega)
    have hin := apRun_in h hlt
    have hpo := h.1.1.1 _ (List.getElem_mem hlt)
    have hb := hpo.bounds
    rw [apRun_suc hlt, sumI_suc hlt, sumI_suc hlt]
    generalize apRun (o.take i) t = s at h1 h2 hin
    generalize o[i] = p at hin hpo hb
    unfold apStep
    rw [show fK p = (if p.kind = 1 then p.n else 0) from rfl, show fP p = (if p.kind = 2 then (p.signs.length : Int) else 0) from rfl]
    rcases hb.1 with k | k | k
    · have := hin.2.1 (by omega)
      have e : ((t.drop s.2.toNat).take p.n.toNat).length = p.n.toNat := by simp; omega
      refine ⟨?_, ?_⟩
      · simp only [k, if_true, List.length_append, e]
        have k2 : ¬ (1 : Int) = 2 := by decide
        simp only [k2, if_false]
        omega
      simp only [k, if_true]
      intro n hn
      rcases List.mem_append.1 hn with hn | hn
      · exact h2 n hn
      · exact h.2.1.2 n (List.mem_of_mem_drop (List.mem_of_mem_take hn))
    · refine ⟨by simp [k]; omega, ?_⟩
      have k1 : ¬ p.kind = 1 := by omega
      simp only [k, if_true]
      rw [partOk_put k] at hpo
      intro n hn
      rcases List.mem_append.1 hn with hn | hn
      · exact h2 n hn
      · exact hpo.2.2 n hn
    · exact ⟨by simp [k]; omega, by simpa [k] using h2⟩
theorem apply_textOk {o : List Part} {t : List Int} (h : fits3 o t) : textOk (apply o t).1 ∧ ((apply o t).1.length : Int) = opTo o := by
  have h1 := apRun_len h o.length (Nat.le_refl _)
  rw [List.take_length] at h1
  have e : apply o t = ((apRun o t).1, true) := by unfold apply; rw [if_pos h]
  have ht : opTo o = sumI fK o + sumI fP o := by unfold opTo l02Sum; rw [if_pos h.1.1]
  have h3 := h.1.2.2
  rw [e]
  refine ⟨⟨by simp only; omega, h1.2⟩, by simp only; omega⟩
theorem apply_yes {o : List Part} {t : List Int} : (apply o t).2 = true ↔ fits3 o t := by
  unfold apply
  split <;> simp_all
def nameOk (s : ByteArray) : Prop := (1 ≤ s.size ∧ s.size ≤ 8) ∧ ∀ (i : Nat) (h : i < s.size), 97 ≤ s[i].toNat ∧ s[i].toNat ≤ 122
def entryOk (e : Entry) : Prop := (1 ≤ e.client ∧ e.client ≤ 8) ∧ (1 ≤ e.seq ∧ e.seq ≤ 1000000000) ∧ isNorm e.o
def seensOk (d : Doc) : Prop := ∀ (i : Nat) (h : i < d.seen.length), (1 ≤ d.seen[i].client ∧ d.seen[i].client ≤ 8) ∧ (1 ≤ d.seen[i].seq ∧ d.seen[i].seq ≤ 1000000000) ∧ (1 ≤ d.seen[i].rev ∧ d.seen[i].rev ≤ headRev d) ∧ (∀ h0 : 0 < i, d.seen[i - 1].client < d.seen[i].client)
def docOk (d : Doc) : Prop := nameOk d.name ∧ (0 ≤ d.fr ∧ d.fr ≤ 999999000) ∧ textOk d.text ∧ d.list.length ≤ 8 ∧ (∀ e ∈ d.list, entryOk e) ∧ (applyFrom (d.list.map Entry.o) d.text).isSome = true ∧ seensOk d
end Go.Proofs.YtdfdabjdfmamgaaGreat

namespace Go.Proofs.YtdfdabjdfmamgaaGreat
open Go.AM
set_option maxRecDepth 20000
end Go.Proofs.YtdfdabjdfmamgaaGreat

namespace Go.Proofs.YtdfdabjdfmamgaaGreat
open Go.AM
set_option maxRecDepth 20000
end Go.Proofs.YtdfdabjdfmamgaaGreat

namespace Go.Proofs.YtdfdabjdfmamgaaGreat
open Go.AM
set_option maxRecDepth 20000
set_option maxHeartbeats 1600000
end Go.Proofs.YtdfdabjdfmamgaaGreat

namespace Go.Proofs.YtdfdabjdfmamgaaGreat
open Go.AM
set_option maxRecDepth 20000
end Go.Proofs.YtdfdabjdfmamgaaGreat

namespace Go.Proofs.YtdfdabjdfmamgaaGreat
open Go.AM
set_option maxRecDepth 20000
end Go.Proofs.YtdfdabjdfmamgaaGreat

namespace Go.Proofs.YtdfdabjdfmamgaaGreat
open Go.AM
set_option maxRecDepth 20000
set_option maxHeartbeats 1600000
end Go.Proofs.YtdfdabjdfmamgaaGreat

namespace Go.Proofs.YtdfdabjdfmamgaaGreat
open Go.AM
set_option maxRecDepth 20000
set_option maxHeartbeats 1600000
theorem dc_neg {p : Prop} (h : ¬ p) : dc p = false := by rw [dc_no]; exact h
theorem entryOk_n {e : Entry} (hl : nEntry e ≤ 2 ^ 40) : nL nPart e.o ≤ 2 ^ 40 := by unfold nEntry at hl; omega
theorem implEntryOk_c (e : Entry) (hl : nEntry e ≤ 2 ^ 40) : PureC Tryz.prog 270 [.agg e.row] (.one (.c (vb (entryOk e)) 1)) := by
  refine PureC.intro' tt_ok Tryz.func270 (by kernel_rfl) rfl rfl rfl (Nat.le_of_ble_eq_true rfl) (fun w0 base => ?_)
  simp [Entry.row]
  intros
  refine ACall.pure (within_c e.client 1 8) (by simp) ?_
  by_cases c1 : 1 ≤ e.client ∧ e.client ≤ 8
  rotate_left
  · have h : ¬ entryOk e := fun h => c1 h.1
    simp [dc_neg c1, dc_neg h]
  simp [c1]
  refine ACall.pure (within_c e.seq 1 1000000000) (by simp) ?_
  by_cases c2 : 1 ≤ e.seq ∧ e.seq ≤ 1000000000
  rotate_left
  · have h : ¬ entryOk e := fun h => c2 h.2.1
    simp [dc_neg c2, dc_neg h]
  simp [c2]
  refine ACall.pure (implIsNorm_c e.o (entryOk_n hl)) (by simp) ?_
  by_cases c3 : isNorm e.o
  · have h : entryOk e := ⟨c1, c2, c3⟩
    simp [c3, h]
  · have h : ¬ entryOk e := fun h => c3 h.2.2
    simp [dc_neg c3, dc_neg h]
theorem specEntryOk_c (e : Entry) (hl : nEntry e ≤ 2 ^ 40) : PureC Tryz.prog 268 [.agg e.row] (.one (.c (vb (entryOk e)) 1)) := by
  refine PureC.intro' tt_ok Tryz.func268 (by kernel_rfl) rfl rfl rfl (Nat.le_of_ble_eq_true rfl) (fun w0 base => ?_)
  simp [Entry.row]
  intros
  refine ACall.pure (l01In_c e.client 1 8) (by simp) ?_
  by_cases c1 : 1 ≤ e.client ∧ e.client ≤ 8
  rotate_left
  · have h : ¬ entryOk e := fun h => c1 h.1
    simp [dc_neg c1, dc_neg h]
  simp [c1]
  refine ACall.pure (l01In_c e.seq 1 1000000000) (by simp) ?_
  by_cases c2 : 1 ≤ e.seq ∧ e.seq ≤ 1000000000
  rotate_left
  · have h : ¬ entryOk e := fun h => c2 h.2.1
    simp [dc_neg c2, dc_neg h]
  simp [c2]
  refine ACall.pure (specIsNorm_c e.o (entryOk_n hl)) (by simp) ?_
  by_cases c3 : isNorm e.o
  · have h : entryOk e := ⟨c1, c2, c3⟩
    simp [c3, h]
  · have h : ¬ entryOk e := fun h => c3 h.2.2
    simp [dc_neg c3, dc_neg h]
end Go.Proofs.YtdfdabjdfmamgaaGreat

namespace Go.Proofs.YtdfdabjdfmamgaaGreat
open Go.AM
set_option maxRecDepth 20000
set_option maxHeartbeats 1600000
end Go.Proofs.YtdfdabjdfmamgaaGreat

namespace Go.Proofs.YtdfdabjdfmamgaaGreat
open Go.AM
set_option maxRecDepth 20000
end Go.Proofs.YtdfdabjdfmamgaaGreat

namespace Go.Proofs.YtdfdabjdfmamgaaGreat
open Go.AM
set_option maxRecDepth 20000
set_option maxHeartbeats 1600000
def nameAt (s : ByteArray) (i : Nat) : Prop := ∀ h : i < s.size, 97 ≤ s[i].toNat ∧ s[i].toNat ≤ 122
theorem nDoc_list {d : Doc} {B : Nat} (h : nDoc d ≤ B) : nL nEntry d.list ≤ B ∧ d.text.length ≤ B ∧ d.name.size ≤ B ∧ d.seen.length ≤ B := by unfold nDoc at h; omega
def seenAt (d : Doc) (i : Nat) : Prop := ∀ h : i < d.seen.length, (1 ≤ d.seen[i].client ∧ d.seen[i].client ≤ 8) ∧ (1 ≤ d.seen[i].seq ∧ d.seen[i].seq ≤ 1000000000) ∧ (1 ≤ d.seen[i].rev ∧ d.seen[i].rev ≤ headRev d) ∧ (∀ h0 : 0 < i, d.seen[i - 1].client < d.seen[i].client)
theorem applyAll_some {l : List (List Part)} {t : List Int} (h : textOk t) : (applyAll l t).2 = true ↔ (applyFrom l t).isSome = true := by
  unfold applyAll
  rw [if_pos h]
  cases applyFrom l t <;> simp
theorem docOk_head {d : Doc} (h : docOk d) : headRev d = d.fr + d.list.length ∧ 0 ≤ d.fr ∧ d.fr ≤ 999999000 ∧ d.list.length ≤ 8 := by
  have h1 := h.2.1
  have h2 := h.2.2.2.1
  refine ⟨?_, h1.1, h1.2, h2⟩
  unfold headRev
  rw [Go.IntWalk.i64_in _ (by omega)]
def Doc.zero : Doc := ⟨⟨#[]⟩, 0, [], [], []⟩
def Net.zero : Net := ⟨Doc.zero, []⟩
end Go.Proofs.YtdfdabjdfmamgaaGreat

namespace Go.Proofs.YtdfdabjdfmamgaaGreat
open Go.AM
set_option maxRecDepth 20000
theorem specHeadRev_c (d : Doc) : PureC Tryz.prog 148 [.agg d.row] (.one (.c (vi (headRev d)) 1)) := by
  refine PureC.intro' tt_ok Tryz.func148 (by kernel_rfl) rfl rfl rfl (Nat.le_of_ble_eq_true rfl) (fun w0 base => ?_)
  simp [Doc.row, headRev]
theorem implHeadRev_c (d : Doc) : PureC Tryz.prog 157 [.agg d.row] (.one (.c (vi (headRev d)) 1)) := by
  refine PureC.intro' tt_ok Tryz.func157 (by kernel_rfl) rfl rfl rfl (Nat.le_of_ble_eq_true rfl) (fun w0 base => ?_)
  simp [Doc.row, headRev]
end Go.Proofs.YtdfdabjdfmamgaaGreat

