import Derived.Test.YtdfdabjdfmamgaaGreatPA
import Derived.Test.YtdfdabjdfmamgaaGreatMF
namespace Go.Proofs.YtdfdabjdfmamgaaGreat
open Go.AM
set_option maxRecDepth 20000

theorem sumN_append {α : Type} {f : α → Nat} : ∀ (a b : List α), sumN f (a ++ b) = sumN f a + sumN f b
  | [], b => by simp [sumN]
  | x :: a, b => by simp only [List.cons_append, sumN, sumN_append a b]; omega
theorem sumN_set {α : Type} {f : α → Nat} : ∀ (l : List α) (i : Nat) (h : i < l.length) (x : α), f x = f l[i] → sumN f (l.set i x) = sumN f l
  | a :: l, 0, _, x, hx => by simp at hx; simp [sumN, hx]
  | a :: l, i + 1, h, x, hx => by
    simp only [List.set_cons_succ, sumN]
    rw [sumN_set l i (by simpa using h) x (by simpa using hx)]
theorem nbFlush_sum {L : List Part} {P : List Int} {D : Int} : sumN nPart (nbFlush L P D) = sumN nPart L + P.length := by
  unfold nbFlush
  rw [sumN_append, sumN_append]
  by_cases hp : P = [] <;> by_cases hd : 0 < D <;> simp [hp, hd, sumN, nPart]
theorem nbKeep_sum {L : List Part} {n : Int} : sumN nPart (nbKeep L n) = sumN nPart L := by
  unfold nbKeep
  split
  · rename_i h
    split
    · exact sumN_set L _ (by omega) _ rfl
    · rw [sumN_append]; simp [sumN, nPart]
  · rename_i h
    have : L = [] := List.eq_nil_of_length_eq_zero (by omega)
    subst this
    simp [sumN, nPart]
theorem nbRun_sum {o : List Part} : ∀ (i : Nat), i ≤ o.length → sumN nPart (nbRun (o.take i)).1 + (nbRun (o.take i)).2.1.length ≤ sumN nPart (o.take i)
  | 0, _ => by simp [nbRun, sumN]
  | i + 1, hi => by
    have ih := nbRun_sum (o := o) i (by omega)
    have hlt : i < o.length := by omega
    rw [nbRun_suc hlt, ← List.take_append_getElem hlt, sumN_append]
    generalize nbRun (o.take i) = s at ih
    generalize o[i] = p
    obtain ⟨L, P, D⟩ := s
    simp only at ih
    have hp : sumN nPart [p] = p.signs.length := by simp [sumN, nPart]
    rw [hp]
    unfold nbStep
    split
    · simp; omega
    · split
      · simp; omega
      · split
        · simp only [nbKeep_sum, nbFlush_sum]; simp; omega
        · simp; omega
theorem normal_sum (o : List Part) : sumN nPart (normal o) ≤ sumN nPart o := by
  have h := nbRun_sum (o := o) o.length (by omega)
  rw [List.take_length] at h
  unfold normal
  rw [nbFlush_sum]
  exact h
theorem normal_len {o : List Part} (ho : ∀ p ∈ o, partOk p) : (normal o).length ≤ 3 * o.length + 2 := by
  have h := (nbRun_ok ho o.length (by omega)).l
  rw [List.take_length] at h
  have := nbFlush_len (nbRun o).1 (nbRun o).2.1 (nbRun o).2.2
  unfold normal
  omega
theorem sumN_parts {o : List Part} (ho : ∀ p ∈ o, partOk p) : sumN nPart o ≤ 200 * o.length := by
  induction o with
  | nil => simp [sumN]
  | cons p o ih =>
    have h1 := (ho p (List.mem_cons_self ..)).bounds
    have h2 := ih (fun q hq => ho q (List.mem_cons_of_mem _ hq))
    simp only [sumN, nPart, List.length_cons]
    omega
theorem nL_parts {o : List Part} (ho : ∀ p ∈ o, partOk p) : nL nPart o ≤ 201 * o.length := by
  have := sumN_parts ho
  unfold nL; omega
theorem nL_normal {o : List Part} (ho : ∀ p ∈ o, partOk p) : nL nPart (normal o) ≤ 203 * o.length + 2 := by
  have h1 := normal_sum o
  have h2 := normal_len ho
  have h3 := sumN_parts ho
  unfold nL; omega
theorem opNorm_n (o : List Part) : nL nPart (opNorm o) ≤ 2 ^ 20 := by
  unfold opNorm
  split
  · rename_i h
    have := nL_normal h.1.1
    have := h.1.2
    omega
  · simp [nL, sumN]

def isNorm (o : List Part) : Prop := opOk o ∧ opNorm o = o
theorem implIsNorm_c (o : List Part) (hl : nL nPart o ≤ 2 ^ 40) : PureC Tryz.prog 261 [.c (.s (o.map Part.row))] (.one (.c (vb (isNorm o)) 1)) := by
  refine PureC.intro' tt_ok Tryz.func261 (by kernel_rfl) rfl rfl rfl (Nat.le_of_ble_eq_true rfl) (fun w0 base => ?_)
  simp
  refine ACall.pure (implOpOk_c o hl) (by simp) ?_
  by_cases h : opOk o
  · simp [h]
    refine ACall.pure (implOpNorm_c o hl) (by simp) ?_
    simp
    intro H
    refine ACall.pure (implOpSame_c o (opNorm o) hl) (by simp) ?_
    simp [isNorm, h]
    exact dc_congr ⟨fun h => h.symm, fun h => h.symm⟩
  · simp [h, isNorm]
theorem specIsNorm_c (o : List Part) (hl : nL nPart o ≤ 2 ^ 40) : PureC Tryz.prog 257 [.c (.s (o.map Part.row))] (.one (.c (vb (isNorm o)) 1)) := by
  refine PureC.intro' tt_ok Tryz.func257 (by kernel_rfl) rfl rfl rfl (Nat.le_of_ble_eq_true rfl) (fun w0 base => ?_)
  simp
  refine ACall.pure (specOpOk_c o hl) (by simp) ?_
  by_cases h : opOk o
  · simp [h]
    refine ACall.pure (specOpNorm_c o hl) (by simp) ?_
    simp
    intro H
    refine ACall.pure (specOpSame_c' (opNorm o) o (Nat.le_trans (opNorm_n o) (by decide))) (by simp) ?_
    simp [isNorm, h]
  · simp [h, isNorm]

open Classical in
noncomputable def puts (o : List Part) : Int := if opOk o then sumI fP o else 0
open Classical in
noncomputable def drops (o : List Part) : Int := if opOk o then sumI fD o else 0
open Classical in
noncomputable def sizeOfKind (o : List Part) (k : Int) : Int := if opOk o then sumI (fOf k) o else 0
theorem puts_size (o : List Part) : sizeOfKind o 2 = puts o := by
  unfold sizeOfKind puts
  split
  · rename_i h; exact sumI_congr (fun p hp => of2 (h.1.1 p hp))
  · rfl
theorem drops_size (o : List Part) : sizeOfKind o 3 = drops o := by
  unfold sizeOfKind drops
  split
  · rename_i h; exact sumI_congr (fun p hp => of3 (h.1.1 p hp))
  · rfl

theorem implSizeOfKind_c (o : List Part) (hl : nL nPart o ≤ 2 ^ 40) (k : Int) : PureC Tryz.prog 339 [.c (.s (o.map Part.row)), .c (vi k)] (.one (.c (vi (sizeOfKind o k)) 1)) := by
  refine PureC.intro' tt_ok Tryz.func339 (by kernel_rfl) rfl rfl rfl (Nat.le_of_ble_eq_true rfl) (fun w0 base => ?_)
  have hle := nL_len hl
  simp
  refine ACall.pure (implOpOk_c o hl) (by simp) ?_
  by_cases hok : opOk o
  · have ho := hok.1
    have hr : sizeOfKind o k = sumI (fOf k) o := by unfold sizeOfKind; rw [if_pos hok]
    simp [hok, hr]
    refine LoopT.intro eok (fun i : Nat => i ≤ o.length) (fun i => ⟨27, 0, [(13, .v (.int .i64 i)), (12, .v (.int .i64 o.length)), (11, .ro (o.map Part.row)), (5, .v (.int .i64 (sumI (fOf k) (o.take i)))), (1, .v (.int .i64 k))], []⟩) (fun i => o.length - i) 0 (by simp) (by simp [sumI]) (fun i hi => ?_)
    by_cases h : i < o.length
    · have hp := ho.1 _ (List.getElem_mem h)
      have hb := sumI_bound (f := fOf k) (fun p h => fOf_b h) (take_ok ho.1 i)
      have hb2 := hp.bounds
      have hlen := ho.2
      have hlt : (o.take i).length ≤ 600 := by simp; omega
      have hs := sumI_suc (f := fOf k) h
      obtain ⟨q, hq⟩ : ∃ q, sumI (fOf k) (o.take i) = q := ⟨_, rfl⟩
      have e : Go.IntKind.i64.wrap ((i : Int) + 1) = ((i + 1 : Nat) : Int) := i64_suc (by omega)
      rw [hq] at hs hb
      simp [h, Part.row, hq]
      intros
      by_cases hk : o[i].kind = k
      · simp [hk]
        refine ACall.pure (size_c o[i] hp) (by simp [Part.row, hk]) ?_
        have e2 : Go.IntKind.i64.wrap (q + (o[i].n + (o[i].signs.length : Int))) = q + (o[i].n + o[i].signs.length) := Go.IntWalk.i64_in _ (by omega)
        simp [e2]
        refine ⟨i + 1, by omega, by omega, e, ?_⟩
        rw [hs]; simp [fOf, hk]
      · simp [hk]
        refine ⟨i + 1, by omega, by omega, e, ?_⟩
        rw [hs]; simp [fOf, hk]
    · simp [h]
      rw [List.take_of_length_le (by omega)]
  · have e : dc (opOk o) = false := by rw [dc_no]; exact hok
    have hr : sizeOfKind o k = 0 := by unfold sizeOfKind; rw [if_neg hok]
    simp [e, hr]
theorem implPuts_c (o : List Part) (hl : nL nPart o ≤ 2 ^ 40) : PureC Tryz.prog 314 [.c (.s (o.map Part.row))] (.one (.c (vi (puts o)) 1)) := by
  refine PureC.intro' tt_ok Tryz.func314 (by kernel_rfl) rfl rfl rfl (Nat.le_of_ble_eq_true rfl) (fun w0 base => ?_)
  simp
  refine ACall.pure (implSizeOfKind_c o hl 2) (by simp) ?_
  simp [puts_size]
theorem implDrops_c (o : List Part) (hl : nL nPart o ≤ 2 ^ 40) : PureC Tryz.prog 315 [.c (.s (o.map Part.row))] (.one (.c (vi (drops o)) 1)) := by
  refine PureC.intro' tt_ok Tryz.func315 (by kernel_rfl) rfl rfl rfl (Nat.le_of_ble_eq_true rfl) (fun w0 base => ?_)
  simp
  refine ACall.pure (implSizeOfKind_c o hl 3) (by simp) ?_
  simp [drops_size]
theorem specPuts_c (o : List Part) (hl : nL nPart o ≤ 2 ^ 40) : PureC Tryz.prog 303 [.c (.s (o.map Part.row))] (.one (.c (vi (puts o)) 1)) := by
  refine PureC.intro' tt_ok Tryz.func303 (by kernel_rfl) rfl rfl rfl (Nat.le_of_ble_eq_true rfl) (fun w0 base => ?_)
  simp
  refine ACall.pure (specOpOk_c o hl) (by simp) ?_
  by_cases h : opOk o
  · simp [h]
    refine ACall.pure (l02Sum_c o hl) (by simp) ?_
    simp [puts, h, l02Sum, h.1]
  · have e : dc (opOk o) = false := by rw [dc_no]; exact h
    simp [puts, h]
theorem specDrops_c (o : List Part) (hl : nL nPart o ≤ 2 ^ 40) : PureC Tryz.prog 304 [.c (.s (o.map Part.row))] (.one (.c (vi (drops o)) 1)) := by
  refine PureC.intro' tt_ok Tryz.func304 (by kernel_rfl) rfl rfl rfl (Nat.le_of_ble_eq_true rfl) (fun w0 base => ?_)
  simp
  refine ACall.pure (specOpOk_c o hl) (by simp) ?_
  by_cases h : opOk o
  · simp [h]
    refine ACall.pure (l02Sum_c o hl) (by simp) ?_
    simp [drops, h, l02Sum, h.1]
  · have e : dc (opOk o) = false := by rw [dc_no]; exact h
    simp [drops, h]

def idle (o : List Part) : Prop := opOk o ∧ puts o = 0 ∧ drops o = 0
theorem implIdle_c (o : List Part) (hl : nL nPart o ≤ 2 ^ 40) : PureC Tryz.prog 243 [.c (.s (o.map Part.row))] (.one (.c (vb (idle o)) 1)) := by
  refine PureC.intro' tt_ok Tryz.func243 (by kernel_rfl) rfl rfl rfl (Nat.le_of_ble_eq_true rfl) (fun w0 base => ?_)
  simp
  refine ACall.pure (implOpOk_c o hl) (by simp) ?_
  by_cases h : opOk o
  · simp [h]
    refine ACall.pure (implPuts_c o hl) (by simp) ?_
    by_cases h1 : puts o = 0
    · simp [h1]
      refine ACall.pure (implDrops_c o hl) (by simp) ?_
      simp [idle, h, h1]
    · simp [h1, idle]
  · simp [h, idle]
theorem specIdle_c (o : List Part) (hl : nL nPart o ≤ 2 ^ 40) : PureC Tryz.prog 233 [.c (.s (o.map Part.row))] (.one (.c (vb (idle o)) 1)) := by
  refine PureC.intro' tt_ok Tryz.func233 (by kernel_rfl) rfl rfl rfl (Nat.le_of_ble_eq_true rfl) (fun w0 base => ?_)
  simp
  refine ACall.pure (specOpOk_c o hl) (by simp) ?_
  by_cases h : opOk o
  · simp [h]
    refine ACall.pure (specPuts_c o hl) (by simp) ?_
    by_cases h1 : puts o = 0
    · simp [h1]
      refine ACall.pure (specDrops_c o hl) (by simp) ?_
      simp [idle, h, h1]
    · simp [h1, idle]
  · simp [h, idle]

def textOk (t : List Int) : Prop := t.length ≤ 200 ∧ signsOk t
theorem implTextOk_c (t : List Int) (hl : t.length ≤ 2 ^ 40) : PureC Tryz.prog 223 [.c (.s (t.map intR))] (.one (.c (vb (textOk t)) 1)) := by
  refine PureC.intro' tt_ok Tryz.func223 (by kernel_rfl) rfl rfl rfl (Nat.le_of_ble_eq_true rfl) (fun w0 base => ?_)
  by_cases h : t.length ≤ 200
  · have h' : (t.length : Int) ≤ 200 := by omega
    simp [h']
    refine ACall.pure (implSignsOk_c t hl) (by simp) ?_
    simp [textOk, h]
  · have h' : ¬ (t.length : Int) ≤ 200 := by omega
    simp [h', textOk, h]
theorem specTextOk_c (t : List Int) (hl : t.length ≤ 2 ^ 40) : PureC Tryz.prog 218 [.c (.s (t.map intR))] (.one (.c (vb (textOk t)) 1)) := by
  refine PureC.intro' tt_ok Tryz.func218 (by kernel_rfl) rfl rfl rfl (Nat.le_of_ble_eq_true rfl) (fun w0 base => ?_)
  simp
  refine ACall.pure (specSignsOk_c t hl) (by simp) ?_
  have e : ((t.length : Int) ≤ 200) = (t.length ≤ 200) := by simp; omega
  by_cases hg : signsOk t
  · simp [hg, textOk, e]
  · simp [hg, textOk]

open Classical in
noncomputable def keeping (n : Int) : List Part := if 1 ≤ n ∧ n ≤ 200 then [⟨1, n, []⟩] else []
theorem implKeeping_c (n : Int) : PureC Tryz.prog 244 [.c (vi n)] (.one (.c (.s ((keeping n).map Part.row)) 3)) := by
  refine PureC.intro' tt_ok Tryz.func244 (by kernel_rfl) rfl rfl rfl (Nat.le_of_ble_eq_true rfl) (fun w0 base => ?_)
  simp
  refine ACall.pure (within_c n 1 200) (by simp) ?_
  by_cases h : 1 ≤ n ∧ n ≤ 200
  · simp [h, keeping, Part.row]
  · have e : dc (1 ≤ n ∧ n ≤ 200) = false := by rw [dc_no]; exact h
    have k : keeping n = [] := by unfold keeping; rw [if_neg h]
    simp [e, k]
theorem specKeeping_c (n : Int) : PureC Tryz.prog 234 [.c (vi n)] (.one (.c (.s ((keeping n).map Part.row)) 3)) := by
  refine PureC.intro' tt_ok Tryz.func234 (by kernel_rfl) rfl rfl rfl (Nat.le_of_ble_eq_true rfl) (fun w0 base => ?_)
  simp
  refine ACall.pure (l01In_c n 1 200) (by simp) ?_
  by_cases h : 1 ≤ n ∧ n ≤ 200
  · simp [h, keeping, Part.row]
  · have e : dc (1 ≤ n ∧ n ≤ 200) = false := by rw [dc_no]; exact h
    have k : keeping n = [] := by unfold keeping; rw [if_neg h]
    simp [e, k]
end Go.Proofs.YtdfdabjdfmamgaaGreat

namespace Go.Proofs.YtdfdabjdfmamgaaGreat
set_option maxRecDepth 20000

def psz (p : Part) : Nat := p.n.toNat + p.signs.length
def pcut (p : Part) (n : Nat) : Part := if p.kind = 2 then ⟨p.kind, p.n, p.signs.take n⟩ else ⟨p.kind, n, p.signs⟩
def pleft (p : Part) (n : Nat) : Part := if p.kind = 2 then ⟨p.kind, p.n, p.signs.drop n⟩ else ⟨p.kind, p.n - n, p.signs⟩

theorem psz_int {p : Part} (h : partOk p) : (psz p : Int) = p.n + p.signs.length ∧ psz p ≤ 200 := by
  have hb := h.bounds
  unfold psz
  by_cases hk : p.kind = 2
  · have := hb.2.2.2.2.1 hk
    omega
  · have := hb.2.2.2.2.2 hk
    rw [this]
    simp
    omega
@[simp] theorem pcut_kind {p : Part} {n : Nat} : (pcut p n).kind = p.kind := by unfold pcut; split <;> rfl
@[simp] theorem pleft_kind {p : Part} {n : Nat} : (pleft p n).kind = p.kind := by unfold pleft; split <;> rfl
theorem pcut_ok {p : Part} (h : partOk p) {n : Nat} (hn : n ≤ psz p) : partOk (pcut p n) := by
  have hp := psz_int h
  unfold pcut
  by_cases hk : p.kind = 2
  · rw [if_pos hk]
    rw [partOk_put hk] at h
    refine .inr ⟨hk, h.1, ?_, fun m hm => h.2.2 m (List.mem_of_mem_take hm)⟩
    simp
    omega
  · rw [if_neg hk]
    have hb := h.bounds
    have hk2 : p.kind = 1 ∨ p.kind = 3 := by omega
    have := hb.2.2.2.2.2 hk
    refine .inl ⟨hk2, ?_, this⟩
    simp only
    omega
theorem pleft_ok {p : Part} (h : partOk p) {n : Nat} (hn : n ≤ psz p) : partOk (pleft p n) := by
  have hp := psz_int h
  unfold pleft
  by_cases hk : p.kind = 2
  · rw [if_pos hk]
    rw [partOk_put hk] at h
    refine .inr ⟨hk, h.1, ?_, fun m hm => h.2.2 m (List.mem_of_mem_drop hm)⟩
    simp
    omega
  · rw [if_neg hk]
    have hb := h.bounds
    have hk2 : p.kind = 1 ∨ p.kind = 3 := by omega
    have := hb.2.2.2.2.2 hk
    refine .inl ⟨hk2, ?_, this⟩
    rw [this] at hp
    simp at hp
    simp only
    omega
theorem pleft_sz {p : Part} (h : partOk p) {n : Nat} (hn : n ≤ psz p) : psz (pleft p n) = psz p - n := by
  have hb := h.bounds
  unfold psz pleft at *
  by_cases hk : p.kind = 2
  · rw [if_pos hk]
    have := hb.2.2.2.2.1 hk
    simp only [this, List.length_drop] at hn ⊢
    omega
  · rw [if_neg hk]
    have := hb.2.2.2.2.2 hk
    simp only [this, List.length_nil] at hn ⊢
    omega
theorem pcut_whole {p : Part} (h : partOk p) : pcut p (psz p) = p := by
  have hb := h.bounds
  unfold psz pcut
  by_cases hk : p.kind = 2
  · rw [if_pos hk]
    have := hb.2.2.2.2.1 hk
    rw [List.take_of_length_le (by omega)]
  · rw [if_neg hk]
    have := hb.2.2.2.2.2 hk
    obtain ⟨k, n, s⟩ := p
    simp only at this hb
    subst this
    simp
    omega
theorem pleft_pleft {p : Part} {m n : Nat} : pleft (pleft p m) n = pleft p (m + n) := by
  unfold pleft
  by_cases hk : p.kind = 2
  · simp [hk, List.drop_drop]
  · simp [hk]
    omega
theorem pleft_zero {p : Part} : pleft p 0 = p := by unfold pleft; split <;> simp

/-- the parts from the first that isn't empty -/
def nxt : List Part → List Part
  | [] => []
  | p :: l => if psz p = 0 then nxt l else p :: l
def tsz : List Part → Nat
  | [] => 0
  | p :: l => psz p + tsz l
/-- what is read and what is written -/
def frs : List Part → Nat
  | [] => 0
  | p :: l => (if p.kind = 2 then 0 else psz p) + frs l
def tos : List Part → Nat
  | [] => 0
  | p :: l => (if p.kind = 3 then 0 else psz p) + tos l
theorem nxt_tsz : ∀ l : List Part, tsz (nxt l) = tsz l
  | [] => rfl
  | p :: l => by
    unfold nxt
    split
    · rename_i h; rw [nxt_tsz l]; simp [tsz, h]
    · rfl
theorem nxt_frs : ∀ l : List Part, frs (nxt l) = frs l
  | [] => rfl
  | p :: l => by
    unfold nxt
    split
    · rename_i h; rw [nxt_frs l]; simp [frs, h]
    · rfl
theorem nxt_tos : ∀ l : List Part, tos (nxt l) = tos l
  | [] => rfl
  | p :: l => by
    unfold nxt
    split
    · rename_i h; rw [nxt_tos l]; simp [tos, h]
    · rfl
theorem nxt_pos : ∀ {l : List Part} {p : Part} {l' : List Part}, nxt l = p :: l' → 0 < psz p
  | [], p, l', h => by simp [nxt] at h
  | q :: l, p, l', h => by
    unfold nxt at h
    split at h
    · exact nxt_pos h
    · simp at h; rw [← h.1]; omega
theorem nxt_nxt : ∀ l : List Part, nxt (nxt l) = nxt l
  | [] => rfl
  | p :: l => by
    by_cases h : psz p = 0
    · simp only [nxt, h, if_true]; exact nxt_nxt l
    · simp only [nxt, h, if_false]
theorem nxt_suffix : ∀ l : List Part, ∃ k, k ≤ l.length ∧ nxt l = l.drop k ∧ ∀ i, (h : i < l.length) → i < k → psz l[i] = 0
  | [] => ⟨0, by simp, rfl, fun i h => by simp at h⟩
  | p :: l => by
    by_cases h : psz p = 0
    · obtain ⟨k, h1, h2, h3⟩ := nxt_suffix l
      refine ⟨k + 1, by simp; omega, by simp [nxt, h, h2], fun i hi hk => ?_⟩
      cases i with
      | zero => simpa using h
      | succ i => simpa using h3 i (by simpa using hi) (by omega)
    · exact ⟨0, by simp, by simp [nxt, h], fun i _ hk => by omega⟩
theorem nxt_mem {l : List Part} {p : Part} (h : p ∈ nxt l) : p ∈ l := by
  obtain ⟨k, _, h2, _⟩ := nxt_suffix l
  rw [h2] at h
  exact List.mem_of_mem_drop h
theorem nxt_len (l : List Part) : (nxt l).length ≤ l.length := by
  obtain ⟨k, _, h2, _⟩ := nxt_suffix l
  rw [h2]; simp

/-- a round of Compose: what is told, what remains -/
def cstep (x y : List Part) : Option (List Part × List Part × List Part) :=
  match nxt x with
  | p :: x' => if p.kind = 3 then some ([pcut p (psz p)], pleft p (psz p) :: x', y) else match nxt y with
    | q :: y' => if q.kind = 2 then some ([pcut q (psz q)], p :: x', pleft q (psz q) :: y') else
        some (if q.kind = 1 then [pcut p (min (psz p) (psz q))] else if p.kind = 1 then [pcut q (min (psz p) (psz q))] else [], pleft p (min (psz p) (psz q)) :: x', pleft q (min (psz p) (psz q)) :: y')
    | [] => none
  | [] => match nxt y with
    | q :: y' => if q.kind = 2 then some ([pcut q (psz q)], [], pleft q (psz q) :: y') else none
    | [] => none

structure CInv (x y : List Part) : Prop where
  px : ∀ p ∈ x, partOk p
  py : ∀ p ∈ y, partOk p
  b : tos x = frs y
theorem mem_pleft {l l' : List Part} {p : Part} {n : Nat} (hl : ∀ q ∈ l, partOk q) (he : nxt l = p :: l') (hn : n ≤ psz p) : ∀ q ∈ pleft p n :: l', partOk q := by
  intro q hq
  rcases List.mem_cons.1 hq with rfl | hq
  · exact pleft_ok (hl p (nxt_mem (he ▸ List.mem_cons_self ..))) hn
  · exact hl q (nxt_mem (he ▸ List.mem_cons_of_mem _ hq))
theorem mem_nxt {l l' : List Part} {p : Part} (hl : ∀ q ∈ l, partOk q) (he : nxt l = p :: l') : partOk p ∧ ∀ q ∈ p :: l', partOk q :=
  ⟨hl p (nxt_mem (he ▸ List.mem_cons_self ..)), fun q hq => hl q (nxt_mem (he ▸ hq))⟩

structure CNext (x y : List Part) (r : List Part × List Part × List Part) : Prop where
  inv : CInv r.2.1 r.2.2
  dec : tsz r.2.1 + tsz r.2.2 < tsz x + tsz y
  ok : ∀ p ∈ r.1, partOk p
  len : r.1.length ≤ 1
theorem cstep_next {x y : List Part} (hi : CInv x y) {r : List Part × List Part × List Part} (h : cstep x y = some r) : CNext x y r := by
  have hx := nxt_tsz x
  have hy := nxt_tsz y
  have hxt := nxt_tos x
  have hyf := nxt_frs y
  have hb := hi.b
  unfold cstep at h
  cases ex : nxt x with
  | nil =>
    rw [ex] at h hx hxt
    cases ey : nxt y with
    | nil => simp [ey] at h
    | cons q y' =>
      rw [ey] at hy hyf
      have hq := mem_nxt hi.py ey
      have hp := nxt_pos ey
      simp only [ey] at h
      split at h
      · rename_i k
        cases h
        have hs := pleft_sz hq.1 (Nat.le_refl _)
        refine ⟨⟨by simp, mem_pleft hi.py ey (Nat.le_refl _), ?_⟩, ?_, ?_, by simp⟩
        · simp [tos, frs, k] at hxt hyf ⊢; omega
        · simp [tsz] at hx hy ⊢; omega
        · intro p hp; simp at hp; subst hp; exact pcut_ok hq.1 (Nat.le_refl _)
      · cases h
  | cons p x' =>
    rw [ex] at h hx hxt
    have hp := mem_nxt hi.px ex
    have hpp := nxt_pos ex
    simp only at h
    split at h
    · rename_i k
      cases h
      have hs := pleft_sz hp.1 (Nat.le_refl _)
      refine ⟨⟨mem_pleft hi.px ex (Nat.le_refl _), hi.py, ?_⟩, ?_, ?_, by simp⟩
      · simp [tos, k] at hxt ⊢; omega
      · simp [tsz] at hx ⊢; omega
      · intro q hq; simp at hq; subst hq; exact pcut_ok hp.1 (Nat.le_refl _)
    · rename_i k3
      cases ey : nxt y with
      | nil => simp [ey] at h
      | cons q y' =>
        rw [ey] at hy hyf
        have hq := mem_nxt hi.py ey
        have hqp := nxt_pos ey
        simp only [ey] at h
        split at h
        · rename_i k
          cases h
          have hs := pleft_sz hq.1 (Nat.le_refl _)
          refine ⟨⟨hp.2, mem_pleft hi.py ey (Nat.le_refl _), ?_⟩, ?_, ?_, by simp⟩
          · simp [tos, frs, k, k3] at hxt hyf ⊢; omega
          · simp [tsz] at hx hy ⊢; omega
          · intro p hp; simp at hp; subst hp; exact pcut_ok hq.1 (Nat.le_refl _)
        · rename_i k2
          cases h
          have hn1 : min (psz p) (psz q) ≤ psz p := by omega
          have hn2 : min (psz p) (psz q) ≤ psz q := by omega
          have hs1 := pleft_sz hp.1 hn1
          have hs2 := pleft_sz hq.1 hn2
          refine ⟨⟨mem_pleft hi.px ex hn1, mem_pleft hi.py ey hn2, ?_⟩, ?_, ?_, ?_⟩
          · simp [tos, frs, k2, k3] at hxt hyf ⊢; omega
          · simp [tsz] at hx hy ⊢; omega
          · intro r hr
            simp only at hr
            split at hr
            · simp at hr; subst hr; exact pcut_ok hp.1 hn1
            · split at hr
              · simp at hr; subst hr; exact pcut_ok hq.1 hn2
              · simp at hr
          · simp only; split <;> (try split) <;> simp

/-- what Compose tells, before it is brought into its normal form -/
noncomputable def cmpK : Nat → List Part → List Part → List Part
  | 0, _, _ => []
  | k + 1, x, y => match cstep x y with
    | none => []
    | some r => r.1 ++ cmpK k r.2.1 r.2.2
noncomputable def cmp (x y : List Part) : List Part := cmpK (tsz x + tsz y) x y
theorem cmpK_eq : ∀ (k m : Nat) {x y : List Part}, CInv x y → tsz x + tsz y ≤ k → tsz x + tsz y ≤ m → cmpK k x y = cmpK m x y
  | 0, 0, _, _, _, _, _ => rfl
  | k + 1, 0, x, y, hi, h, h2 => by
    rw [cmpK, cmpK]
    cases hs : cstep x y with
    | none => rfl
    | some r => have := (cstep_next hi hs).dec; omega
  | 0, m + 1, x, y, hi, h, h2 => by
    rw [cmpK, cmpK]
    cases hs : cstep x y with
    | none => rfl
    | some r => have := (cstep_next hi hs).dec; omega
  | k + 1, m + 1, x, y, hi, h, h2 => by
    rw [cmpK, cmpK]
    cases hs : cstep x y with
    | none => rfl
    | some r =>
      have hn := cstep_next hi hs
      have := hn.dec
      simp only
      rw [cmpK_eq k m hn.inv (by omega) (by omega)]
theorem cmp_none {x y : List Part} (h : cstep x y = none) : cmp x y = [] := by
  unfold cmp
  cases tsz x + tsz y with
  | zero => rfl
  | succ k => rw [cmpK, h]
theorem cmp_some {x y : List Part} (hi : CInv x y) {r : List Part × List Part × List Part} (h : cstep x y = some r) : cmp x y = r.1 ++ cmp r.2.1 r.2.2 := by
  have hn := cstep_next hi h
  have hd := hn.dec
  unfold cmp
  obtain ⟨k, hk⟩ : ∃ k, tsz x + tsz y = k + 1 := ⟨tsz x + tsz y - 1, by omega⟩
  rw [hk, cmpK, h]
  simp only
  rw [cmpK_eq k (tsz r.2.1 + tsz r.2.2) hn.inv (by omega) (by omega)]
end Go.Proofs.YtdfdabjdfmamgaaGreat

namespace Go.Proofs.YtdfdabjdfmamgaaGreat
set_option maxRecDepth 20000

abbrev XR := (List Part × List Part) × List Part × List Part
/-- a round of Transform -/
def tstep (x y : List Part) : Option XR :=
  match nxt x with
  | p :: x' => if p.kind = 2 then some (([pcut p (psz p)], [⟨1, p.signs.length, []⟩]), pleft p (psz p) :: x', y) else match nxt y with
    | q :: y' => if q.kind = 2 then some (([⟨1, q.signs.length, []⟩], [pcut q (psz q)]), p :: x', pleft q (psz q) :: y') else
        some ((if q.kind = 1 then [pcut p (min (psz p) (psz q))] else [], if p.kind = 1 then [pcut q (min (psz p) (psz q))] else []), pleft p (min (psz p) (psz q)) :: x', pleft q (min (psz p) (psz q)) :: y')
    | [] => none
  | [] => match nxt y with
    | q :: y' => if q.kind = 2 then some (([⟨1, q.signs.length, []⟩], [pcut q (psz q)]), [], pleft q (psz q) :: y') else none
    | [] => none

structure TInv (x y : List Part) : Prop where
  px : ∀ p ∈ x, partOk p
  py : ∀ p ∈ y, partOk p
  b : frs x = frs y
structure TNext (x y : List Part) (r : XR) : Prop where
  inv : TInv r.2.1 r.2.2
  dec : tsz r.2.1 + tsz r.2.2 < tsz x + tsz y
  okx : ∀ p ∈ r.1.1, partOk p
  oky : ∀ p ∈ r.1.2, partOk p
  lenx : r.1.1.length ≤ 1
  leny : r.1.2.length ≤ 1
theorem keepOk {p : Part} (h : partOk p) : partOk ⟨1, p.signs.length, []⟩ := by
  have := h.bounds
  exact .inl ⟨.inl rfl, by simp only; omega, rfl⟩
theorem tstep_next {x y : List Part} (hi : TInv x y) {r : XR} (h : tstep x y = some r) : TNext x y r := by
  have hx := nxt_tsz x
  have hy := nxt_tsz y
  have hxt := nxt_frs x
  have hyf := nxt_frs y
  have hb := hi.b
  unfold tstep at h
  cases ex : nxt x with
  | nil =>
    rw [ex] at h hx hxt
    cases ey : nxt y with
    | nil => simp [ey] at h
    | cons q y' =>
      rw [ey] at hy hyf
      have hq := mem_nxt hi.py ey
      have hp := nxt_pos ey
      simp only [ey] at h
      split at h
      · rename_i k
        cases h
        have hs := pleft_sz hq.1 (Nat.le_refl _)
        refine ⟨⟨by simp, mem_pleft hi.py ey (Nat.le_refl _), ?_⟩, ?_, ?_, ?_, by simp, by simp⟩
        · simp [frs, k] at hxt hyf ⊢; omega
        · simp [tsz] at hx hy ⊢; omega
        · intro p hp; simp at hp; subst hp; exact keepOk hq.1
        · intro p hp; simp at hp; subst hp; exact pcut_ok hq.1 (Nat.le_refl _)
      · cases h
  | cons p x' =>
    rw [ex] at h hx hxt
    have hp := mem_nxt hi.px ex
    have hpp := nxt_pos ex
    simp only at h
    split at h
    · rename_i k
      cases h
      have hs := pleft_sz hp.1 (Nat.le_refl _)
      refine ⟨⟨mem_pleft hi.px ex (Nat.le_refl _), hi.py, ?_⟩, ?_, ?_, ?_, by simp, by simp⟩
      · simp [frs, k] at hxt ⊢; omega
      · simp [tsz] at hx ⊢; omega
      · intro q hq; simp at hq; subst hq; exact pcut_ok hp.1 (Nat.le_refl _)
      · intro q hq; simp at hq; subst hq; exact keepOk hp.1
    · rename_i k3
      cases ey : nxt y with
      | nil => simp [ey] at h
      | cons q y' =>
        rw [ey] at hy hyf
        have hq := mem_nxt hi.py ey
        have hqp := nxt_pos ey
        simp only [ey] at h
        split at h
        · rename_i k
          cases h
          have hs := pleft_sz hq.1 (Nat.le_refl _)
          refine ⟨⟨hp.2, mem_pleft hi.py ey (Nat.le_refl _), ?_⟩, ?_, ?_, ?_, by simp, by simp⟩
          · simp [frs, k, k3] at hxt hyf ⊢; omega
          · simp [tsz] at hx hy ⊢; omega
          · intro p hp; simp at hp; subst hp; exact keepOk hq.1
          · intro p hp; simp at hp; subst hp; exact pcut_ok hq.1 (Nat.le_refl _)
        · rename_i k2
          cases h
          have hn1 : min (psz p) (psz q) ≤ psz p := by omega
          have hn2 : min (psz p) (psz q) ≤ psz q := by omega
          have hs1 := pleft_sz hp.1 hn1
          have hs2 := pleft_sz hq.1 hn2
          refine ⟨⟨mem_pleft hi.px ex hn1, mem_pleft hi.py ey hn2, ?_⟩, ?_, ?_, ?_, ?_, ?_⟩
          · simp [frs, k2, k3] at hxt hyf ⊢; omega
          · simp [tsz] at hx hy ⊢; omega
          · intro r hr
            simp only at hr
            split at hr
            · simp at hr; subst hr; exact pcut_ok hp.1 hn1
            · simp at hr
          · intro r hr
            simp only at hr
            split at hr
            · simp at hr; subst hr; exact pcut_ok hq.1 hn2
            · simp at hr
          · simp only; split <;> simp
          · simp only; split <;> simp

noncomputable def xfK : Nat → List Part → List Part → List Part × List Part
  | 0, _, _ => ([], [])
  | k + 1, x, y => match tstep x y with
    | none => ([], [])
    | some r => (r.1.1 ++ (xfK k r.2.1 r.2.2).1, r.1.2 ++ (xfK k r.2.1 r.2.2).2)
noncomputable def xf (x y : List Part) : List Part × List Part := xfK (tsz x + tsz y) x y
theorem xfK_eq : ∀ (k m : Nat) {x y : List Part}, TInv x y → tsz x + tsz y ≤ k → tsz x + tsz y ≤ m → xfK k x y = xfK m x y
  | 0, 0, _, _, _, _, _ => rfl
  | k + 1, 0, x, y, hi, h, h2 => by
    rw [xfK, xfK]
    cases hs : tstep x y with
    | none => rfl
    | some r => have := (tstep_next hi hs).dec; omega
  | 0, m + 1, x, y, hi, h, h2 => by
    rw [xfK, xfK]
    cases hs : tstep x y with
    | none => rfl
    | some r => have := (tstep_next hi hs).dec; omega
  | k + 1, m + 1, x, y, hi, h, h2 => by
    rw [xfK, xfK]
    cases hs : tstep x y with
    | none => rfl
    | some r =>
      have hn := tstep_next hi hs
      have := hn.dec
      simp only
      rw [xfK_eq k m hn.inv (by omega) (by omega)]
theorem xf_none {x y : List Part} (h : tstep x y = none) : xf x y = ([], []) := by
  unfold xf
  cases tsz x + tsz y with
  | zero => rfl
  | succ k => rw [xfK, h]
theorem xf_some {x y : List Part} (hi : TInv x y) {r : XR} (h : tstep x y = some r) : xf x y = (r.1.1 ++ (xf r.2.1 r.2.2).1, r.1.2 ++ (xf r.2.1 r.2.2).2) := by
  have hn := tstep_next hi h
  have hd := hn.dec
  unfold xf
  obtain ⟨k, hk⟩ : ∃ k, tsz x + tsz y = k + 1 := ⟨tsz x + tsz y - 1, by omega⟩
  rw [hk, xfK, h]
  simp only
  rw [xfK_eq k (tsz r.2.1 + tsz r.2.2) hn.inv (by omega) (by omega)]

theorem frs_sum : ∀ {o : List Part}, (∀ p ∈ o, partOk p) → (frs o : Int) = sumI (fBut 2) o
  | [], _ => rfl
  | p :: o, h => by
    have ih := frs_sum (fun q hq => h q (List.mem_cons_of_mem _ hq))
    have hp := psz_int (h p (List.mem_cons_self ..))
    simp only [frs, sumI, fBut]
    split <;> simp <;> omega
theorem tos_sum : ∀ {o : List Part}, (∀ p ∈ o, partOk p) → (tos o : Int) = sumI (fBut 3) o
  | [], _ => rfl
  | p :: o, h => by
    have ih := tos_sum (fun q hq => h q (List.mem_cons_of_mem _ hq))
    have hp := psz_int (h p (List.mem_cons_self ..))
    simp only [tos, sumI, fBut]
    split <;> simp <;> omega
theorem frs_from {o : List Part} (h : opOk o) : (frs o : Int) = opFrom o := by
  rw [frs_sum h.1.1, sumI_congr (fun p hp => but2 (h.1.1 p hp)), sumI_add]
  unfold opFrom l02Sum
  rw [if_pos h.1]
theorem tos_to {o : List Part} (h : opOk o) : (tos o : Int) = opTo o := by
  rw [tos_sum h.1.1, sumI_congr (fun p hp => but3 (h.1.1 p hp)), sumI_add]
  unfold opTo l02Sum
  rw [if_pos h.1]
theorem tsz_le : ∀ (o : List Part), tsz o ≤ frs o + tos o
  | [] => by simp [tsz]
  | p :: o => by
    have := tsz_le o
    simp only [tsz, frs, tos]
    split <;> split <;> omega
theorem tsz_ok {o : List Part} (h : opOk o) : tsz o ≤ 400 := by
  have h1 := tsz_le o
  have h2 := frs_from h
  have h3 := tos_to h
  have := h.2
  omega
theorem cinv_of {a b : List Part} (ha : opOk a) (hb : opOk b) (h : opTo a = opFrom b) : CInv a b := by
  have h2 := frs_from hb
  have h3 := tos_to ha
  exact ⟨ha.1.1, hb.1.1, by omega⟩
theorem tinv_of {a b : List Part} (ha : opOk a) (hb : opOk b) (h : opFrom a = opFrom b) : TInv a b := by
  have h2 := frs_from hb
  have h3 := frs_from ha
  exact ⟨ha.1.1, hb.1.1, by omega⟩

open Classical in
noncomputable def fCompose (a b : List Part) : List Part × Bool :=
  if opOk a ∧ opOk b ∧ opTo a = opFrom b then (if opOk (normal (cmp a b)) then (normal (cmp a b), true) else ([], false)) else ([], false)
open Classical in
noncomputable def fTransform (a b : List Part) : List Part × List Part × Bool :=
  if opOk a ∧ opOk b ∧ opFrom a = opFrom b then (if opOk (normal (xf a b).1) ∧ opOk (normal (xf a b).2) then (normal (xf a b).1, normal (xf a b).2, true) else ([], [], false)) else ([], [], false)
end Go.Proofs.YtdfdabjdfmamgaaGreat

namespace Go.Proofs.YtdfdabjdfmamgaaGreat
set_option maxRecDepth 20000

/-- what remains behind a place in an operation -/
def cur (o : List Part) (i d : Nat) : List Part :=
  match o.drop i with
  | [] => []
  | p :: l => pleft p d :: l
theorem cur_end {o : List Part} {i d : Nat} (h : o.length ≤ i) : cur o i d = [] := by unfold cur; rw [List.drop_eq_nil_of_le h]
theorem cur_at {o : List Part} {i d : Nat} (h : i < o.length) : cur o i d = pleft o[i] d :: o.drop (i + 1) := by unfold cur; rw [List.drop_eq_getElem_cons h]
theorem cur_zero {o : List Part} {i : Nat} : cur o i 0 = o.drop i := by
  unfold cur
  cases o.drop i with
  | nil => rfl
  | cons p l => simp [pleft_zero]
theorem cur_step {o : List Part} (ho : ∀ p ∈ o, partOk p) {i : Nat} (h : i < o.length) : nxt (cur o i (psz o[i])) = nxt (cur o (i + 1) 0) := by
  rw [cur_at h, cur_zero]
  have := pleft_sz (ho _ (List.getElem_mem h)) (Nat.le_refl _)
  simp [nxt, this]
theorem cur_stop {o : List Part} (ho : ∀ p ∈ o, partOk p) {i d : Nat} (h : i < o.length) (hd : d < psz o[i]) : nxt (cur o i d) = cur o i d := by
  rw [cur_at h]
  have := pleft_sz (ho _ (List.getElem_mem h)) (Nat.le_of_lt hd)
  have h2 : ¬ psz (pleft o[i] d) = 0 := by omega
  simp [nxt, h2]
theorem cur_left {o : List Part} {i d n : Nat} (h : i < o.length) {p : Part} {l : List Part} (hc : cur o i d = p :: l) : pleft p n :: l = cur o i (d + n) := by
  rw [cur_at h] at hc ⊢
  cases hc
  rw [pleft_pleft]
end Go.Proofs.YtdfdabjdfmamgaaGreat

namespace Go.Proofs.YtdfdabjdfmamgaaGreat
open Go.AM
set_option maxRecDepth 20000
theorem get_miss {k j : Nat} {o : AObj} {h : AH} (hne : j ≠ k) : AH.get ((k, o) :: h) j = AH.get h j := if_neg hne
end Go.Proofs.YtdfdabjdfmamgaaGreat

namespace Go.Proofs.YtdfdabjdfmamgaaGreat
open Go.AM
set_option maxRecDepth 20000

theorem implSize_c (p : Part) (h : partOk p) : PureC Tryz.prog 311 [.agg p.row] (.one (.c (vi (psz p)) 1)) := by
  refine PureC.intro' tt_ok Tryz.func311 (by kernel_rfl) rfl rfl rfl (Nat.le_of_ble_eq_true rfl) (fun w0 base => ?_)
  have hp := psz_int h
  have e : Go.IntKind.i64.wrap (p.n + (p.signs.length : Int)) = p.n + p.signs.length := Go.IntWalk.i64_in _ (by omega)
  rw [hp.1]
  simp [Part.row, e]

def hdV : List Part → AV
  | [] => .agg [.v (.int .i64 0), .v (.int .i64 0), .nil]
  | p :: _ => .agg [.v (.int .i64 p.kind), .v (.int .i64 p.n), .ro (p.signs.map intR)]

theorem next_call {w0 : World} {bF bG : Nat → Prop} {bl : Bool} {st : ASt} {dst : Option Nat} {K : ASt → Prop} {kx b kb : Nat} {l : List Part} (hk : kx + 16 < kb) (hs : ∀ p ∈ l, partOk p)
    (g : st.h.get kx = .vars b 321 [.ro (l.map Part.row)])
    (hK : ∀ h', AH.get h' kx = .vars b 321 [.ro ((nxt l).map Part.row)] → (∀ q, q ≠ kx → q < kb → AH.get h' q = st.h.get q) → aPut ⟨st.n, st.kb, st.t, h'⟩ dst (hdV (nxt l)) K) :
    ACall ⟨Tryz.prog, tt, w0, ⟨bF, bG, bl, fun _ => True⟩⟩ 309 [.p kx b 0] st dst K := by
  refine ACall.inline tt_ok Tryz.func309 (by kernel_rfl) rfl rfl rfl (Nat.le_of_ble_eq_true rfl) kb (fun w1 F => ?_)
  simp
  intro b2
  have hkk : ¬ kx = kb + 32 := by omega
  have hkk2 : ¬ kb + 32 = kx := by omega
  refine LoopT.introW eok (fun m : List Part => nxt m = nxt l ∧ ∀ p ∈ m, p ∈ l) (fun m => ⟨40, kb, [(0, .p kx b 0), (2, .p (kb + 32) b2 0)], (kx, .vars b 321 [.ro (m.map Part.row)]) :: (kb + 32, .vars b2 259 [.v (.int .i64 0), .v (.int .i64 0), .nil]) :: st.h⟩) (fun m => m.length) l ⟨rfl, fun _ h => h⟩ (by simp [hkk, g]) (fun m hm => ?_)
  · cases m with
    | nil =>
      have hn : nxt l = [] := by rw [← hm.1]; rfl
      rw [hn] at hK
      simp [hkk2]
      refine hK _ (by simp [hkk]) (fun q q1 q2 => ?_)
      repeat (first | exact rfl | refine (get_miss (by omega)).trans ?_)
    | cons p m =>
      have hp := hs p (hm.2 p (List.mem_cons_self ..))
      simp [Part.row]
      refine ACall.pure (implSize_c p hp) (by simp [Part.row]) ?_
      by_cases hz : psz p = 0
      · simp [hz, hkk, hkk2]
        refine ⟨m, ⟨by rw [← hm.1]; simp [nxt, hz], fun q hq => hm.2 q (List.mem_cons_of_mem _ hq)⟩, by omega, ?_⟩
        simp [cut]
        exact List.take_of_length_le (by simp)
      · have hn : nxt l = p :: m := by rw [← hm.1]; simp [nxt, hz]
        rw [hn] at hK
        have hm0 : ¬ (m.length : Int) + 1 = 0 := by omega
        simp [hz, hkk2, hm0]
        refine hK _ ?_ (fun q q1 q2 => ?_)
        · simp [hkk, Part.row]
        repeat (first | exact rfl | refine (get_miss (by omega)).trans ?_)
end Go.Proofs.YtdfdabjdfmamgaaGreat

namespace Go.Proofs.YtdfdabjdfmamgaaGreat
open Go.AM
set_option maxRecDepth 20000

theorem cut_take (s : List Int) {n : Nat} (_h : n ≤ s.length) : cut (s.map intR) 0 n = (s.take n).map intR := by
  unfold cut
  split
  · rename_i h2
    rw [List.take_of_length_le (by simp at h2; omega)]
  · simp [List.map_take]
theorem cut_drop (s : List Int) {n : Nat} : cut (s.map intR) n (s.length - n) = (s.drop n).map intR := by
  unfold cut
  split
  · rename_i h2
    rw [h2.1]; simp
  · rw [List.take_of_length_le (by simp), List.map_drop]

theorem take_call {w0 : World} {bF bG : Nat → Prop} {bl : Bool} {st : ASt} {dst : Option Nat} {K : ASt → Prop} {kx b n : Nat} {p : Part} {l : List Part} (hk : kx < 15000) (hp : partOk p) (hn : n ≤ psz p) (hl : l.length ≤ 2 ^ 20)
    (g : st.h.get kx = .vars b 321 [.ro ((p :: l).map Part.row)])
    (hK : ∀ h', AH.get h' kx = .vars b 321 [.ro ((pleft p n :: l).map Part.row)] → (∀ q, q ≠ kx → q < 15000 → AH.get h' q = st.h.get q) → aPut ⟨st.n, st.kb, st.t, h'⟩ dst (hdV [pcut p n]) K) :
    ACall ⟨Tryz.prog, tt, w0, ⟨bF, bG, bl, fun _ => True⟩⟩ 312 [.p kx b 0, .v (.int .i64 n)] st dst K := by
  refine ACall.inlineE tt_ok Tryz.func312 (by kernel_rfl) rfl rfl rfl (Nat.le_of_ble_eq_true rfl) 20000 (fun w1 F => ?_)
  have hps := psz_int hp
  have hb := hp.bounds
  have k0 : ¬ kx = 20064 := by omega
  have k1 : ¬ kx = 20080 := by omega
  have k2 : ¬ kx = 20096 := by omega
  have k3 : ¬ kx = 20112 := by omega
  have k4 : ¬ kx = 20608 := by omega
  have j0 : ¬ 20064 = kx := by omega
  have j1 : ¬ 20080 = kx := by omega
  have j2 : ¬ 20096 = kx := by omega
  have j3 : ¬ 20112 = kx := by omega
  have j4 : ¬ 20608 = kx := by omega
  simp [g, Part.row, k0]
  intro b4 b5
  refine DrawT.cut (fun x : Nat × Nat => ⟨48, 20000, [(0, .p kx b 0), (1, .v (.int .i64 n)), (4, .p 20064 b4 0), (5, .p 20080 b5 0), (6, .p 20096 x.1 0), (7, .p 20112 x.2 0)],
    (20096, .vars x.1 259 [.v (.int .i64 p.kind), .v (.int .i64 p.n), .ro (p.signs.map intR)]) :: (20112, .vars x.2 259 [.v (.int .i64 p.kind), .v (.int .i64 p.n), .ro (p.signs.map intR)]) :: (20080, .vars b5 259 [.v (.int .i64 p.kind), .v (.int .i64 p.n), .ro (p.signs.map intR)]) :: (20064, .vars b4 259 [.v (.int .i64 0), .v (.int .i64 0), .nil]) :: st.h⟩) ?_ ?_
  · refine DrawT.introP2 eok mix [0, 1] 2 3 [4, 5] [([false, false], [true, true]), ([false, false], [true, true]), ([false, true], [true, false]), ([true, false], [false, false])] [false, false] [([false, false], [true, true]), ([false, false], [true, true]), ([false, true], [true, false]), ([true, false], [false, false])] [false, false] (by kernel_rfl) ?_
    simp
    trace_state
  rintro ⟨b6, b7⟩
  simp
  by_cases hk2 : p.kind = 2
  · simp [hk2]
    refine DrawT.introP eok mix [0, 1, 2, 3, 4, 5, 6, 7, 8, 10] [9, 11] [([false, true, false, false, false, false, true, true, true, true], [true, false, true, true, true, true, false, false, false, false]), ([true, false, true, true, true, true, false, false, false, false], [false, false, false, false, false, false, false, false, false, false])] [false, false, false, false, false, false, false, false, false, false] (by kernel_rfl) ?_
    have hns : n ≤ p.signs.length := by have := hb.2.2.2.2.1 hk2; omega
    simp [hns]
    refine DrawT.introP eok mix [0, 1, 3, 4, 5, 6, 7, 9, 10] [2, 8, 11] [([false, false, false, false, false, false, false, true, false], [true, true, true, true, true, true, true, false, true]), ([false, false, true, false, false, false, false, false, false], [true, true, false, true, true, true, true, false, true]), ([true, false, false, true, true, true, true, false, true], [false, true, false, false, false, false, false, false, false])] [false, true, false, false, false, false, false, false, false] (by kernel_rfl) ?_
    have ct : cut ([vi p.kind, vi p.n, CD.s (p.signs.map intR)] :: l.map Part.row) 1 l.length = l.map Part.row := by
      simp [cut]
      exact List.take_of_length_le (by simp)
    have hv : hdV [pcut p n] = .agg [.v (.int .i64 2), .v (.int .i64 p.n), .ro ((p.signs.map intR).take n)] := by simp [hdV, pcut, hk2, List.map_take]
    rw [hv] at hK
    simp [g, Part.row, k0, k1, k2, k3, k4, j0, j3, ct, cut_take p.signs hns, cut_drop p.signs]
    intro b8
    refine ⟨by omega, fun H => ⟨_, HEnt.frz (kx := kx) (b := b) (T := 321) (cells := [.sl 20608 H 3 0 (1 + l.length)]) (j := 0) (k := 20608) (sz := 3) (off := 0) (len := 1 + l.length) (H := H) (rows := (pleft p n).row :: l.map Part.row) (own := false) ?_ rfl ?_ (by simp; omega), ?_⟩⟩
    · simp [k0]
    · simp [j4, Part.row, pleft, hk2]
    · refine hK _ ?_ (fun q q1 q2 => ?_)
      · simp [cut, Nat.add_comm]
      · repeat (first | exact rfl | refine (get_miss (by omega)).trans ?_)
  · simp [hk2]
    refine DrawT.introP eok mix [0, 1, 2, 3, 4, 5, 7] [6, 8] [([false, true, false, false, false, false, true], [true, false, true, true, true, true, false]), ([true, false, true, true, true, true, false], [false, false, false, false, false, false, false])] [false, false, false, false, false, false, false] (by kernel_rfl) ?_
    have e : Go.IntKind.i64.wrap (p.n - (n : Int)) = p.n - n := Go.IntWalk.i64_in _ (by omega)
    simp [e]
    refine DrawT.introP eok mix [0, 1, 3, 4, 5, 6, 7, 9, 10] [2, 8, 11] [([false, false, false, false, false, false, false, true, false], [true, true, true, true, true, true, true, false, true]), ([false, false, true, false, false, false, false, false, false], [true, true, false, true, true, true, true, false, true]), ([true, false, false, true, true, true, true, false, true], [false, true, false, false, false, false, false, false, false])] [false, true, false, false, false, false, false, false, false] (by kernel_rfl) ?_
    have ct : cut ([vi p.kind, vi p.n, CD.s (p.signs.map intR)] :: l.map Part.row) 1 l.length = l.map Part.row := by
      simp [cut]
      exact List.take_of_length_le (by simp)
    have hv : hdV [pcut p n] = .agg [.v (.int .i64 p.kind), .v (.int .i64 n), .ro (p.signs.map intR)] := by simp [hdV, pcut, hk2]
    rw [hv] at hK
    simp [g, Part.row, k0, k1, k2, k3, k4, j0, j3, ct]
    intro b8
    refine ⟨by omega, fun H => ⟨_, HEnt.frz (kx := kx) (b := b) (T := 321) (cells := [.sl 20608 H 3 0 (1 + l.length)]) (j := 0) (k := 20608) (sz := 3) (off := 0) (len := 1 + l.length) (H := H) (rows := (pleft p n).row :: l.map Part.row) (own := false) ?_ rfl ?_ (by simp; omega), ?_⟩⟩
    · simp [k0]
    · simp [j4, Part.row, pleft, hk2]
    · refine hK _ ?_ (fun q q1 q2 => ?_)
      · simp [cut, Nat.add_comm]
      · repeat (first | exact rfl | refine (get_miss (by omega)).trans ?_)
end Go.Proofs.YtdfdabjdfmamgaaGreat

namespace Go.Proofs.YtdfdabjdfmamgaaGreat
open Go.AM
set_option maxRecDepth 20000

theorem whole_call {w0 : World} {bF bG : Nat → Prop} {bl : Bool} {st : ASt} {dst : Option Nat} {K : ASt → Prop} {kx b : Nat} {p : Part} {l : List Part} (hk : kx < 14000) (hp : partOk p) (hl : l.length ≤ 2 ^ 20)
    (g : st.h.get kx = .vars b 321 [.ro ((p :: l).map Part.row)])
    (hK : ∀ h', AH.get h' kx = .vars b 321 [.ro ((pleft p (psz p) :: l).map Part.row)] → (∀ q, q ≠ kx → q < 14000 → AH.get h' q = st.h.get q) → aPut ⟨st.n, st.kb, st.t, h'⟩ dst (hdV [p]) K) :
    ACall ⟨Tryz.prog, tt, w0, ⟨bF, bG, bl, fun _ => True⟩⟩ 310 [.p kx b 0] st dst K := by
  refine ACall.inline tt_ok Tryz.func310 (by kernel_rfl) rfl rfl rfl (Nat.le_of_ble_eq_true rfl) 14000 (fun w1 F => ?_)
  have k0 : ¬ kx = 14032 := by omega
  have j0 : ¬ 14032 = kx := by omega
  simp [g, Part.row, k0]
  intro b2
  refine ACall.pure (implSize_c p hp) (by simp [Part.row]) ?_
  simp
  refine take_call (n := psz p) (by omega) hp (Nat.le_refl _) hl (by simp [k0, g]) (fun h' g1 g2 => ?_)
  have e := g2 14032 j0 (by omega)
  simp at e
  simp [hdV, e]
  rw [pcut_whole hp]
  refine hK _ (by simp [g1, k0]) (fun q q1 q2 => ?_)
  have hq : ¬ q = 14032 := by omega
  simp [hq, g2 q q1 (by omega)]

/-- two operations that are being read; all else below 14000 stays as it was -/
structure RS (kx ky bx by_ : Nat) (h0 h : AH) (X Y : List Part) : Prop where
  ne : kx ≠ ky
  lx : kx < 14000 - 16
  ly : ky < 14000 - 16
  gx : AH.get h kx = .vars bx 321 [.ro (X.map Part.row)]
  gy : AH.get h ky = .vars by_ 321 [.ro (Y.map Part.row)]
  o : ∀ q, q ≠ kx → q ≠ ky → q < 14000 → AH.get h q = AH.get h0 q
theorem RS.swap {kx ky bx by_ : Nat} {h0 h : AH} {X Y : List Part} (R : RS kx ky bx by_ h0 h X Y) : RS ky kx by_ bx h0 h Y X := ⟨R.ne.symm, R.ly, R.lx, R.gy, R.gx, fun q h1 h2 => R.o q h2 h1⟩
section
variable {w0 : World} {bF bG : Nat → Prop} {bl : Bool} {st : ASt} {dst : Option Nat} {K : ASt → Prop} {kx ky bx by_ : Nat} {h0 : AH} {X Y : List Part}
theorem RS.next (R : RS kx ky bx by_ h0 st.h X Y) (hs : ∀ p ∈ X, partOk p) (hK : ∀ h', RS kx ky bx by_ h0 h' (nxt X) Y → aPut ⟨st.n, st.kb, st.t, h'⟩ dst (hdV (nxt X)) K) :
    ACall ⟨Tryz.prog, tt, w0, ⟨bF, bG, bl, fun _ => True⟩⟩ 309 [.p kx bx 0] st dst K := by
  have := R.lx
  have := R.ly
  refine next_call (l := X) (kb := 20000) (by omega) hs R.gx (fun h1 g1 o1 => hK h1 ⟨R.ne, R.lx, R.ly, g1, by rw [o1 ky R.ne.symm (by omega)]; exact R.gy, fun q q1 q2 q3 => by rw [o1 q q1 (by omega)]; exact R.o q q1 q2 q3⟩)
theorem RS.take {p : Part} {l : List Part} {n : Nat} (R : RS kx ky bx by_ h0 st.h (p :: l) Y) (hp : partOk p) (hn : n ≤ psz p) (hl : l.length ≤ 2 ^ 20) (hK : ∀ h', RS kx ky bx by_ h0 h' (pleft p n :: l) Y → aPut ⟨st.n, st.kb, st.t, h'⟩ dst (hdV [pcut p n]) K) :
    ACall ⟨Tryz.prog, tt, w0, ⟨bF, bG, bl, fun _ => True⟩⟩ 312 [.p kx bx 0, .v (.int .i64 n)] st dst K := by
  have := R.lx
  have := R.ly
  refine take_call (by omega) hp hn hl R.gx (fun h1 g1 o1 => hK h1 ⟨R.ne, R.lx, R.ly, g1, by rw [o1 ky R.ne.symm (by omega)]; exact R.gy, fun q q1 q2 q3 => by rw [o1 q q1 (by omega)]; exact R.o q q1 q2 q3⟩)
theorem RS.whole {p : Part} {l : List Part} (R : RS kx ky bx by_ h0 st.h (p :: l) Y) (hp : partOk p) (hl : l.length ≤ 2 ^ 20) (hK : ∀ h', RS kx ky bx by_ h0 h' (pleft p (psz p) :: l) Y → aPut ⟨st.n, st.kb, st.t, h'⟩ dst (hdV [p]) K) :
    ACall ⟨Tryz.prog, tt, w0, ⟨bF, bG, bl, fun _ => True⟩⟩ 310 [.p kx bx 0] st dst K := by
  have := R.lx
  have := R.ly
  refine whole_call (by omega) hp hl R.gx (fun h1 g1 o1 => hK h1 ⟨R.ne, R.lx, R.ly, g1, by rw [o1 ky R.ne.symm (by omega)]; exact R.gy, fun q q1 q2 q3 => by rw [o1 q q1 (by omega)]; exact R.o q q1 q2 q3⟩)
end
theorem hdV_nil : hdV [] = .agg [.v (.int .i64 0), .v (.int .i64 0), .nil] := rfl
theorem hdV_cons {p : Part} {l : List Part} : hdV (p :: l) = .agg [.v (.int .i64 p.kind), .v (.int .i64 p.n), .ro (p.signs.map intR)] := rfl
end Go.Proofs.YtdfdabjdfmamgaaGreat

namespace Go.Proofs.YtdfdabjdfmamgaaGreat
open Go.AM
set_option maxRecDepth 20000
set_option maxHeartbeats 1600000

theorem fCompose_no {a b : List Part} (h : ¬ (opOk a ∧ opOk b ∧ opTo a = opFrom b)) : fCompose a b = ([], false) := by unfold fCompose; rw [if_neg h]
theorem fCompose_yes {a b : List Part} (h1 : opOk a) (h2 : opOk b) (h3 : opTo a = opFrom b) : (opOk (normal (cmp a b)) → fCompose a b = (normal (cmp a b), true)) ∧ (¬ opOk (normal (cmp a b)) → fCompose a b = ([], false)) := by
  unfold fCompose
  rw [if_pos ⟨h1, h2, h3⟩]
  exact ⟨fun h => by rw [if_pos h], fun h => by rw [if_neg h]⟩
theorem implCompose_i (a b : List Part) (ha : nL nPart a ≤ 2 ^ 40) (hb : nL nPart b ≤ 2 ^ 40) : PureC Tryz.prog 241 [.c (.s (a.map Part.row)), .c (.s (b.map Part.row))] (.tup [.c (.s ((fCompose a b).1.map Part.row)) 3, .c (.v (.bool (fCompose a b).2)) 1]) := by
  refine PureC.intro' tt_ok Tryz.func241 (by kernel_rfl) rfl rfl rfl (Nat.le_of_ble_eq_true rfl) (fun w0 base => ?_)
  simp
  refine ACall.pure (implOpOk_c a ha) (by simp) ?_
  by_cases c1 : opOk a
  rotate_left
  · have e := fCompose_no (a := a) (b := b) (fun h => c1 h.1)
    have e2 : dc (opOk a) = false := by rw [dc_no]; exact c1
    simp [e2, e]
  simp [c1]
  refine ACall.pure (implOpOk_c b hb) (by simp) ?_
  by_cases c2 : opOk b
  rotate_left
  · have e := fCompose_no (a := a) (b := b) (fun h => c2 h.2.1)
    have e2 : dc (opOk b) = false := by rw [dc_no]; exact c2
    simp [e2, e]
  simp [c2]
  refine ACall.pure (implOpTo_c a ha) (by simp) ?_
  simp
  refine ACall.pure (implOpFrom_c b hb) (by simp) ?_
  by_cases c3 : opTo a = opFrom b
  rotate_left
  · have e := fCompose_no (a := a) (b := b) (fun h => c3 h.2.2)
    simp [c3, e]
  have hf := fCompose_yes c1 c2 c3
  simp [c3]
  intro bx by_
  have t1 := tsz_ok c1
  have t2 := tsz_ok c2
  refine LoopT.introG eok (fun x : List Part × List Part × List Part × Hd => CInv x.1 x.2.1 ∧ x.2.2.1 ++ cmp x.1 x.2.1 = cmp a b ∧ (∀ p ∈ x.2.2.1, partOk p) ∧ x.2.2.1.length + (tsz x.1 + tsz x.2.1) ≤ 800 ∧ x.1.length ≤ 1000 ∧ x.2.1.length ≤ 1000)
    (fun x => ⟨98, 0, [(6, .p 464 bx 0), (7, .p 512 by_ 0), (8, .sl 5000 x.2.2.2 3 0 x.2.2.1.length)],
    [(464, .vars bx 321 [.ro (x.1.map Part.row)]), (512, .vars by_ 321 [.ro (x.2.1.map Part.row)]), (5000, .rows x.2.2.2 3 (x.2.2.1.map Part.row) false)]⟩) (fun x => tsz x.1 + tsz x.2.1) (a, b, [], none)
    ⟨cinv_of c1 c2 c3, by simp, by simp, by simp; omega, by have := c1.1.2; simp only; omega, by have := c2.1.2; simp only; omega⟩ (by simp) (fun x hx => Ent.refl ?_)
  obtain ⟨X, Y, L, H⟩ := x
  obtain ⟨hi, hcmp, hL, hlen, hlx, hly⟩ := hx
  simp only at hi hcmp hL hlen hlx hly ⊢
  have xl := nxt_len X
  have yl := nxt_len Y
  obtain ⟨h0, hh0⟩ : ∃ h0 : AH, [(464, .vars bx 321 [.ro (X.map Part.row)]), (512, .vars by_ 321 [.ro (Y.map Part.row)]), (5000, .rows H 3 (L.map Part.row) false)] = h0 := ⟨_, rfl⟩
  have R : RS 464 512 bx by_ h0 h0 X Y := ⟨by decide, by decide, by decide, by rw [← hh0]; simp, by rw [← hh0]; simp, fun _ _ _ _ => rfl⟩
  have g5 : AH.get h0 5000 = .rows H 3 (L.map Part.row) false := by rw [← hh0]; simp
  rw [hh0]
  clear hh0
  simp
  refine R.next hi.px (fun h1 R => ?_)
  have okx : ∀ p ∈ nxt X, partOk p := fun p hp => hi.px p (nxt_mem hp)
  have oky : ∀ p ∈ nxt Y, partOk p := fun p hp => hi.py p (nxt_mem hp)
  have hxt := nxt_tos X
  have hyf := nxt_frs Y
  have hbal := hi.b
  cases ex : nxt X with
  | nil =>
    rw [ex] at R
    simp [hdV_nil]
    refine R.swap.next hi.py (fun h2 R => ?_)
    have R := R.swap
    cases ey : nxt Y with
    | nil =>
      have hc : cmp X Y = [] := cmp_none (by simp [cstep, ex, ey])
      simp [hdV_nil]
      rw [hc, List.append_nil] at hcmp
      have e5 := R.o 5000 (by decide) (by decide) (by decide)
      refine ACall.pure (normal_c L hL (by omega)) (by simp [e5, g5]) ?_
      simp
      intro H2
      rw [hcmp] at hL hlen ⊢
      refine ACall.pure (implOpOk_c (normal (cmp a b)) (by have := nL_normal hL; omega)) (by simp) ?_
      by_cases c4 : opOk (normal (cmp a b))
      · have e := hf.1 c4
        simp [c4, e]
      · have e := hf.2 c4
        have e2 : dc (opOk (normal (cmp a b))) = false := by rw [dc_no]; exact c4
        simp [e2, e]
    | cons q y' =>
      rw [ey] at R
      have hq := (mem_nxt hi.py ey).1
      have hqb := hq.bounds
      have q0 : ¬ q.kind = 0 := by omega
      simp [hdV_cons, q0]
      refine R.next (by simp) (fun h3 R => ?_)
      simp only [nxt] at R
      simp [nxt, hdV_nil]
      refine R.swap.next (by rw [← ey]; exact oky) (fun h4 R => ?_)
      have R := R.swap
      rw [← ey, nxt_nxt, ey] at R
      rw [← ey, nxt_nxt, ey]
      by_cases q2 : q.kind = 2
      · simp [hdV_cons, q2]
        refine R.swap.whole hq (by simp [ey] at yl; omega) (fun h5 R => ?_)
        have R := R.swap
        have e5 := R.o 5000 (by decide) (by decide) (by decide)
        have hc : cstep X Y = some ([pcut q (psz q)], [], pleft q (psz q) :: y') := by simp [cstep, ex, ey, q2]
        rw [pcut_whole hq] at hc
        have hn := cstep_next hi hc
        have hcm := cmp_some hi hc
        simp [hdV_cons, e5, g5]
        intro b1
        refine ⟨by omega, fun H2 => Ent.refl ⟨[], pleft q (psz q) :: y', L ++ [q], ⟨hn.inv, by rw [← hcmp, hcm, List.append_assoc], ?_, ?_, ?_, ?_⟩, hn.dec, H2, ?_⟩⟩
        · intro r hr
          rcases List.mem_append.1 hr with hr | hr
          · exact hL r hr
          · exact hn.ok r hr
        · have := hn.dec
          simp at this ⊢
          omega
        · simp
        · simp [ey] at yl ⊢; omega
        · simp [R.gx, R.gy, Part.row, q2]
      · exfalso
        have := nxt_pos ey
        rw [ex] at hxt
        rw [ey] at hyf
        simp [tos, frs, q2] at hxt hyf
        omega
  | cons p x' =>
    rw [ex] at R
    have hp := (mem_nxt hi.px ex).1
    have hpb := hp.bounds
    have p0 : ¬ p.kind = 0 := by omega
    simp [hdV_cons, p0]
    refine R.next (by rw [← ex]; exact okx) (fun h3 R => ?_)
    rw [← ex, nxt_nxt, ex] at R
    rw [← ex, nxt_nxt, ex]
    by_cases p3 : p.kind = 3
    · simp [hdV_cons, p3]
      refine R.whole hp (by simp [ex] at xl; omega) (fun h5 R => ?_)
      have e5 := R.o 5000 (by decide) (by decide) (by decide)
      have hc : cstep X Y = some ([pcut p (psz p)], pleft p (psz p) :: x', Y) := by simp [cstep, ex, p3]
      rw [pcut_whole hp] at hc
      have hn := cstep_next hi hc
      have hcm := cmp_some hi hc
      simp [hdV_cons, e5, g5]
      intro b1
      refine ⟨by omega, fun H2 => Ent.refl ⟨pleft p (psz p) :: x', Y, L ++ [p], ⟨hn.inv, by rw [← hcmp, hcm, List.append_assoc], ?_, ?_, ?_, ?_⟩, hn.dec, H2, ?_⟩⟩
      · intro r hr
        rcases List.mem_append.1 hr with hr | hr
        · exact hL r hr
        · exact hn.ok r hr
      · have := hn.dec
        simp at this ⊢
        omega
      · simp [ex] at xl ⊢; omega
      · exact hly
      · simp [R.gx, R.gy, Part.row, p3]
    · simp [hdV_cons, p3]
      refine R.swap.next hi.py (fun h4 R => ?_)
      have R := R.swap
      cases ey : nxt Y with
      | nil =>
        exfalso
        have := nxt_pos ex
        rw [ex] at hxt
        rw [ey] at hyf
        simp [tos, frs, p3] at hxt hyf
        omega
      | cons q y' =>
        rw [ey] at R
        have hq := (mem_nxt hi.py ey).1
        have hqb := hq.bounds
        by_cases q2 : q.kind = 2
        · simp [hdV_cons, q2]
          refine R.swap.whole hq (by simp [ey] at yl; omega) (fun h5 R => ?_)
          have R := R.swap
          have e5 := R.o 5000 (by decide) (by decide) (by decide)
          have hc : cstep X Y = some ([pcut q (psz q)], p :: x', pleft q (psz q) :: y') := by simp [cstep, ex, ey, p3, q2]
          rw [pcut_whole hq] at hc
          have hn := cstep_next hi hc
          have hcm := cmp_some hi hc
          simp [hdV_cons, e5, g5]
          intro b1
          refine ⟨by omega, fun H2 => Ent.refl ⟨p :: x', pleft q (psz q) :: y', L ++ [q], ⟨hn.inv, by rw [← hcmp, hcm, List.append_assoc], ?_, ?_, ?_, ?_⟩, hn.dec, H2, ?_⟩⟩
          · intro r hr
            rcases List.mem_append.1 hr with hr | hr
            · exact hL r hr
            · exact hn.ok r hr
          · have := hn.dec
            simp at this ⊢
            omega
          · simp [ex] at xl ⊢; omega
          · simp [ey] at yl ⊢; omega
          · simp [R.gx, R.gy, Part.row, q2]
        · simp [hdV_cons, q2]
          refine R.next (by rw [← ex]; exact okx) (fun h5 R => ?_)
          rw [← ex, nxt_nxt, ex] at R
          rw [← ex, nxt_nxt, ex]
          simp [hdV_cons]
          refine ACall.pure (implSize_c p hp) (by simp [Part.row]) ?_
          simp
          refine R.swap.next (by rw [← ey]; exact oky) (fun h6 R => ?_)
          have R := R.swap
          rw [← ey, nxt_nxt, ey] at R
          rw [← ey, nxt_nxt, ey]
          simp [hdV_cons]
          refine ACall.pure (implSize_c q hq) (by simp [Part.row]) ?_
          simp
          rw [aMin_n]
          obtain ⟨n, hn⟩ : ∃ n, min (psz p) (psz q) = n := ⟨_, rfl⟩
          rw [hn]
          simp
          refine R.take hp (n := n) (by omega) (by simp [ex] at xl; omega) (fun h7 R => ?_)
          rw [hdV_cons]
          obtain ⟨pc, hpc⟩ : ∃ pc, pcut p n = pc := ⟨_, rfl⟩
          have pk : pc.kind = p.kind := by rw [← hpc]; simp
          rw [hpc]
          simp
          refine R.swap.take hq (n := n) (by omega) (by simp [ey] at yl; omega) (fun h8 R => ?_)
          have R := R.swap
          rw [hdV_cons]
          obtain ⟨qc, hqc⟩ : ∃ qc, pcut q n = qc := ⟨_, rfl⟩
          have qk : qc.kind = q.kind := by rw [← hqc]; simp
          rw [hqc]
          have e5 := R.o 5000 (by decide) (by decide) (by decide)
          have hc : cstep X Y = some (if q.kind = 1 then [pc] else if p.kind = 1 then [qc] else [], pleft p n :: x', pleft q n :: y') := by simp [cstep, ex, ey, p3, q2, hn, hpc, hqc]
          have hnx := cstep_next hi hc
          have hcm := cmp_some hi hc
          have hok := hnx.ok
          have hdec := hnx.dec
          have hlx2 : (pleft p n :: x').length ≤ 1000 := by simp [ex] at xl ⊢; omega
          have hly2 : (pleft q n :: y').length ≤ 1000 := by simp [ey] at yl ⊢; omega
          simp only at hcm hok hdec
          simp
          intro b1 b2
          by_cases q1 : q.kind = 1
          · simp only [q1, if_true] at hcm hok
            simp [qk, q1, pk, e5, g5]
            intro b3
            refine ⟨by omega, fun H2 => Ent.refl ⟨pleft p n :: x', pleft q n :: y', L ++ [pc], ⟨hnx.inv, by rw [← hcmp, hcm, List.append_assoc], ?_, ?_, hlx2, hly2⟩, hdec, H2, ?_⟩⟩
            · intro r hr
              rcases List.mem_append.1 hr with hr | hr
              · exact hL r hr
              · exact hok r hr
            · simp; omega
            · simp [R.gx, R.gy, Part.row, pk]
          · by_cases p1 : p.kind = 1
            · simp only [q1, p1, if_true, if_false] at hcm hok
              simp [qk, q1, pk, p1, e5, g5]
              intro b3
              refine ⟨by omega, fun H2 => Ent.refl ⟨pleft p n :: x', pleft q n :: y', L ++ [qc], ⟨hnx.inv, by rw [← hcmp, hcm, List.append_assoc], ?_, ?_, hlx2, hly2⟩, hdec, H2, ?_⟩⟩
              · intro r hr
                rcases List.mem_append.1 hr with hr | hr
                · exact hL r hr
                · exact hok r hr
              · simp; omega
              · simp [R.gx, R.gy, Part.row, qk]
            · simp only [q1, p1, if_false, List.nil_append] at hcm hok
              simp [qk, q1, pk, p1]
              refine Ent.refl ⟨pleft p n :: x', pleft q n :: y', L, ⟨hnx.inv, by rw [← hcmp, hcm], hL, by omega, hlx2, hly2⟩, hdec, H, ?_⟩
              simp [R.gx, R.gy, e5, g5]
end Go.Proofs.YtdfdabjdfmamgaaGreat

