import Derived.Test.YtljhopjmmcmioaaFNorm2
import Derived.Test.YtljhopjmmcmioaaFSame
namespace Go.Proofs.Ytljhopjmmcmioaa
open Go.AM
set_option maxRecDepth 20000

theorem sumN_append {α : Type} {f : α → Nat} : ∀ (a b : List α), sumN f (a ++ b) = sumN f a + sumN f b
  | [], b => by simp [sumN]
  | x :: a, b => by simp only [List.cons_append, sumN, sumN_append a b]; omega
theorem sumN_set {α : Type} {f : α → Nat} : ∀ (l : List α) (i : Nat) (h : i < l.length) (x : α), f x = f l[i] → sumN f (l.set i x) = sumN f l
  | a :: l, 0, _, x, hx => by simp at hx; simp [sumN, hx]
  | a :: l, i + 1, h, x, hx => by
    simp only [List.set_cons_succ, sumN]
    rw [sumN_set l i (by simpa using h) x (by simpa using hx)]
theorem nbFlush_sum {L : List Part} {P : List Int} {D : Int} : sumN nPart (nbFlush L P D) = sumN nPart L + P.length := by
  unfold nbFlush
  rw [sumN_append, sumN_append]
  by_cases hp : P = [] <;> by_cases hd : 0 < D <;> simp [hp, hd, sumN, nPart]
theorem nbKeep_sum {L : List Part} {n : Int} : sumN nPart (nbKeep L n) = sumN nPart L := by
  unfold nbKeep
  split
  · rename_i h
    split
    · exact sumN_set L _ (by omega) _ rfl
    · rw [sumN_append]; simp [sumN, nPart]
  · rename_i h
    have : L = [] := List.eq_nil_of_length_eq_zero (by omega)
    subst this
    simp [sumN, nPart]
theorem nbRun_sum {o : List Part} : ∀ (i : Nat), i ≤ o.length → sumN nPart (nbRun (o.take i)).1 + (nbRun (o.take i)).2.1.length ≤ sumN nPart (o.take i)
  | 0, _ => by simp [nbRun, sumN]
  | i + 1, hi => by
    have ih := nbRun_sum (o := o) i (by omega)
    have hlt : i < o.length := by omega
    rw [nbRun_suc hlt, ← List.take_append_getElem hlt, sumN_append]
    generalize nbRun (o.take i) = s at ih
    generalize o[i] = p
    obtain ⟨L, P, D⟩ := s
    simp only at ih
    have hp : sumN nPart [p] = p.signs.length := by simp [sumN, nPart]
    rw [hp]
    unfold nbStep
    split
    · simp; omega
    · split
      · simp; omega
      · split
        · simp only [nbKeep_sum, nbFlush_sum]; simp; omega
        · simp; omega
theorem normal_sum (o : List Part) : sumN nPart (normal o) ≤ sumN nPart o := by
  have h := nbRun_sum (o := o) o.length (by omega)
  rw [List.take_length] at h
  unfold normal
  rw [nbFlush_sum]
  exact h
theorem normal_len {o : List Part} (ho : ∀ p ∈ o, partOk p) : (normal o).length ≤ 3 * o.length + 2 := by
  have h := (nbRun_ok ho o.length (by omega)).l
  rw [List.take_length] at h
  have := nbFlush_len (nbRun o).1 (nbRun o).2.1 (nbRun o).2.2
  unfold normal
  omega
theorem sumN_parts {o : List Part} (ho : ∀ p ∈ o, partOk p) : sumN nPart o ≤ 200 * o.length := by
  induction o with
  | nil => simp [sumN]
  | cons p o ih =>
    have h1 := (ho p (List.mem_cons_self ..)).bounds
    have h2 := ih (fun q hq => ho q (List.mem_cons_of_mem _ hq))
    simp only [sumN, nPart, List.length_cons]
    omega
theorem nL_parts {o : List Part} (ho : ∀ p ∈ o, partOk p) : nL nPart o ≤ 201 * o.length := by
  have := sumN_parts ho
  unfold nL; omega
theorem nL_normal {o : List Part} (ho : ∀ p ∈ o, partOk p) : nL nPart (normal o) ≤ 203 * o.length + 2 := by
  have h1 := normal_sum o
  have h2 := normal_len ho
  have h3 := sumN_parts ho
  unfold nL; omega
theorem opNorm_n (o : List Part) : nL nPart (opNorm o) ≤ 2 ^ 20 := by
  unfold opNorm
  split
  · rename_i h
    have := nL_normal h.1.1
    have := h.1.2
    omega
  · simp [nL, sumN]

def isNorm (o : List Part) : Prop := opOk o ∧ opNorm o = o
theorem implIsNorm_c (o : List Part) (hl : nL nPart o ≤ 2 ^ 40) : PureC Try.prog 134 [.c (.s (o.map Part.row))] (.one (.c (vb (isNorm o)) 1)) := by
  refine PureC.intro' tt_ok Try.func134 (by kernel_rfl) rfl rfl rfl (Nat.le_of_ble_eq_true rfl) (fun w0 base => ?_)
  simp
  refine ACall.pure (implOpOk_c o hl) (by simp) ?_
  by_cases h : opOk o
  · simp [h]
    refine ACall.pure (implOpNorm_c o hl) (by simp) ?_
    simp
    intro H
    refine ACall.pure (implOpSame_c o (opNorm o) hl) (by simp) ?_
    simp [isNorm, h]
    exact dc_congr ⟨fun h => h.symm, fun h => h.symm⟩
  · simp [h, isNorm]
theorem specIsNorm_c (o : List Part) (hl : nL nPart o ≤ 2 ^ 40) : PureC Try.prog 128 [.c (.s (o.map Part.row))] (.one (.c (vb (isNorm o)) 1)) := by
  refine PureC.intro' tt_ok Try.func128 (by kernel_rfl) rfl rfl rfl (Nat.le_of_ble_eq_true rfl) (fun w0 base => ?_)
  simp
  refine ACall.pure (specOpOk_c o hl) (by simp) ?_
  by_cases h : opOk o
  · simp [h]
    refine ACall.pure (specOpNorm_c o hl) (by simp) ?_
    simp
    intro H
    refine ACall.pure (specOpSame_c' (opNorm o) o (Nat.le_trans (opNorm_n o) (by decide))) (by simp) ?_
    simp [isNorm, h]
  · simp [h, isNorm]

open Classical in
noncomputable def puts (o : List Part) : Int := if opOk o then sumI fP o else 0
open Classical in
noncomputable def drops (o : List Part) : Int := if opOk o then sumI fD o else 0
open Classical in
noncomputable def sizeOfKind (o : List Part) (k : Int) : Int := if opOk o then sumI (fOf k) o else 0
theorem puts_size (o : List Part) : sizeOfKind o 2 = puts o := by
  unfold sizeOfKind puts
  split
  · rename_i h; exact sumI_congr (fun p hp => of2 (h.1.1 p hp))
  · rfl
theorem drops_size (o : List Part) : sizeOfKind o 3 = drops o := by
  unfold sizeOfKind drops
  split
  · rename_i h; exact sumI_congr (fun p hp => of3 (h.1.1 p hp))
  · rfl

theorem implSizeOfKind_c (o : List Part) (hl : nL nPart o ≤ 2 ^ 40) (k : Int) : PureC Try.prog 186 [.c (.s (o.map Part.row)), .c (vi k)] (.one (.c (vi (sizeOfKind o k)) 1)) := by
  refine PureC.intro' tt_ok Try.func186 (by kernel_rfl) rfl rfl rfl (Nat.le_of_ble_eq_true rfl) (fun w0 base => ?_)
  have hle := nL_len hl
  simp
  refine ACall.pure (implOpOk_c o hl) (by simp) ?_
  by_cases hok : opOk o
  · have ho := hok.1
    have hr : sizeOfKind o k = sumI (fOf k) o := by unfold sizeOfKind; rw [if_pos hok]
    simp [hok, hr]
    refine LoopT.intro eok (fun i : Nat => i ≤ o.length) (fun i => ⟨27, 0, [(13, .v (.int .i64 i)), (12, .v (.int .i64 o.length)), (11, .ro (o.map Part.row)), (5, .v (.int .i64 (sumI (fOf k) (o.take i)))), (1, .v (.int .i64 k))], []⟩) (fun i => o.length - i) 0 (by simp) (by simp [sumI]) (fun i hi => ?_)
    by_cases h : i < o.length
    · have hp := ho.1 _ (List.getElem_mem h)
      have hb := sumI_bound (f := fOf k) (fun p h => fOf_b h) (take_ok ho.1 i)
      have hb2 := hp.bounds
      have hlen := ho.2
      have hlt : (o.take i).length ≤ 600 := by simp; omega
      have hs := sumI_suc (f := fOf k) h
      obtain ⟨q, hq⟩ : ∃ q, sumI (fOf k) (o.take i) = q := ⟨_, rfl⟩
      have e : Go.IntKind.i64.wrap ((i : Int) + 1) = ((i + 1 : Nat) : Int) := i64_suc (by omega)
      rw [hq] at hs hb
      simp [h, Part.row, hq]
      intros
      by_cases hk : o[i].kind = k
      · simp [hk]
        refine ACall.pure (size_c o[i] hp) (by simp [Part.row, hk]) ?_
        have e2 : Go.IntKind.i64.wrap (q + (o[i].n + (o[i].signs.length : Int))) = q + (o[i].n + o[i].signs.length) := Go.IntWalk.i64_in _ (by omega)
        simp [e2]
        refine ⟨i + 1, by omega, by omega, e, ?_⟩
        rw [hs]; simp [fOf, hk]
      · simp [hk]
        refine ⟨i + 1, by omega, by omega, e, ?_⟩
        rw [hs]; simp [fOf, hk]
    · simp [h]
      rw [List.take_of_length_le (by omega)]
  · have e : dc (opOk o) = false := by rw [dc_no]; exact hok
    have hr : sizeOfKind o k = 0 := by unfold sizeOfKind; rw [if_neg hok]
    simp [e, hr]
theorem implPuts_c (o : List Part) (hl : nL nPart o ≤ 2 ^ 40) : PureC Try.prog 137 [.c (.s (o.map Part.row))] (.one (.c (vi (puts o)) 1)) := by
  refine PureC.intro' tt_ok Try.func137 (by kernel_rfl) rfl rfl rfl (Nat.le_of_ble_eq_true rfl) (fun w0 base => ?_)
  simp
  refine ACall.pure (implSizeOfKind_c o hl 2) (by simp) ?_
  simp [puts_size]
theorem implDrops_c (o : List Part) (hl : nL nPart o ≤ 2 ^ 40) : PureC Try.prog 138 [.c (.s (o.map Part.row))] (.one (.c (vi (drops o)) 1)) := by
  refine PureC.intro' tt_ok Try.func138 (by kernel_rfl) rfl rfl rfl (Nat.le_of_ble_eq_true rfl) (fun w0 base => ?_)
  simp
  refine ACall.pure (implSizeOfKind_c o hl 3) (by simp) ?_
  simp [drops_size]
theorem specPuts_c (o : List Part) (hl : nL nPart o ≤ 2 ^ 40) : PureC Try.prog 130 [.c (.s (o.map Part.row))] (.one (.c (vi (puts o)) 1)) := by
  refine PureC.intro' tt_ok Try.func130 (by kernel_rfl) rfl rfl rfl (Nat.le_of_ble_eq_true rfl) (fun w0 base => ?_)
  simp
  refine ACall.pure (specOpOk_c o hl) (by simp) ?_
  by_cases h : opOk o
  · simp [h]
    refine ACall.pure (l02Sum_c o hl) (by simp) ?_
    simp [puts, h, l02Sum, h.1]
  · have e : dc (opOk o) = false := by rw [dc_no]; exact h
    simp [puts, h]
theorem specDrops_c (o : List Part) (hl : nL nPart o ≤ 2 ^ 40) : PureC Try.prog 131 [.c (.s (o.map Part.row))] (.one (.c (vi (drops o)) 1)) := by
  refine PureC.intro' tt_ok Try.func131 (by kernel_rfl) rfl rfl rfl (Nat.le_of_ble_eq_true rfl) (fun w0 base => ?_)
  simp
  refine ACall.pure (specOpOk_c o hl) (by simp) ?_
  by_cases h : opOk o
  · simp [h]
    refine ACall.pure (l02Sum_c o hl) (by simp) ?_
    simp [drops, h, l02Sum, h.1]
  · have e : dc (opOk o) = false := by rw [dc_no]; exact h
    simp [drops, h]

def idle (o : List Part) : Prop := opOk o ∧ puts o = 0 ∧ drops o = 0
theorem implIdle_c (o : List Part) (hl : nL nPart o ≤ 2 ^ 40) : PureC Try.prog 67 [.c (.s (o.map Part.row))] (.one (.c (vb (idle o)) 1)) := by
  refine PureC.intro' tt_ok Try.func67 (by kernel_rfl) rfl rfl rfl (Nat.le_of_ble_eq_true rfl) (fun w0 base => ?_)
  simp
  refine ACall.pure (implOpOk_c o hl) (by simp) ?_
  by_cases h : opOk o
  · simp [h]
    refine ACall.pure (implPuts_c o hl) (by simp) ?_
    by_cases h1 : puts o = 0
    · simp [h1]
      refine ACall.pure (implDrops_c o hl) (by simp) ?_
      simp [idle, h, h1]
    · simp [h1, idle]
  · simp [h, idle]
theorem specIdle_c (o : List Part) (hl : nL nPart o ≤ 2 ^ 40) : PureC Try.prog 60 [.c (.s (o.map Part.row))] (.one (.c (vb (idle o)) 1)) := by
  refine PureC.intro' tt_ok Try.func60 (by kernel_rfl) rfl rfl rfl (Nat.le_of_ble_eq_true rfl) (fun w0 base => ?_)
  simp
  refine ACall.pure (specOpOk_c o hl) (by simp) ?_
  by_cases h : opOk o
  · simp [h]
    refine ACall.pure (specPuts_c o hl) (by simp) ?_
    by_cases h1 : puts o = 0
    · simp [h1]
      refine ACall.pure (specDrops_c o hl) (by simp) ?_
      simp [idle, h, h1]
    · simp [h1, idle]
  · simp [h, idle]

def textOk (t : List Int) : Prop := t.length ≤ 200 ∧ signsOk t
theorem implTextOk_c (t : List Int) (hl : t.length ≤ 2 ^ 40) : PureC Try.prog 133 [.c (.s (t.map intR))] (.one (.c (vb (textOk t)) 1)) := by
  refine PureC.intro' tt_ok Try.func133 (by kernel_rfl) rfl rfl rfl (Nat.le_of_ble_eq_true rfl) (fun w0 base => ?_)
  by_cases h : t.length ≤ 200
  · have h' : (t.length : Int) ≤ 200 := by omega
    simp [h']
    refine ACall.pure (implSignsOk_c t hl) (by simp) ?_
    simp [textOk, h]
  · have h' : ¬ (t.length : Int) ≤ 200 := by omega
    simp [h', textOk, h]
theorem specTextOk_c (t : List Int) (hl : t.length ≤ 2 ^ 40) : PureC Try.prog 127 [.c (.s (t.map intR))] (.one (.c (vb (textOk t)) 1)) := by
  refine PureC.intro' tt_ok Try.func127 (by kernel_rfl) rfl rfl rfl (Nat.le_of_ble_eq_true rfl) (fun w0 base => ?_)
  simp
  refine ACall.pure (specSignsOk_c t hl) (by simp) ?_
  have e : ((t.length : Int) ≤ 200) = (t.length ≤ 200) := by simp; omega
  by_cases hg : signsOk t
  · simp [hg, textOk, e]
  · simp [hg, textOk]

open Classical in
noncomputable def keeping (n : Int) : List Part := if 1 ≤ n ∧ n ≤ 200 then [⟨1, n, []⟩] else []
theorem implKeeping_c (n : Int) : PureC Try.prog 69 [.c (vi n)] (.one (.c (.s ((keeping n).map Part.row)) 3)) := by
  refine PureC.intro' tt_ok Try.func69 (by kernel_rfl) rfl rfl rfl (Nat.le_of_ble_eq_true rfl) (fun w0 base => ?_)
  simp
  refine ACall.pure (within_c n 1 200) (by simp) ?_
  by_cases h : 1 ≤ n ∧ n ≤ 200
  · simp [h, keeping, Part.row]
  · have e : dc (1 ≤ n ∧ n ≤ 200) = false := by rw [dc_no]; exact h
    have k : keeping n = [] := by unfold keeping; rw [if_neg h]
    simp [e, k]
theorem specKeeping_c (n : Int) : PureC Try.prog 63 [.c (vi n)] (.one (.c (.s ((keeping n).map Part.row)) 3)) := by
  refine PureC.intro' tt_ok Try.func63 (by kernel_rfl) rfl rfl rfl (Nat.le_of_ble_eq_true rfl) (fun w0 base => ?_)
  simp
  refine ACall.pure (l01In_c n 1 200) (by simp) ?_
  by_cases h : 1 ≤ n ∧ n ≤ 200
  · simp [h, keeping, Part.row]
  · have e : dc (1 ≤ n ∧ n ≤ 200) = false := by rw [dc_no]; exact h
    have k : keeping n = [] := by unfold keeping; rw [if_neg h]
    simp [e, k]
end Go.Proofs.Ytljhopjmmcmioaa
