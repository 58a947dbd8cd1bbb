import Derived.Test.YtljhopjmmcmioaaFOp
namespace Go.Proofs.Ytljhopjmmcmioaa
open Go.AM
set_option maxRecDepth 20000

def sumI (f : Part → Int) : List Part → Int
  | [] => 0
  | p :: o => f p + sumI f o
theorem sumI_append {f : Part → Int} : ∀ (a b : List Part), sumI f (a ++ b) = sumI f a + sumI f b
  | [], b => by simp [sumI]
  | p :: a, b => by simp only [List.cons_append, sumI, sumI_append a b]; omega
theorem sumI_suc {f : Part → Int} {o : List Part} {i : Nat} (h : i < o.length) : sumI f (o.take (i + 1)) = sumI f (o.take i) + f o[i] := by
  rw [← List.take_append_getElem h, sumI_append]; simp [sumI]
theorem sumI_end {f : Part → Int} {o : List Part} {i : Nat} (h : o.length ≤ i) : sumI f (o.take i) = sumI f o := by rw [List.take_of_length_le h]
theorem sumI_congr {f g : Part → Int} : ∀ {o : List Part}, (∀ p ∈ o, f p = g p) → sumI f o = sumI g o
  | [], _ => rfl
  | p :: o, h => by
    simp only [sumI]
    rw [h p (List.mem_cons_self ..), sumI_congr (fun q hq => h q (List.mem_cons_of_mem _ hq))]
theorem sumI_add {f g : Part → Int} : ∀ (o : List Part), sumI (fun p => f p + g p) o = sumI f o + sumI g o
  | [] => by simp [sumI]
  | p :: o => by simp only [sumI, sumI_add o]; omega

def fK (p : Part) : Int := if p.kind = 1 then p.n else 0
def fP (p : Part) : Int := if p.kind = 2 then p.signs.length else 0
def fD (p : Part) : Int := if p.kind = 1 then 0 else if p.kind = 2 then 0 else p.n
def fBut (k : Int) (p : Part) : Int := if p.kind = k then 0 else p.n + p.signs.length
def fOf (k : Int) (p : Part) : Int := if p.kind = k then p.n + p.signs.length else 0

theorem partOk.bounds {p : Part} (h : partOk p) : (p.kind = 1 ∨ p.kind = 2 ∨ p.kind = 3) ∧ 0 ≤ p.n ∧ p.n ≤ 200 ∧ p.signs.length ≤ 200 ∧ (p.kind = 2 → p.n = 0) ∧ (p.kind ≠ 2 → p.signs = []) := by
  rcases h with ⟨h1, h2, h3⟩ | ⟨h1, h2, h3, h4⟩
  · refine ⟨by omega, by omega, by omega, by simp [h3], by omega, fun _ => h3⟩
  · refine ⟨by omega, by omega, by omega, h3, fun _ => h2, fun h => absurd h1 h⟩

theorem but2 {p : Part} (h : partOk p) : fBut 2 p = fK p + fD p := by
  obtain ⟨h1, h2, h3, h4, h5, h6⟩ := h.bounds
  unfold fBut fK fD
  by_cases k2 : p.kind = 2
  · simp [k2]
  · by_cases k1 : p.kind = 1 <;> simp [k1, k2, h6 k2]
theorem but3 {p : Part} (h : partOk p) : fBut 3 p = fK p + fP p := by
  obtain ⟨h1, h2, h3, h4, h5, h6⟩ := h.bounds
  unfold fBut fK fP
  rcases h1 with k | k | k
  · simp [k, h6 (by omega)]
  · simp [k, h5 k]
  · simp [k]
theorem of2 {p : Part} (h : partOk p) : fOf 2 p = fP p := by
  obtain ⟨h1, h2, h3, h4, h5, h6⟩ := h.bounds
  unfold fOf fP
  by_cases k : p.kind = 2
  · simp [k, h5 k]
  · simp [k]
theorem of3 {p : Part} (h : partOk p) : fOf 3 p = fD p := by
  obtain ⟨h1, h2, h3, h4, h5, h6⟩ := h.bounds
  unfold fOf fD
  rcases h1 with k | k | k
  · simp [k]
  · simp [k]
  · simp [k, h6 (by omega)]

theorem sumI_bound {f : Part → Int} {B : Int} (hf : ∀ p, partOk p → 0 ≤ f p ∧ f p ≤ B) : ∀ {o : List Part}, (∀ p ∈ o, partOk p) → 0 ≤ sumI f o ∧ sumI f o ≤ B * o.length
  | [], _ => by simp [sumI]
  | p :: o, h => by
    have h1 := hf p (h p (List.mem_cons_self ..))
    have h2 := sumI_bound hf (o := o) (fun q hq => h q (List.mem_cons_of_mem _ hq))
    simp only [sumI, List.length_cons]
    rw [show B * ((o.length + 1 : Nat) : Int) = B * o.length + B by rw [Int.natCast_add]; simp [Int.mul_add]]
    omega
theorem fK_b {p : Part} (h : partOk p) : 0 ≤ fK p ∧ fK p ≤ 200 := by have := h.bounds; unfold fK; split <;> omega
theorem fP_b {p : Part} (h : partOk p) : 0 ≤ fP p ∧ fP p ≤ 200 := by have := h.bounds; unfold fP; split <;> omega
theorem fD_b {p : Part} (h : partOk p) : 0 ≤ fD p ∧ fD p ≤ 200 := by have := h.bounds; unfold fD; split <;> (try split) <;> omega
theorem fBut_b {k : Int} {p : Part} (h : partOk p) : 0 ≤ fBut k p ∧ fBut k p ≤ 400 := by have := h.bounds; unfold fBut; split <;> omega
theorem fOf_b {k : Int} {p : Part} (h : partOk p) : 0 ≤ fOf k p ∧ fOf k p ≤ 400 := by have := h.bounds; unfold fOf; split <;> omega

theorem take_ok {o : List Part} (h : ∀ p ∈ o, partOk p) (i : Nat) : ∀ p ∈ o.take i, partOk p := fun p hp => h p (List.mem_of_mem_take hp)

theorem size_c (p : Part) (hp : partOk p) : PureC Try.prog 155 [.agg p.row] (.one (.c (vi (p.n + p.signs.length)) 1)) := by
  refine PureC.intro' tt_ok Try.func155 (by kernel_rfl) rfl rfl rfl (Nat.le_of_ble_eq_true rfl) (fun w0 base => ?_)
  have := hp.bounds
  have e : Go.IntKind.i64.wrap (p.n + (p.signs.length : Int)) = p.n + p.signs.length := Go.IntWalk.i64_in _ (by omega)
  simp [Part.row, e]

open Classical in
noncomputable def sizeOf (o : List Part) (k : Int) : Int := if partsOk o then sumI (fBut k) o else 0

theorem implSizeOf_c (o : List Part) (hl : nL nPart o ≤ 2 ^ 40) (k : Int) : PureC Try.prog 141 [.c (.s (o.map Part.row)), .c (vi k)] (.one (.c (vi (sizeOf o k)) 1)) := by
  refine PureC.intro' tt_ok Try.func141 (by kernel_rfl) rfl rfl rfl (Nat.le_of_ble_eq_true rfl) (fun w0 base => ?_)
  have hle := nL_len hl
  simp
  refine ACall.pure (implPartsOk_c o hl) (by simp) ?_
  by_cases ho : partsOk o
  · have hr : sizeOf o k = sumI (fBut k) o := by unfold sizeOf; rw [if_pos ho]
    simp [ho, hr]
    refine LoopT.intro eok (fun i : Nat => i ≤ o.length) (fun i => ⟨27, 0, [(13, .v (.int .i64 i)), (12, .v (.int .i64 o.length)), (11, .ro (o.map Part.row)), (5, .v (.int .i64 (sumI (fBut k) (o.take i)))), (1, .v (.int .i64 k))], []⟩) (fun i => o.length - i) 0 (by simp) (by simp [sumI]) (fun i hi => ?_)
    by_cases h : i < o.length
    · have hp := ho.1 _ (List.getElem_mem h)
      have hb := sumI_bound (f := fBut k) (fun p h => fBut_b h) (take_ok ho.1 i)
      have hb2 := hp.bounds
      have hlen := ho.2
      have hlt : (o.take i).length ≤ 600 := by simp; omega
      have hs := sumI_suc (f := fBut k) h
      obtain ⟨q, hq⟩ : ∃ q, sumI (fBut k) (o.take i) = q := ⟨_, rfl⟩
      have e : Go.IntKind.i64.wrap ((i : Int) + 1) = ((i + 1 : Nat) : Int) := i64_suc (by omega)
      rw [hq] at hs hb
      simp [h, Part.row, hq]
      intros
      by_cases hk : o[i].kind = k
      · simp [hk]
        refine ⟨i + 1, by omega, by omega, e, ?_⟩
        rw [hs]; simp [fBut, hk]
      · simp [hk]
        refine ACall.pure (size_c o[i] hp) (by simp [Part.row]) ?_
        have e2 : Go.IntKind.i64.wrap (q + (o[i].n + (o[i].signs.length : Int))) = q + (o[i].n + o[i].signs.length) := Go.IntWalk.i64_in _ (by omega)
        simp [e2]
        refine ⟨i + 1, by omega, by omega, e, ?_⟩
        rw [hs]; simp [fBut, hk]
    · simp [h]
      rw [List.take_of_length_le (by omega)]
  · have e : dc (partsOk o) = false := by rw [dc_no]; exact ho
    have hr : sizeOf o k = 0 := by unfold sizeOf; rw [if_neg ho]
    simp [e, hr]

open Classical in
noncomputable def l02Sum (o : List Part) : Int × Int × Int := if partsOk o then (sumI fK o, sumI fP o, sumI fD o) else (0, 0, 0)

theorem l02Sum_c (o : List Part) (hl : nL nPart o ≤ 2 ^ 40) : PureC Try.prog 132 [.c (.s (o.map Part.row))] (.tup [.c (vi (l02Sum o).1) 1, .c (vi (l02Sum o).2.1) 1, .c (vi (l02Sum o).2.2) 1]) := by
  refine PureC.intro' tt_ok Try.func132 (by kernel_rfl) rfl rfl rfl (Nat.le_of_ble_eq_true rfl) (fun w0 base => ?_)
  have hle := nL_len hl
  simp
  refine ACall.pure (specPartsOk_c o hl) (by simp) ?_
  by_cases ho : partsOk o
  · have hr : l02Sum o = (sumI fK o, sumI fP o, sumI fD o) := by unfold l02Sum; rw [if_pos ho]
    simp [ho, hr]
    refine LoopT.intro eok (fun i : Nat => i ≤ o.length) (fun i => ⟨42, 0, [(15, .v (.int .i64 i)), (14, .v (.int .i64 o.length)), (13, .ro (o.map Part.row)), (5, .v (.int .i64 (sumI fK (o.take i)))), (6, .v (.int .i64 (sumI fP (o.take i)))), (7, .v (.int .i64 (sumI fD (o.take i))))], []⟩) (fun i => o.length - i) 0 (by simp) (by simp [sumI]) (fun i hi => ?_)
    by_cases h : i < o.length
    · have hp := ho.1 _ (List.getElem_mem h)
      have hb1 := sumI_bound (f := fK) (fun p h => fK_b h) (take_ok ho.1 i)
      have hb2 := sumI_bound (f := fP) (fun p h => fP_b h) (take_ok ho.1 i)
      have hb3 := sumI_bound (f := fD) (fun p h => fD_b h) (take_ok ho.1 i)
      have hpb := hp.bounds
      have hlen := ho.2
      have hlt : (o.take i).length ≤ 600 := by simp; omega
      have hs1 := sumI_suc (f := fK) h
      have hs2 := sumI_suc (f := fP) h
      have hs3 := sumI_suc (f := fD) h
      obtain ⟨q1, hq1⟩ : ∃ q, sumI fK (o.take i) = q := ⟨_, rfl⟩
      obtain ⟨q2, hq2⟩ : ∃ q, sumI fP (o.take i) = q := ⟨_, rfl⟩
      obtain ⟨q3, hq3⟩ : ∃ q, sumI fD (o.take i) = q := ⟨_, rfl⟩
      have e : Go.IntKind.i64.wrap ((i : Int) + 1) = ((i + 1 : Nat) : Int) := i64_suc (by omega)
      rw [hq1] at hs1 hb1
      rw [hq2] at hs2 hb2
      rw [hq3] at hs3 hb3
      simp [h, Part.row, hq1, hq2, hq3]
      intros
      have e1 : Go.IntKind.i64.wrap (q1 + o[i].n) = q1 + o[i].n := Go.IntWalk.i64_in _ (by omega)
      have e2 : Go.IntKind.i64.wrap (q2 + (o[i].signs.length : Int)) = q2 + o[i].signs.length := Go.IntWalk.i64_in _ (by omega)
      have e3 : Go.IntKind.i64.wrap (q3 + o[i].n) = q3 + o[i].n := Go.IntWalk.i64_in _ (by omega)
      by_cases k1 : o[i].kind = 1
      · simp [k1, e1]
        refine ⟨i + 1, by omega, by omega, e, ?_, ?_, ?_⟩
        · rw [hs1]; simp [fK, k1]
        · rw [hs2]; simp [fP, k1]
        · rw [hs3]; simp [fD, k1]
      · by_cases k2 : o[i].kind = 2
        · simp [k2, e2]
          refine ⟨i + 1, by omega, by omega, e, ?_, ?_, ?_⟩
          · rw [hs1]; simp [fK, k2]
          · rw [hs2]; simp [fP, k2]
          · rw [hs3]; simp [fD, k2]
        · simp [k1, k2, e3]
          refine ⟨i + 1, by omega, by omega, e, ?_, ?_, ?_⟩
          · rw [hs1]; simp [fK, k1]
          · rw [hs2]; simp [fP, k2]
          · rw [hs3]; simp [fD, k1, k2]
    · simp [h]
      rw [List.take_of_length_le (by omega)]
      simp
  · have e : dc (partsOk o) = false := by rw [dc_no]; exact ho
    have hr : l02Sum o = (0, 0, 0) := by unfold l02Sum; rw [if_neg ho]
    simp [e, hr]

noncomputable def opFrom (o : List Part) : Int := (l02Sum o).1 + (l02Sum o).2.2
noncomputable def opTo (o : List Part) : Int := (l02Sum o).1 + (l02Sum o).2.1
theorem opFrom_size (o : List Part) : sizeOf o 2 = opFrom o := by
  unfold sizeOf opFrom l02Sum
  split
  · rename_i h
    show _ = sumI fK o + sumI fD o
    rw [← sumI_add]
    exact sumI_congr (fun p hp => but2 (h.1 p hp))
  · rfl
theorem opTo_size (o : List Part) : sizeOf o 3 = opTo o := by
  unfold sizeOf opTo l02Sum
  split
  · rename_i h
    show _ = sumI fK o + sumI fP o
    rw [← sumI_add]
    exact sumI_congr (fun p hp => but3 (h.1 p hp))
  · rfl
theorem l02Sum_b (o : List Part) : (0 ≤ (l02Sum o).1 ∧ (l02Sum o).1 ≤ 120000) ∧ (0 ≤ (l02Sum o).2.1 ∧ (l02Sum o).2.1 ≤ 120000) ∧ 0 ≤ (l02Sum o).2.2 ∧ (l02Sum o).2.2 ≤ 120000 := by
  unfold l02Sum
  split
  · rename_i h
    have h1 := sumI_bound (f := fK) (fun p h => fK_b h) h.1
    have h2 := sumI_bound (f := fP) (fun p h => fP_b h) h.1
    have h3 := sumI_bound (f := fD) (fun p h => fD_b h) h.1
    have h4 := h.2
    simp only
    omega
  · simp

theorem implOpFrom_c (o : List Part) (hl : nL nPart o ≤ 2 ^ 40) : PureC Try.prog 135 [.c (.s (o.map Part.row))] (.one (.c (vi (opFrom o)) 1)) := by
  refine PureC.intro' tt_ok Try.func135 (by kernel_rfl) rfl rfl rfl (Nat.le_of_ble_eq_true rfl) (fun w0 base => ?_)
  simp
  refine ACall.pure (implSizeOf_c o hl 2) (by simp) ?_
  simp [opFrom_size]
theorem implOpTo_c (o : List Part) (hl : nL nPart o ≤ 2 ^ 40) : PureC Try.prog 70 [.c (.s (o.map Part.row))] (.one (.c (vi (opTo o)) 1)) := by
  refine PureC.intro' tt_ok Try.func70 (by kernel_rfl) rfl rfl rfl (Nat.le_of_ble_eq_true rfl) (fun w0 base => ?_)
  simp
  refine ACall.pure (implSizeOf_c o hl 3) (by simp) ?_
  simp [opTo_size]
theorem specOpFrom_c (o : List Part) (hl : nL nPart o ≤ 2 ^ 40) : PureC Try.prog 92 [.c (.s (o.map Part.row))] (.one (.c (vi (opFrom o)) 1)) := by
  refine PureC.intro' tt_ok Try.func92 (by kernel_rfl) rfl rfl rfl (Nat.le_of_ble_eq_true rfl) (fun w0 base => ?_)
  simp
  refine ACall.pure (l02Sum_c o hl) (by simp) ?_
  have := l02Sum_b o
  have e : Go.IntKind.i64.wrap ((l02Sum o).1 + (l02Sum o).2.2) = opFrom o := Go.IntWalk.i64_in _ (by omega)
  simp [e]
theorem specOpTo_c (o : List Part) (hl : nL nPart o ≤ 2 ^ 40) : PureC Try.prog 64 [.c (.s (o.map Part.row))] (.one (.c (vi (opTo o)) 1)) := by
  refine PureC.intro' tt_ok Try.func64 (by kernel_rfl) rfl rfl rfl (Nat.le_of_ble_eq_true rfl) (fun w0 base => ?_)
  simp
  refine ACall.pure (l02Sum_c o hl) (by simp) ?_
  have := l02Sum_b o
  have e : Go.IntKind.i64.wrap ((l02Sum o).1 + (l02Sum o).2.1) = opTo o := Go.IntWalk.i64_in _ (by omega)
  simp [e]

def opOk (o : List Part) : Prop := partsOk o ∧ opFrom o ≤ 200 ∧ opTo o ≤ 200

theorem implOpOk_c (o : List Part) (hl : nL nPart o ≤ 2 ^ 40) : PureC Try.prog 136 [.c (.s (o.map Part.row))] (.one (.c (vb (opOk o)) 1)) := by
  refine PureC.intro' tt_ok Try.func136 (by kernel_rfl) rfl rfl rfl (Nat.le_of_ble_eq_true rfl) (fun w0 base => ?_)
  simp
  refine ACall.pure (implPartsOk_c o hl) (by simp) ?_
  by_cases h : partsOk o
  · simp [h]
    refine ACall.pure (implOpFrom_c o hl) (by simp) ?_
    by_cases h1 : opFrom o ≤ 200
    · simp [h1]
      refine ACall.pure (implOpTo_c o hl) (by simp) ?_
      simp [opOk, h, h1]
    · simp [h1, opOk, h]
  · simp [h, opOk]
theorem specOpOk_c (o : List Part) (hl : nL nPart o ≤ 2 ^ 40) : PureC Try.prog 129 [.c (.s (o.map Part.row))] (.one (.c (vb (opOk o)) 1)) := by
  refine PureC.intro' tt_ok Try.func129 (by kernel_rfl) rfl rfl rfl (Nat.le_of_ble_eq_true rfl) (fun w0 base => ?_)
  simp
  refine ACall.pure (specPartsOk_c o hl) (by simp) ?_
  by_cases h : partsOk o
  · simp [h]
    refine ACall.pure (specOpFrom_c o hl) (by simp) ?_
    by_cases h1 : opFrom o ≤ 200
    · simp [h1]
      refine ACall.pure (specOpTo_c o hl) (by simp) ?_
      simp [opOk, h, h1]
    · simp [h1, opOk, h]
  · simp [h, opOk]
end Go.Proofs.Ytljhopjmmcmioaa
