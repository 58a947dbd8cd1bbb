import Derived.Test.YtljhopjmmcmioaaNA
import Derived.Test.YtljhopjmmcmioaaMF
namespace Go.Proofs.Ytljhopjmmcmioaa
open Go.AM
set_option maxRecDepth 20000

theorem within_c (n lo hi : Int) : PureC Try.prog 104 [.c (vi n), .c (vi lo), .c (vi hi)] (.one (.c (vb (lo ≤ n ∧ n ≤ hi)) 1)) := by
  refine PureC.intro' tt_ok Try.func104 (by kernel_rfl) rfl rfl rfl (Nat.le_of_ble_eq_true rfl) (fun w0 base => ?_)
  by_cases h1 : lo ≤ n <;> by_cases h2 : n ≤ hi <;> simp [h1, h2]

theorem l01In_c (n lo hi : Int) : PureC Try.prog 101 [.c (vi n), .c (vi lo), .c (vi hi)] (.one (.c (vb (lo ≤ n ∧ n ≤ hi)) 1)) := by
  refine PureC.intro' tt_ok Try.func101 (by kernel_rfl) rfl rfl rfl (Nat.le_of_ble_eq_true rfl) (fun w0 base => ?_)
  by_cases h1 : lo ≤ n <;> by_cases h2 : n ≤ hi <;> simp [h1, h2]

def signOk (n : Int) : Prop := (0 ≤ n ∧ n ≤ 1114111) ∧ ¬ (55296 ≤ n ∧ n ≤ 57343)
def signsOk (l : List Int) : Prop := ∀ n ∈ l, signOk n

theorem implSignOk_c (n : Int) : PureC Try.prog 202 [.c (vi n)] (.one (.c (vb (signOk n)) 1)) := by
  refine PureC.intro' tt_ok Try.func202 (by kernel_rfl) rfl rfl rfl (Nat.le_of_ble_eq_true rfl) (fun w0 base => ?_)
  simp
  refine ACall.pure (within_c n 0 1114111) (by simp) ?_
  by_cases h : 0 ≤ n ∧ n ≤ 1114111
  · simp [h]
    refine ACall.pure (within_c n 55296 57343) (by simp) ?_
    by_cases h2 : 55296 ≤ n ∧ n ≤ 57343 <;> simp [h2, signOk, h]
    try (rw [dc_yes]; omega)
  · have e : dc (0 ≤ n ∧ n ≤ 1114111) = false := by rw [dc_no]; exact h
    simp [signOk, h]

theorem specSignOk_c (n : Int) : PureC Try.prog 200 [.c (vi n)] (.one (.c (vb (signOk n)) 1)) := by
  refine PureC.intro' tt_ok Try.func200 (by kernel_rfl) rfl rfl rfl (Nat.le_of_ble_eq_true rfl) (fun w0 base => ?_)
  simp
  refine ACall.pure (l01In_c n 0 1114111) (by simp) ?_
  by_cases h : 0 ≤ n ∧ n ≤ 1114111
  · simp [h]
    refine ACall.pure (l01In_c n 55296 57343) (by simp) ?_
    by_cases h2 : 55296 ≤ n ∧ n ≤ 57343 <;> simp [h2, signOk, h]
    try (rw [dc_yes]; omega)
  · have e : dc (0 ≤ n ∧ n ≤ 1114111) = false := by rw [dc_no]; exact h
    simp [signOk, h]

theorem all_suc {α : Type} {P : α → Prop} {l : List α} {i : Nat} (h : i < l.length) (ha : ∀ a ∈ l.take i, P a) (hi : P l[i]) : ∀ a ∈ l.take (i + 1), P a := by
  rw [← List.take_append_getElem h]
  intro a ha'
  rcases List.mem_append.1 ha' with h1 | h1
  · exact ha a h1
  · simp at h1; subst h1; exact hi
theorem all_end {α : Type} {P : α → Prop} {l : List α} {i : Nat} (h : l.length ≤ i) (ha : ∀ a ∈ l.take i, P a) : ∀ a ∈ l, P a := by
  rwa [List.take_of_length_le h] at ha
theorem all_not {α : Type} {P : α → Prop} {l : List α} {i : Nat} (h : i < l.length) (hi : ¬ P l[i]) : ¬ ∀ a ∈ l, P a := fun ha => hi (ha _ (List.getElem_mem h))

theorem implSignsOk_c (l : List Int) (hl : l.length ≤ 2 ^ 40) : PureC Try.prog 183 [.c (.s (l.map intR))] (.one (.c (vb (signsOk l)) 1)) := by
  refine PureC.intro' tt_ok Try.func183 (by kernel_rfl) rfl rfl rfl (Nat.le_of_ble_eq_true rfl) (fun w0 base => ?_)
  simp
  refine LoopT.intro eok (fun i : Nat => i ≤ l.length ∧ ∀ n ∈ l.take i, signOk n) (fun i => ⟨15, 0, [(7, .v (.int .i64 i)), (6, .v (.int .i64 l.length)), (5, .ro (l.map intR))], []⟩) (fun i => l.length - i) 0 (by simp) (by simp) (fun i hi => ?_)
  by_cases h : i < l.length
  · simp [h]
    refine ACall.pure (implSignOk_c l[i]) (by simp) ?_
    simp
    refine Br.mk (fun h1 => ?_) (fun h1 => ?_)
    · simp
      exact ⟨i + 1, ⟨by omega, all_suc h hi.2 (of_yes h1)⟩, by omega, i64_suc (by omega)⟩
    · simp [dc_no]
      exact all_not h (of_no h1)
  · simp [h, dc_yes]
    exact all_end (by omega) hi.2

theorem specSignsOk_c (l : List Int) (hl : l.length ≤ 2 ^ 40) : PureC Try.prog 180 [.c (.s (l.map intR))] (.one (.c (vb (signsOk l)) 1)) := by
  refine PureC.intro' tt_ok Try.func180 (by kernel_rfl) rfl rfl rfl (Nat.le_of_ble_eq_true rfl) (fun w0 base => ?_)
  simp
  refine LoopT.intro eok (fun i : Nat => i ≤ l.length ∧ ∀ n ∈ l.take i, signOk n) (fun i => ⟨15, 0, [(7, .v (.int .i64 i)), (6, .v (.int .i64 l.length)), (5, .ro (l.map intR))], []⟩) (fun i => l.length - i) 0 (by simp) (by simp) (fun i hi => ?_)
  by_cases h : i < l.length
  · simp [h]
    refine ACall.pure (specSignOk_c l[i]) (by simp) ?_
    simp
    refine Br.mk (fun h1 => ?_) (fun h1 => ?_)
    · simp
      exact ⟨i + 1, ⟨by omega, all_suc h hi.2 (of_yes h1)⟩, by omega, i64_suc (by omega)⟩
    · simp [dc_no]
      exact all_not h (of_no h1)
  · simp [h, dc_yes]
    exact all_end (by omega) hi.2

def partOk (p : Part) : Prop := ((p.kind = 1 ∨ p.kind = 3) ∧ (0 ≤ p.n ∧ p.n ≤ 200) ∧ p.signs = []) ∨ (p.kind = 2 ∧ p.n = 0 ∧ p.signs.length ≤ 200 ∧ signsOk p.signs)

theorem len_dc {α : Type} (l : List α) : dc ((l.length : Int) = 0) = dc (l = []) := by
  refine dc_congr ?_
  simp

theorem partOk_keep {p : Part} (h : p.kind = 1 ∨ p.kind = 3) : partOk p = ((0 ≤ p.n ∧ p.n ≤ 200) ∧ p.signs = []) := by
  have h2 : ¬ p.kind = 2 := by omega
  simp [partOk, h, h2]
theorem partOk_put {p : Part} (h : p.kind = 2) : partOk p = (p.n = 0 ∧ p.signs.length ≤ 200 ∧ signsOk p.signs) := by simp [partOk, h]
theorem partOk_no {p : Part} (h1 : p.kind ≠ 1) (h2 : p.kind ≠ 2) (h3 : p.kind ≠ 3) : ¬ partOk p := by simp [partOk, h1, h2, h3]

theorem implPartOk_c (p : Part) (hl : p.signs.length ≤ 2 ^ 40) : PureC Try.prog 203 [.agg p.row] (.one (.c (vb (partOk p)) 1)) := by
  refine PureC.intro' tt_ok Try.func203 (by kernel_rfl) rfl rfl rfl (Nat.le_of_ble_eq_true rfl) (fun w0 base => ?_)
  simp [Part.row]
  intros
  by_cases h13 : p.kind = 1 ∨ p.kind = 3
  · rw [partOk_keep h13]
    have key : ∀ b1, ACall ⟨Try.prog, tt, w0, ⟨base, base, false⟩⟩ 66 b1 = ACall ⟨Try.prog, tt, w0, ⟨base, base, false⟩⟩ 66 b1 := fun _ => rfl
    rcases h13 with h | h
    · simp [h]
      refine ACall.pure (within_c p.n 0 200) (by simp) ?_
      by_cases hn : 0 ≤ p.n ∧ p.n ≤ 200
      · simp [hn]
      · have e : dc (0 ≤ p.n ∧ p.n ≤ 200) = false := by rw [dc_no]; exact hn
        simp [hn]
    · simp [h]
      refine ACall.pure (within_c p.n 0 200) (by simp) ?_
      by_cases hn : 0 ≤ p.n ∧ p.n ≤ 200
      · simp [hn]
      · have e : dc (0 ≤ p.n ∧ p.n ≤ 200) = false := by rw [dc_no]; exact hn
        simp [hn]
  · have h1 : ¬ p.kind = 1 := fun h => h13 (.inl h)
    have h3 : ¬ p.kind = 3 := fun h => h13 (.inr h)
    by_cases h2 : p.kind = 2
    · rw [partOk_put h2]
      simp [h2]
      by_cases hn : p.n = 0
      · by_cases hs : p.signs.length ≤ 200
        · have hs' : (p.signs.length : Int) ≤ 200 := by omega
          simp [hn, hs']
          refine ACall.pure (implSignsOk_c p.signs hl) (by simp) ?_
          simp [hs]
        · have hs' : ¬ (p.signs.length : Int) ≤ 200 := by omega
          simp [hn, hs', hs]
      · simp [hn]
    · simp [h1, h2, h3, partOk_no]

theorem specPartOk_c (p : Part) (hl : p.signs.length ≤ 2 ^ 40) : PureC Try.prog 201 [.agg p.row] (.one (.c (vb (partOk p)) 1)) := by
  refine PureC.intro' tt_ok Try.func201 (by kernel_rfl) rfl rfl rfl (Nat.le_of_ble_eq_true rfl) (fun w0 base => ?_)
  simp [Part.row]
  intros
  by_cases h13 : p.kind = 1 ∨ p.kind = 3
  · rw [partOk_keep h13]
    rcases h13 with h | h
    · simp [h]
      refine ACall.pure (l01In_c p.n 0 200) (by simp) ?_
      by_cases hn : 0 ≤ p.n ∧ p.n ≤ 200
      · simp [hn]
      · have e : dc (0 ≤ p.n ∧ p.n ≤ 200) = false := by rw [dc_no]; exact hn
        simp [hn]
    · simp [h]
      refine ACall.pure (l01In_c p.n 0 200) (by simp) ?_
      by_cases hn : 0 ≤ p.n ∧ p.n ≤ 200
      · simp [hn]
      · have e : dc (0 ≤ p.n ∧ p.n ≤ 200) = false := by rw [dc_no]; exact hn
        simp [hn]
  · have h1 : ¬ p.kind = 1 := fun h => h13 (.inl h)
    have h3 : ¬ p.kind = 3 := fun h => h13 (.inr h)
    by_cases h2 : p.kind = 2
    · rw [partOk_put h2]
      simp [h2]
      by_cases hn : p.n = 0
      · simp [hn]
        refine ACall.pure (specSignsOk_c p.signs hl) (by simp) ?_
        have e : ((p.signs.length : Int) ≤ 200) = (p.signs.length ≤ 200) := by simp; omega
        by_cases hg : signsOk p.signs
        · simp [hg, e]
        · simp [hg]
      · simp [hn]
    · simp [h1, h2, h3, partOk_no]

def partsOk (o : List Part) : Prop := (∀ p ∈ o, partOk p) ∧ o.length ≤ 600

theorem implPartsOk_c (o : List Part) (hl : nL nPart o ≤ 2 ^ 40) : PureC Try.prog 185 [.c (.s (o.map Part.row))] (.one (.c (vb (partsOk o)) 1)) := by
  refine PureC.intro' tt_ok Try.func185 (by kernel_rfl) rfl rfl rfl (Nat.le_of_ble_eq_true rfl) (fun w0 base => ?_)
  have hle := nL_len hl
  simp
  refine LoopT.intro eok (fun i : Nat => i ≤ o.length ∧ ∀ p ∈ o.take i, partOk p) (fun i => ⟨18, 0, [(7, .v (.int .i64 i)), (6, .v (.int .i64 o.length)), (5, .ro (o.map Part.row)), (0, .ro (o.map Part.row))], []⟩) (fun i => o.length - i) 0 (by simp) (by simp) (fun i hi => ?_)
  by_cases h : i < o.length
  · simp [h, Part.row]
    intros
    refine ACall.pure (implPartOk_c o[i] (nL_at hl h)) (by simp [Part.row]) ?_
    simp
    refine Br.mk (fun h1 => ?_) (fun h1 => ?_)
    · simp
      exact ⟨i + 1, ⟨by omega, all_suc h hi.2 (of_yes h1)⟩, by omega, i64_suc (by omega)⟩
    · simp [dc_no]
      exact fun hp => all_not h (of_no h1) hp.1
  · have ha := all_end (by omega) hi.2
    simp [h]
    refine dc_congr ?_
    unfold partsOk
    exact ⟨fun h => by have := h.2; omega, fun h => ⟨ha, by omega⟩⟩

theorem specPartsOk_c (o : List Part) (hl : nL nPart o ≤ 2 ^ 40) : PureC Try.prog 182 [.c (.s (o.map Part.row))] (.one (.c (vb (partsOk o)) 1)) := by
  refine PureC.intro' tt_ok Try.func182 (by kernel_rfl) rfl rfl rfl (Nat.le_of_ble_eq_true rfl) (fun w0 base => ?_)
  have hle := nL_len hl
  simp
  refine LoopT.intro eok (fun i : Nat => i ≤ o.length ∧ ∀ p ∈ o.take i, partOk p) (fun i => ⟨18, 0, [(7, .v (.int .i64 i)), (6, .v (.int .i64 o.length)), (5, .ro (o.map Part.row)), (0, .ro (o.map Part.row))], []⟩) (fun i => o.length - i) 0 (by simp) (by simp) (fun i hi => ?_)
  by_cases h : i < o.length
  · simp [h, Part.row]
    intros
    refine ACall.pure (specPartOk_c o[i] (nL_at hl h)) (by simp [Part.row]) ?_
    simp
    refine Br.mk (fun h1 => ?_) (fun h1 => ?_)
    · simp
      exact ⟨i + 1, ⟨by omega, all_suc h hi.2 (of_yes h1)⟩, by omega, i64_suc (by omega)⟩
    · simp [dc_no]
      exact fun hp => all_not h (of_no h1) hp.1
  · have ha := all_end (by omega) hi.2
    simp [h]
    refine dc_congr ?_
    unfold partsOk
    exact ⟨fun h => by have := h.2; omega, fun h => ⟨ha, by omega⟩⟩
end Go.Proofs.Ytljhopjmmcmioaa

namespace Go.Proofs.Ytljhopjmmcmioaa
open Go.AM
set_option maxRecDepth 20000

def busyN : List Task → Int
  | [] => 0
  | t :: l => (if t.a.code = 11 then 1 else 0) + busyN l
def fBusy (w : Wld) : Int := busyN w.tasks
theorem busyN_suc : ∀ {l : List Task} {i : Nat} (h : i < l.length), busyN (l.take (i + 1)) = busyN (l.take i) + (if l[i].a.code = 11 then 1 else 0)
  | t :: l, 0, _ => by simp [busyN]
  | t :: l, i + 1, h => by
    have := busyN_suc (l := l) (i := i) (by simpa using h)
    simp only [List.take_succ_cons, busyN, List.getElem_cons_succ, this]
    omega
theorem busyN_b : ∀ l : List Task, 0 ≤ busyN l ∧ busyN l ≤ l.length
  | [] => by simp [busyN]
  | t :: l => by
    have := busyN_b l
    simp only [busyN, List.length_cons]
    split <;> omega
theorem implBusy_i (w : Wld) (hl : nWorld w ≤ 2 ^ 36) : PureC Try.prog 56 [.agg w.row] (.one (.c (vi (fBusy w)) 1)) := by
  refine PureC.intro' tt_ok Try.func56 (by kernel_rfl) rfl rfl rfl (Nat.le_of_ble_eq_true rfl) (fun w0 base => ?_)
  obtain ⟨h, lk, qs, l, st⟩ := w
  unfold nWorld at hl
  simp only at hl
  have hle := nL_len (f := nTask) (B := 2 ^ 40) (l := l) (by omega)
  simp [Wld.row]
  intro b1
  refine LoopT.intro eok (fun i : Nat => i ≤ l.length) (fun i => ⟨21, 0, [(9, .v (.int .i64 i)), (8, .v (.int .i64 l.length)), (7, .ro (l.map Task.row)), (3, .v (.int .i64 (busyN (l.take i))))], []⟩) (fun i => l.length - i) 0 (by simp) (by simp [busyN]) (fun i hi => ?_)
  by_cases hlt : i < l.length
  · have hs := busyN_suc hlt
    have hb := busyN_b (l.take i)
    simp at hb
    generalize busyN (l.take i) = n at hs hb ⊢
    have ew : Go.IntKind.i64.wrap (n + 1) = n + 1 := Go.IntWalk.i64_in _ (by omega)
    simp [hlt, Task.row]
    intro b5
    by_cases c : l[i].a.code = 11
    · rw [if_pos c] at hs
      simp [c, ew]
      exact ⟨i + 1, by omega, by omega, i64_suc (by omega), hs.symm⟩
    · rw [if_neg c] at hs
      simp [c]
      exact ⟨i + 1, by omega, by omega, i64_suc (by omega), by omega⟩
  · rw [List.take_of_length_le (by omega)]
    simp [hlt, fBusy]
theorem specBusy_i (w : Wld) (hl : nWorld w ≤ 2 ^ 36) : PureC Try.prog 54 [.agg w.row] (.one (.c (vi (fBusy w)) 1)) := by
  refine PureC.intro' tt_ok Try.func54 (by kernel_rfl) rfl rfl rfl (Nat.le_of_ble_eq_true rfl) (fun w0 base => ?_)
  obtain ⟨h, lk, qs, l, st⟩ := w
  unfold nWorld at hl
  simp only at hl
  have hle := nL_len (f := nTask) (B := 2 ^ 40) (l := l) (by omega)
  simp [Wld.row]
  intro b1
  refine LoopT.intro eok (fun i : Nat => i ≤ l.length) (fun i => ⟨21, 0, [(9, .v (.int .i64 i)), (8, .v (.int .i64 l.length)), (7, .ro (l.map Task.row)), (3, .v (.int .i64 (busyN (l.take i))))], []⟩) (fun i => l.length - i) 0 (by simp) (by simp [busyN]) (fun i hi => ?_)
  by_cases hlt : i < l.length
  · have hs := busyN_suc hlt
    have hb := busyN_b (l.take i)
    simp at hb
    generalize busyN (l.take i) = n at hs hb ⊢
    have ew : Go.IntKind.i64.wrap (n + 1) = n + 1 := Go.IntWalk.i64_in _ (by omega)
    simp [hlt, Task.row]
    intro b5
    by_cases c : l[i].a.code = 11
    · rw [if_pos c] at hs
      simp [c, ew]
      exact ⟨i + 1, by omega, by omega, i64_suc (by omega), hs.symm⟩
    · rw [if_neg c] at hs
      simp [c]
      exact ⟨i + 1, by omega, by omega, i64_suc (by omega), by omega⟩
  · rw [List.take_of_length_le (by omega)]
    simp [hlt, fBusy]
theorem fBusy_b (w : Wld) (_ : w.fits) (_ : nWorld w ≤ 2 ^ 20) : True := trivial
theorem specBusy_c (w : Wld) (_ : w.fits) (h : nWorld w ≤ 2 ^ 20) : PureC Try.prog 54 [.agg w.row] (.one (.c (.v (.int .i64 (fBusy w))) 1)) := specBusy_i w (by omega)
theorem implBusy_c (w : Wld) (_ : w.fits) (h : nWorld w ≤ 2 ^ 20) : PureC Try.prog 56 [.agg w.row] (.one (.c (.v (.int .i64 (fBusy w))) 1)) := implBusy_i w (by omega)
end Go.Proofs.Ytljhopjmmcmioaa

