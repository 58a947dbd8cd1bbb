import Derived.Test.YtljhopjmmcmioaaFSz
import Derived.Test.YtljhopjmmcmioaaMF
namespace Go.Proofs.Ytljhopjmmcmioaa
open Go.AM
set_option maxRecDepth 20000

def nbFlush (L : List Part) (P : List Int) (D : Int) : List Part := L ++ ((if P = [] then [] else [⟨2, 0, P⟩]) ++ (if 0 < D then [⟨3, D, []⟩] else []))
def nbKeep (L : List Part) (n : Int) : List Part :=
  if h : 0 < L.length then
    if (L[L.length - 1]'(by omega)).kind = 1 then L.set (L.length - 1) ⟨1, (L[L.length - 1]'(by omega)).n + n, (L[L.length - 1]'(by omega)).signs⟩ else L ++ [⟨1, n, []⟩]
  else [⟨1, n, []⟩]
def nbStep (s : List Part × List Int × Int) (p : Part) : List Part × List Int × Int :=
  if p.kind = 2 then (s.1, s.2.1 ++ p.signs, s.2.2)
  else if p.kind = 3 then (s.1, s.2.1, s.2.2 + p.n)
  else if 0 < p.n then (nbKeep (nbFlush s.1 s.2.1 s.2.2) p.n, [], 0) else s
def nbRun (o : List Part) : List Part × List Int × Int := o.foldl nbStep ([], [], 0)
def normal (o : List Part) : List Part := nbFlush (nbRun o).1 (nbRun o).2.1 (nbRun o).2.2

theorem nbRun_suc {o : List Part} {i : Nat} (h : i < o.length) : nbRun (o.take (i + 1)) = nbStep (nbRun (o.take i)) o[i] := by
  unfold nbRun
  rw [← List.take_append_getElem h, List.foldl_append]
  rfl

structure NbOk (m : Nat) (s : List Part × List Int × Int) : Prop where
  l : s.1.length ≤ 3 * m
  p : s.2.1.length ≤ 200 * m
  d0 : 0 ≤ s.2.2
  d : s.2.2 ≤ 200 * m
  q : ∀ q ∈ s.1, 0 ≤ q.n ∧ q.n ≤ 200 * m

theorem nbFlush_len (L : List Part) (P : List Int) (D : Int) : (nbFlush L P D).length ≤ L.length + 2 := by
  unfold nbFlush
  split <;> split <;> simp
theorem nbFlush_q {L : List Part} {P : List Int} {D B : Int} (h0 : 0 ≤ D) (hD : D ≤ B) (hL : ∀ q ∈ L, 0 ≤ q.n ∧ q.n ≤ B) : ∀ q ∈ nbFlush L P D, 0 ≤ q.n ∧ q.n ≤ B := by
  intro q hq
  unfold nbFlush at hq
  simp only [List.mem_append] at hq
  rcases hq with hq | hq | hq
  · exact hL q hq
  · split at hq
    · simp at hq
    · simp at hq; subst hq; simp; omega
  · split at hq
    · simp at hq; subst hq; simp; omega
    · simp at hq

theorem nbRun_ok {o : List Part} (ho : ∀ p ∈ o, partOk p) : ∀ (i : Nat), i ≤ o.length → NbOk i (nbRun (o.take i))
  | 0, _ => by
    simp [nbRun]
    exact ⟨by simp, by simp, by simp, by simp, by simp⟩
  | i + 1, hi => by
    have ih := nbRun_ok ho i (by omega)
    have hlt : i < o.length := by omega
    rw [nbRun_suc hlt]
    have hp := (ho _ (List.getElem_mem hlt)).bounds
    generalize nbRun (o.take i) = s at ih
    generalize o[i] = p at hp
    obtain ⟨L, P, D⟩ := s
    obtain ⟨h1, h2, h3, h4, h5⟩ := ih
    simp only at h1 h2 h3 h4 h5
    have w : ∀ q ∈ L, 0 ≤ q.n ∧ q.n ≤ 200 * ((i + 1 : Nat) : Int) := fun q hq => by have := h5 q hq; omega
    unfold nbStep
    split
    · exact ⟨by simp; omega, by simp; omega, h3, by simp; omega, w⟩
    · split
      · exact ⟨by simp; omega, by simp; omega, by simp; omega, by simp; omega, w⟩
      · split
        · have f1 := nbFlush_len L P D
          have f2 := nbFlush_q (P := P) h3 h4 h5
          refine ⟨?_, by simp, by simp, by simp; omega, ?_⟩
          · simp only [nbKeep]
            split
            · split <;> simp <;> omega
            · simp; omega
          · simp only [nbKeep]
            intro q hq
            split at hq
            · split at hq
              · rcases List.mem_or_eq_of_mem_set hq with hq | rfl
                · have := f2 q hq; omega
                · have := f2 _ (List.getElem_mem (show (nbFlush L P D).length - 1 < (nbFlush L P D).length by omega))
                  simp only
                  omega
              · rcases List.mem_append.1 hq with hq | hq
                · have := f2 q hq; omega
                · simp at hq; subst hq; simp; omega
            · simp at hq; subst hq; simp; omega
        · exact ⟨by simp; omega, by simp; omega, h3, by simp; omega, w⟩

theorem map_rows_eq (L : List Part) (p : Part) : L.map Part.row ++ [p.row] = (L ++ [p]).map Part.row := by simp

theorem flush1 {L : List Part} {P : List Int} {D : Int} (hP : ¬ P = []) (hD : 0 < D) : nbFlush L P D = L ++ [⟨2, 0, P⟩] ++ [⟨3, D, []⟩] := by simp [nbFlush, hP, hD]
theorem flush2 {L : List Part} {P : List Int} {D : Int} (hP : ¬ P = []) (hD : ¬ 0 < D) : nbFlush L P D = L ++ [⟨2, 0, P⟩] := by simp [nbFlush, hP, hD]
theorem flush3 {L : List Part} {P : List Int} {D : Int} (hP : P = []) (hD : 0 < D) : nbFlush L P D = L ++ [⟨3, D, []⟩] := by simp [nbFlush, hP, hD]
theorem flush4 {L : List Part} {P : List Int} {D : Int} (hP : P = []) (hD : ¬ 0 < D) : nbFlush L P D = L := by simp [nbFlush, hP, hD]

theorem implFlush_call {w0 : World} {base : Bs} {st : ASt} {dst : Option Nat} {K : ASt → Prop} {L : List Part} {P : List Int} {D : Int} {b3 b4 b5 : Nat} {Hl Hp : Hd} (hL : L.length ≤ 2 ^ 20) (hP : P.length ≤ 2 ^ 40)
    (g48 : st.h.get 48 = .vars b3 27 [.sl 5000 Hl 3 0 L.length]) (g64 : st.h.get 64 = .vars b4 22 [.sl 5001 Hp 1 0 P.length]) (g80 : st.h.get 80 = .vars b5 3 [.v (.int .i64 D)])
    (g5000 : st.h.get 5000 = .rows Hl 3 (L.map Part.row) true) (g5001 : st.h.get 5001 = .rows Hp 1 (P.map intR) true)
    (hK : ∀ Hl' h', AH.get h' 48 = .vars b3 27 [.sl 5000 Hl' 3 0 (nbFlush L P D).length] → AH.get h' 5000 = .rows Hl' 3 ((nbFlush L P D).map Part.row) true → AH.get h' 64 = .vars b4 22 [.nil] → AH.get h' 80 = .vars b5 3 [.v (.int .i64 0)] →
      AH.get h' 128 = st.h.get 128 → aPut ⟨st.n, st.kb, st.t, h'⟩ dst (.tup []) K) : ACall ⟨Try.prog, tt, w0, base⟩ 191 [.p 64 b4 0, .p 48 b3 0, .p 80 b5 0] st dst K := by
  refine ACall.inline tt_ok Try.func191 (by kernel_rfl) rfl rfl rfl (Nat.le_of_ble_eq_true rfl) 20000 (fun w1 F => ?_)
  simp [g64]
  by_cases hp : P = []
  · have hp0 : ¬ 0 < P.length := by simp [hp]
    simp [hp0, g80]
    by_cases hd : 0 < D
    · simp [hd, g48, g5000, g80, g64]
      intro b
      refine ⟨by omega, fun H => hK H _ ?_ ?_ ?_ ?_ ?_⟩ <;> simp [flush3 hp hd, Part.row]
    · simp [hd, g80, g64]
      refine hK Hl _ ?_ ?_ ?_ ?_ ?_ <;> simp [flush4 hp hd, g48, g5000]
  · have hp0 : 0 < P.length := List.length_pos_iff.2 hp
    simp [hp0, g80, g48, g5000, g5001, g64]
    intro b
    refine ⟨by omega, fun H => ?_⟩
    by_cases hd : 0 < D
    · simp [hd, g80, g64]
      intro b2
      refine ⟨by omega, fun H2 => hK H2 _ ?_ ?_ ?_ ?_ ?_⟩ <;> simp [flush1 hp hd, Part.row]
    · simp [hd, g80, g64]
      refine hK H _ ?_ ?_ ?_ ?_ ?_ <;> simp [flush2 hp hd, Part.row]

theorem modify_row {F : List Part} {m : Nat} (h : m < F.length) {g : List CD → List CD} {p : Part} (hg : g F[m].row = p.row) : (F.map Part.row).modify m g = (F.set m p).map Part.row := by
  apply List.ext_getElem?
  intro j
  rw [List.getElem?_modify]
  simp only [List.getElem?_map, List.getElem?_set]
  by_cases hj : m = j
  · subst hj
    simp [h, hg]
  · simp [hj]

theorem normal_c (o : List Part) (ho : ∀ p ∈ o, partOk p) (hl : o.length ≤ 10000) : PureC Try.prog 157 [.c (.s (o.map Part.row))] (.one (.c (.s ((normal o).map Part.row)) 3)) := by
  refine PureC.intro' tt_ok Try.func157 (by kernel_rfl) rfl rfl rfl (Nat.le_of_ble_eq_true rfl) (fun w0 base => ?_)
  simp
  intro b3 b4 b5
  refine LoopT.introG eok (fun x : Nat × Hd × Hd => x.1 ≤ o.length) (fun x => ⟨73, 0, [(13, .v (.int .i64 x.1)), (12, .v (.int .i64 o.length)), (11, .ro (o.map Part.row)), (3, .p 48 b3 0), (4, .p 64 b4 0), (5, .p 80 b5 0), (6, .clo 191 [.p 64 b4 0, .p 48 b3 0, .p 80 b5 0])],
    [(48, .vars b3 27 [.sl 5000 x.2.1 3 0 (nbRun (o.take x.1)).1.length]), (64, .vars b4 22 [.sl 5001 x.2.2 1 0 (nbRun (o.take x.1)).2.1.length]), (80, .vars b5 3 [.v (.int .i64 (nbRun (o.take x.1)).2.2)]),
     (5000, .rows x.2.1 3 ((nbRun (o.take x.1)).1.map Part.row) true), (5001, .rows x.2.2 1 ((nbRun (o.take x.1)).2.1.map intR) true)]⟩) (fun x => o.length - x.1) (0, none, none) (by simp) (by simp [nbRun]) (fun x hx => Ent.refl ?_)
  obtain ⟨i, Hl, Hp⟩ := x
  simp only at hx ⊢
  have hok := nbRun_ok ho i hx
  by_cases h : i < o.length
  · have hs := nbRun_suc h
    have hpb := (ho _ (List.getElem_mem h)).bounds
    generalize nbRun (o.take i) = s at hok hs
    obtain ⟨L, P, D⟩ := s
    obtain ⟨k1, k2, k3, k4, k5⟩ := hok
    simp only at k1 k2 k3 k4 k5
    have e : Go.IntKind.i64.wrap ((i : Int) + 1) = ((i + 1 : Nat) : Int) := i64_suc (by omega)
    simp [h, Part.row]
    intro b8
    by_cases c2 : o[i].kind = 2
    · simp [c2]
      refine ⟨by omega, fun H => ?_⟩
      refine Ent.refl ⟨i + 1, by omega, by omega, Hl, H, ?_⟩
      rw [hs]
      simp [nbStep, c2, e]
    · by_cases c3 : o[i].kind = 3
      · have e3 : Go.IntKind.i64.wrap (D + o[i].n) = D + o[i].n := Go.IntWalk.i64_in _ (by omega)
        simp [c3, e3]
        refine Ent.refl ⟨i + 1, by omega, by omega, Hl, Hp, ?_⟩
        rw [hs]
        simp [nbStep, c3, e]
      · by_cases cn : 0 < o[i].n
        · simp [c2, c3, cn]
          refine implFlush_call (L := L) (P := P) (D := D) (Hl := Hl) (Hp := Hp) (by omega) (by omega) (by simp) (by simp) (by simp) (by simp) (by simp) (fun Hl' h' g48 g5000 g64 g80 g128 => ?_)
          have f1 := nbFlush_len L P D
          have f2 := nbFlush_q (P := P) k3 k4 k5
          have hstep : nbStep (L, P, D) o[i] = (nbKeep (nbFlush L P D) o[i].n, [], 0) := by simp [nbStep, c2, c3, cn]
          rw [hstep] at hs
          generalize nbFlush L P D = F at f1 f2 g48 g5000 hs
          simp at g128
          by_cases hF : 0 < F.length
          · obtain ⟨m, hm⟩ : ∃ m, F.length = m + 1 := ⟨F.length - 1, by omega⟩
            have hmlt : m < F.length := by omega
            have em : Go.IntKind.i64.wrap (m : Int) = m := i64_nat (by omega)
            have hk : nbKeep F o[i].n = if F[m].kind = 1 then F.set m ⟨1, F[m].n + o[i].n, F[m].signs⟩ else F ++ [⟨1, o[i].n, []⟩] := by
              have e0 : F.length - 1 = m := by omega
              simp [nbKeep, hF, e0]
            have hq := f2 _ (List.getElem_mem hmlt)
            simp [g48, g5000, hm, em, Part.row]
            by_cases ck : F[m].kind = 1
            · rw [if_pos ck] at hk
              have em2 : Go.IntKind.i64.wrap (F[m].n + o[i].n) = F[m].n + o[i].n := Go.IntWalk.i64_in _ (by omega)
              have hmm : (m : Int) < m + 1 := by omega
              simp [ck, hmm]
              refine DrawT.introP eok mix [0, 1, 2, 3, 4, 5, 6, 7, 8, 9, 10] [11] [([true, false, true, true, true, true, true, true, true, true, true], [false, true, false, false, false, false, false, false, false, false, false])] [false, true, false, false, false, false, false, false, false, false, false] (by kernel_rfl) ?_
              simp [g48, g5000, g128, hm, em, Part.row, ck, em2, hmm]
              refine Ent.kill 5001 (Ent.refl ⟨i + 1, by omega, by omega, Hl', none, ?_⟩)
              rw [hs, hk]
              have hmod := modify_row (F := F) (m := m) hmlt (g := fun row => putL row 1 [CD.v (Value.int IntKind.i64 (F[m].n + o[i].n))]) (p := ⟨1, F[m].n + o[i].n, F[m].signs⟩) (by simp [Part.row, ck])
              simp [e, g48, g64, g80, hm, hmod]
            · rw [if_neg ck] at hk
              simp [ck, g48, g5000, g128, hm]
              refine ⟨by omega, fun b => ⟨by omega, fun H => ?_⟩⟩
              refine Ent.kill 5001 (Ent.refl ⟨i + 1, by omega, by omega, H, none, ?_⟩)
              rw [hs, hk]
              simp [e, Part.row, g64, g80, hm]
          · have hF0 : F = [] := List.eq_nil_of_length_eq_zero (by omega)
            subst hF0
            have hk : nbKeep [] o[i].n = [⟨1, o[i].n, []⟩] := by simp [nbKeep]
            simp [g48, g5000, g128]
            intro b H
            refine Ent.kill 5001 (Ent.refl ⟨i + 1, by omega, by omega, H, none, ?_⟩)
            rw [hs, hk]
            simp [e, Part.row, g64, g80]
        · simp [c2, c3, cn]
          refine Ent.refl ⟨i + 1, by omega, by omega, Hl, Hp, ?_⟩
          rw [hs]
          simp [nbStep, c2, c3, cn, e]
  · have he : o.take i = o := List.take_of_length_le (by omega)
    rw [he] at hok ⊢
    have hn : normal o = nbFlush (nbRun o).1 (nbRun o).2.1 (nbRun o).2.2 := rfl
    rw [hn]
    generalize nbRun o = s at hok
    obtain ⟨L, P, D⟩ := s
    obtain ⟨k1, k2, k3, k4, k5⟩ := hok
    simp only at k1 k2 k3 k4 k5
    simp [h]
    refine implFlush_call (L := L) (P := P) (D := D) (Hl := Hl) (Hp := Hp) (by omega) (by omega) (by simp) (by simp) (by simp) (by simp) (by simp) (fun Hl' h' g48 g5000 g64 g80 g128 => ?_)
    simp [g48, g5000]
end Go.Proofs.Ytljhopjmmcmioaa
