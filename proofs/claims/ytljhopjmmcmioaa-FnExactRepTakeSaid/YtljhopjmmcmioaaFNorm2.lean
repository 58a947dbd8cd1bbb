import Derived.Test.YtljhopjmmcmioaaFNorm
namespace Go.Proofs.Ytljhopjmmcmioaa
open Go.AM
set_option maxRecDepth 20000

theorem specFlush_call {w0 : World} {base : Bs} {st : ASt} {dst : Option Nat} {K : ASt → Prop} {L : List Part} {P : List Int} {D : Int} {b : Nat} {Hl Hp : Hd} (hL : L.length ≤ 2 ^ 20) (hP : P.length ≤ 2 ^ 40)
    (g160 : st.h.get 160 = .vars b 174 [.sl 5000 Hl 3 0 L.length, .sl 5001 Hp 1 0 P.length, .v (.int .i64 D)])
    (g5000 : st.h.get 5000 = .rows Hl 3 (L.map Part.row) true) (g5001 : st.h.get 5001 = .rows Hp 1 (P.map intR) true)
    (hK : ∀ Hl' h', AH.get h' 160 = .vars b 174 [.sl 5000 Hl' 3 0 (nbFlush L P D).length, .nil, .v (.int .i64 0)] → AH.get h' 5000 = .rows Hl' 3 ((nbFlush L P D).map Part.row) true →
      AH.get h' 80 = st.h.get 80 → aPut ⟨st.n, st.kb, st.t, h'⟩ dst (.tup []) K) : ACall ⟨Try.prog, tt, w0, base⟩ 190 [.p 160 b 0] st dst K := by
  refine ACall.inline tt_ok Try.func190 (by kernel_rfl) rfl rfl rfl (Nat.le_of_ble_eq_true rfl) 20000 (fun w1 F => ?_)
  simp [g160]
  by_cases hp : P = []
  · have hp0 : ¬ 0 < P.length := by simp [hp]
    simp [hp0, g160]
    by_cases hd : 0 < D
    · simp [hd]
      refine DrawT.introP eok mix [0, 1, 2, 3, 4, 5, 6, 7, 8, 9, 12, 13] [10, 11, 14] [([false, false, true, false, false, false, false, false, false, false, false, false], [true, true, false, true, true, true, true, true, true, true, true, true]), ([false, false, false, false, false, false, false, true, false, false, false, false], [true, true, false, true, true, true, true, false, true, true, true, true]), ([true, false, false, true, true, true, true, false, true, true, true, true], [false, true, false, false, false, false, false, false, false, false, false, false])] [false, true, false, false, false, false, false, false, false, false, false, false] (by kernel_rfl) ?_
      simp [g160, g5000]
      intro b1
      refine ⟨by omega, fun H => hK H _ ?_ ?_ ?_⟩ <;> simp [flush3 hp hd, Part.row]
    · simp [hd, g160]
      refine hK Hl _ ?_ ?_ ?_ <;> simp [flush4 hp hd, g5000]
  · have hp0 : 0 < P.length := List.length_pos_iff.2 hp
    simp [hp0]
    refine DrawT.introP eok mix [0, 1, 2, 3, 4, 5, 6, 7, 8, 9, 12, 13] [10, 11, 14] [([false, false, true, false, false, false, false, false, false, false, false, false], [true, true, false, true, true, true, true, true, true, true, true, true]), ([false, false, false, false, false, false, false, true, false, false, false, false], [true, true, false, true, true, true, true, false, true, true, true, true]), ([true, false, false, true, true, true, true, false, true, true, true, true], [false, true, false, false, false, false, false, false, false, false, false, false])] [false, true, false, false, false, false, false, false, false, false, false, false] (by kernel_rfl) ?_
    simp [g160, g5000, g5001]
    intro b1
    refine ⟨by omega, fun H => ?_⟩
    by_cases hd : 0 < D
    · simp [hd]
      refine DrawT.introP eok mix [0, 1, 2, 3, 4, 5, 6, 7, 8, 9, 12, 13] [10, 11, 14] [([false, false, true, false, false, false, false, false, false, false, false, false], [true, true, false, true, true, true, true, true, true, true, true, true]), ([false, false, false, false, false, false, false, true, false, false, false, false], [true, true, false, true, true, true, true, false, true, true, true, true]), ([true, false, false, true, true, true, true, false, true, true, true, true], [false, true, false, false, false, false, false, false, false, false, false, false])] [false, true, false, false, false, false, false, false, false, false, false, false] (by kernel_rfl) ?_
      simp
      intro b2
      refine ⟨by omega, fun H2 => hK H2 _ ?_ ?_ ?_⟩ <;> simp [flush1 hp hd, Part.row]
    · simp [hd]
      refine hK H _ ?_ ?_ ?_ <;> simp [flush2 hp hd, Part.row]

theorem specKeep_call {w0 : World} {base : Bs} {st : ASt} {dst : Option Nat} {K : ASt → Prop} {L : List Part} {P : List Int} {D n : Int} {b : Nat} {Hl Hp : Hd} (hL : L.length ≤ 2 ^ 19) (hP : P.length ≤ 2 ^ 40) (hn0 : 0 < n) (hn : n ≤ 200) (hF : ∀ q ∈ nbFlush L P D, 0 ≤ q.n ∧ q.n ≤ 2 ^ 40)
    (g160 : st.h.get 160 = .vars b 174 [.sl 5000 Hl 3 0 L.length, .sl 5001 Hp 1 0 P.length, .v (.int .i64 D)])
    (g5000 : st.h.get 5000 = .rows Hl 3 (L.map Part.row) true) (g5001 : st.h.get 5001 = .rows Hp 1 (P.map intR) true)
    (hK : ∀ Hl' h', AH.get h' 160 = .vars b 174 [.sl 5000 Hl' 3 0 (nbKeep (nbFlush L P D) n).length, .nil, .v (.int .i64 0)] → AH.get h' 5000 = .rows Hl' 3 ((nbKeep (nbFlush L P D) n).map Part.row) true →
      AH.get h' 80 = st.h.get 80 → aPut ⟨st.n, st.kb, st.t, h'⟩ dst (.tup []) K) : ACall ⟨Try.prog, tt, w0, base⟩ 151 [.p 160 b 0, .v (.int .i64 n)] st dst K := by
  refine ACall.inline tt_ok Try.func151 (by kernel_rfl) rfl rfl rfl (Nat.le_of_ble_eq_true rfl) 30000 (fun w1 F => ?_)
  have n0 : ¬ n = 0 := by omega
  simp [n0]
  refine specFlush_call (L := L) (P := P) (D := D) (Hl := Hl) (Hp := Hp) (by omega) hP (by simp [g160]) (by simp [g5000]) (by simp [g5001]) (fun Hl' h' k160 k5000 k80 => ?_)
  have f1 := nbFlush_len L P D
  generalize nbFlush L P D = F at f1 hF k160 k5000 hK
  by_cases hF0 : 0 < F.length
  · obtain ⟨m, hm⟩ : ∃ m, F.length = m + 1 := ⟨F.length - 1, by omega⟩
    have hmlt : m < F.length := by omega
    have hmm : (m : Int) < m + 1 := by omega
    have em : Go.IntKind.i64.wrap (m : Int) = m := i64_nat (by omega)
    have hk : nbKeep F n = if F[m].kind = 1 then F.set m ⟨1, F[m].n + n, F[m].signs⟩ else F ++ [⟨1, n, []⟩] := by
      have e0 : F.length - 1 = m := by omega
      simp [nbKeep, hF0, e0]
    have hq := hF _ (List.getElem_mem hmlt)
    have em2 : Go.IntKind.i64.wrap (F[m].n + n) = F[m].n + n := Go.IntWalk.i64_in _ (by omega)
    simp [k160, k5000, hm, em, hmm, Part.row]
    by_cases ck : F[m].kind = 1
    · rw [if_pos ck] at hk
      simp [ck]
      refine DrawT.introP eok mix [0, 1, 2, 3, 4, 5, 6, 7, 8, 9, 10, 11, 12, 13, 14, 15, 16, 17, 18] [19] [([true, false, true, true, true, true, true, true, true, true, true, true, true, true, true, true, true, true, true], [false, true, false, false, false, false, false, false, false, false, false, false, false, false, false, false, false, false, false])] [false, true, false, false, false, false, false, false, false, false, false, false, false, false, false, false, false, false, false] (by kernel_rfl) ?_
      simp [k160, k5000, hm, em, hmm, Part.row, ck, em2]
      have hmod := modify_row (F := F) (m := m) hmlt (g := fun row => putL row 1 [CD.v (Value.int IntKind.i64 (F[m].n + n))]) (p := ⟨1, F[m].n + n, F[m].signs⟩) (by simp [Part.row, ck])
      refine hK Hl' _ ?_ ?_ ?_
      · simp [k160, hk, hm]
      · simp [hk, hmod]
      · simp [k80]
    · rw [if_neg ck] at hk
      simp [ck, k160, k5000, hm]
      intro b1
      refine ⟨by omega, fun H => hK H _ ?_ ?_ ?_⟩ <;> simp [hk, hm, Part.row, k80]
  · have hF1 : F = [] := List.eq_nil_of_length_eq_zero (by omega)
    subst hF1
    have hk : nbKeep [] n = [⟨1, n, []⟩] := by simp [nbKeep]
    simp [k160, k5000]
    intro b1 H
    refine hK H _ ?_ ?_ ?_ <;> simp [hk, Part.row, k80]

open Classical in
noncomputable def opNorm (o : List Part) : List Part := if opOk o then normal o else []

theorem implOpNorm_c (o : List Part) (hl : nL nPart o ≤ 2 ^ 40) : PureC Try.prog 184 [.c (.s (o.map Part.row))] (.one (.c (.s ((opNorm o).map Part.row)) 3)) := by
  refine PureC.intro' tt_ok Try.func184 (by kernel_rfl) rfl rfl rfl (Nat.le_of_ble_eq_true rfl) (fun w0 base => ?_)
  simp
  refine ACall.pure (implOpOk_c o hl) (by simp) ?_
  by_cases h : opOk o
  · have e : opNorm o = normal o := by unfold opNorm; rw [if_pos h]
    simp [h, e]
    refine ACall.pure (normal_c o h.1.1 (by have := h.1.2; omega)) (by simp) ?_
    simp
  · have e : opNorm o = [] := by unfold opNorm; rw [if_neg h]
    have e2 : dc (opOk o) = false := by rw [dc_no]; exact h
    simp [e, e2]

theorem specOpNorm_c (o : List Part) (hl : nL nPart o ≤ 2 ^ 40) : PureC Try.prog 181 [.c (.s (o.map Part.row))] (.one (.c (.s ((opNorm o).map Part.row)) 3)) := by
  refine PureC.intro' tt_ok Try.func181 (by kernel_rfl) rfl rfl rfl (Nat.le_of_ble_eq_true rfl) (fun w0 base => ?_)
  simp
  refine ACall.pure (specOpOk_c o hl) (by simp) ?_
  by_cases hopk : opOk o
  rotate_left
  · have e : opNorm o = [] := by unfold opNorm; rw [if_neg hopk]
    have e2 : dc (opOk o) = false := by rw [dc_no]; exact hopk
    simp [e, e2]
  have e : opNorm o = normal o := by unfold opNorm; rw [if_pos hopk]
  have ho := hopk.1.1
  have hlen := hopk.1.2
  simp [hopk, e]
  intro b
  refine LoopT.introG eok (fun x : Nat × Hd × Hd => x.1 ≤ o.length) (fun x => ⟨38, 0, [(13, .v (.int .i64 x.1)), (12, .v (.int .i64 o.length)), (11, .ro (o.map Part.row)), (3, .p 160 b 0)],
    [(160, .vars b 174 [.sl 5000 x.2.1 3 0 (nbRun (o.take x.1)).1.length, .sl 5001 x.2.2 1 0 (nbRun (o.take x.1)).2.1.length, .v (.int .i64 (nbRun (o.take x.1)).2.2)]),
     (5000, .rows x.2.1 3 ((nbRun (o.take x.1)).1.map Part.row) true), (5001, .rows x.2.2 1 ((nbRun (o.take x.1)).2.1.map intR) true)]⟩) (fun x => o.length - x.1) (0, none, none) (by simp) (by simp [nbRun]) (fun x hx => Ent.refl ?_)
  obtain ⟨i, Hl, Hp⟩ := x
  simp only at hx ⊢
  have hok := nbRun_ok ho i hx
  by_cases h : i < o.length
  · have hs := nbRun_suc h
    have hpb := (ho _ (List.getElem_mem h)).bounds
    generalize nbRun (o.take i) = s at hok hs
    obtain ⟨L, P, D⟩ := s
    obtain ⟨k1, k2, k3, k4, k5⟩ := hok
    simp only at k1 k2 k3 k4 k5
    have e : Go.IntKind.i64.wrap ((i : Int) + 1) = ((i + 1 : Nat) : Int) := i64_suc (by omega)
    simp [h, Part.row]
    intro b5
    by_cases c1 : o[i].kind = 1
    · simp [c1]
      by_cases cn : 0 < o[i].n
      · have hstep : nbStep (L, P, D) o[i] = (nbKeep (nbFlush L P D) o[i].n, [], 0) := by simp [nbStep, c1, cn]
        rw [hstep] at hs
        have f2 := nbFlush_q (P := P) k3 k4 k5
        refine specKeep_call (L := L) (P := P) (D := D) (Hl := Hl) (Hp := Hp) (by omega) (by omega) cn hpb.2.2.1 (fun q hq => by have := f2 q hq; omega) (by simp) (by simp) (by simp) (fun Hl' h' k160 k5000 k80 => ?_)
        simp
        refine Ent.kill 5001 (Ent.refl ⟨i + 1, by omega, by omega, Hl', none, ?_⟩)
        rw [hs]
        simp [e, k160, k5000]
      · have cn0 : o[i].n = 0 := by omega
        refine ACall.inline tt_ok Try.func151 (by kernel_rfl) rfl rfl rfl (Nat.le_of_ble_eq_true rfl) 30000 (fun w1 F => ?_)
        simp [cn0]
        refine Ent.refl ⟨i + 1, by omega, by omega, Hl, Hp, ?_⟩
        rw [hs]
        simp [nbStep, c1, cn0, e]
    · by_cases c2 : o[i].kind = 2
      · simp [c2]
        refine ACall.inline tt_ok Try.func148 (by kernel_rfl) rfl rfl rfl (Nat.le_of_ble_eq_true rfl) 30000 (fun w1 F => ?_)
        simp
        refine ⟨by omega, fun H => ?_⟩
        refine Ent.refl ⟨i + 1, by omega, by omega, Hl, H, ?_⟩
        rw [hs]
        simp [nbStep, c2, e]
      · have c3 : o[i].kind = 3 := by omega
        have e3 : Go.IntKind.i64.wrap (D + o[i].n) = D + o[i].n := Go.IntWalk.i64_in _ (by omega)
        simp [c1, c2]
        refine ACall.inline tt_ok Try.func147 (by kernel_rfl) rfl rfl rfl (Nat.le_of_ble_eq_true rfl) 30000 (fun w1 F => ?_)
        simp [e3]
        refine Ent.refl ⟨i + 1, by omega, by omega, Hl, Hp, ?_⟩
        rw [hs]
        simp [nbStep, c3, e]
  · have he : o.take i = o := List.take_of_length_le (by omega)
    rw [he] at hok ⊢
    have hn : normal o = nbFlush (nbRun o).1 (nbRun o).2.1 (nbRun o).2.2 := rfl
    rw [hn]
    generalize nbRun o = s at hok
    obtain ⟨L, P, D⟩ := s
    obtain ⟨k1, k2, k3, k4, k5⟩ := hok
    simp only at k1 k2 k3 k4 k5
    simp [h]
    refine ACall.inline tt_ok Try.func152 (by kernel_rfl) rfl rfl rfl (Nat.le_of_ble_eq_true rfl) 30000 (fun w1 F => ?_)
    simp
    refine specFlush_call (L := L) (P := P) (D := D) (Hl := Hl) (Hp := Hp) (by omega) (by omega) (by simp) (by simp) (by simp) (fun Hl' h' k160 k5000 k80 => ?_)
    simp [k160, k5000]
end Go.Proofs.Ytljhopjmmcmioaa
