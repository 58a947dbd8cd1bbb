import Derived.Test.YtljhopjmmcmioaaFBld
namespace Go.Proofs.Ytljhopjmmcmioaa
open Go.AM
set_option maxRecDepth 20000


theorem specFlush_callD {w0 : World} {base : Bs} {st : ASt} {dst : Option Nat} {K : ASt → Prop} {L : List Part} {P : List Int} {D : Int} {b : Nat} {Hl Hp : Hd} (hL : L.length ≤ 2 ^ 20) (hP : P.length ≤ 2 ^ 40)
    (g160 : st.h.get 640 = .vars b 174 [.sl 5000 Hl 3 0 L.length, .sl 5001 Hp 1 0 P.length, .v (.int .i64 D)])
    (g5000 : st.h.get 5000 = .rows Hl 3 (L.map Part.row) true) (g5001 : st.h.get 5001 = .rows Hp 1 (P.map intR) true)
    (hK : ∀ Hl' h', AH.get h' 640 = .vars b 174 [.sl 5000 Hl' 3 0 (nbFlush L P D).length, .nil, .v (.int .i64 0)] → AH.get h' 5000 = .rows Hl' 3 ((nbFlush L P D).map Part.row) true →
      (∀ q, q < 15000 → q ≠ 640 → q ≠ 5000 → q ≠ 5001 → AH.get h' q = st.h.get q) → aPut ⟨st.n, st.kb, st.t, h'⟩ dst (.tup []) K) : ACall ⟨Try.prog, tt, w0, base⟩ 190 [.p 640 b 0] st dst K := by
  refine ACall.inline tt_ok Try.func190 (by kernel_rfl) rfl rfl rfl (Nat.le_of_ble_eq_true rfl) 20000 (fun w1 F => ?_)
  simp [g160]
  by_cases hp : P = []
  · have hp0 : ¬ 0 < P.length := by simp [hp]
    simp [hp0, g160]
    by_cases hd : 0 < D
    · simp [hd]
      refine DrawT.introP eok mix [0, 1, 2, 3, 4, 5, 6, 7, 8, 9, 12, 13] [10, 11, 14] [([false, false, true, false, false, false, false, false, false, false, false, false], [true, true, false, true, true, true, true, true, true, true, true, true]), ([false, false, false, false, false, false, false, true, false, false, false, false], [true, true, false, true, true, true, true, false, true, true, true, true]), ([true, false, false, true, true, true, true, false, true, true, true, true], [false, true, false, false, false, false, false, false, false, false, false, false])] [false, true, false, false, false, false, false, false, false, false, false, false] (by kernel_rfl) ?_
      simp [g160, g5000]
      intro b1
      refine ⟨by omega, fun H => hK H _ ?_ ?_ ?_⟩
      · simp [flush3 hp hd]
      · simp [flush3 hp hd, Part.row]
      · intro q q0 q1 q2 q3
        repeat (first | exact rfl | refine (get_miss (by omega)).trans ?_)
    · simp [hd, g160]
      refine hK Hl _ ?_ ?_ ?_
      · simp [flush4 hp hd]
      · simp [flush4 hp hd, g5000]
      · intro q q0 q1 q2 q3
        repeat (first | exact rfl | refine (get_miss (by omega)).trans ?_)
  · have hp0 : 0 < P.length := List.length_pos_iff.2 hp
    simp [hp0]
    refine DrawT.introP eok mix [0, 1, 2, 3, 4, 5, 6, 7, 8, 9, 12, 13] [10, 11, 14] [([false, false, true, false, false, false, false, false, false, false, false, false], [true, true, false, true, true, true, true, true, true, true, true, true]), ([false, false, false, false, false, false, false, true, false, false, false, false], [true, true, false, true, true, true, true, false, true, true, true, true]), ([true, false, false, true, true, true, true, false, true, true, true, true], [false, true, false, false, false, false, false, false, false, false, false, false])] [false, true, false, false, false, false, false, false, false, false, false, false] (by kernel_rfl) ?_
    simp [g160, g5000, g5001]
    intro b1
    refine ⟨by omega, fun H => ?_⟩
    by_cases hd : 0 < D
    · simp [hd]
      refine DrawT.introP eok mix [0, 1, 2, 3, 4, 5, 6, 7, 8, 9, 12, 13] [10, 11, 14] [([false, false, true, false, false, false, false, false, false, false, false, false], [true, true, false, true, true, true, true, true, true, true, true, true]), ([false, false, false, false, false, false, false, true, false, false, false, false], [true, true, false, true, true, true, true, false, true, true, true, true]), ([true, false, false, true, true, true, true, false, true, true, true, true], [false, true, false, false, false, false, false, false, false, false, false, false])] [false, true, false, false, false, false, false, false, false, false, false, false] (by kernel_rfl) ?_
      simp
      intro b2
      refine ⟨by omega, fun H2 => hK H2 _ ?_ ?_ ?_⟩
      · simp [flush1 hp hd]
      · simp [flush1 hp hd, Part.row]
      · intro q q0 q1 q2 q3
        repeat (first | exact rfl | refine (get_miss (by omega)).trans ?_)
    · simp [hd]
      refine hK H _ ?_ ?_ ?_
      · simp [flush2 hp hd]
      · simp [flush2 hp hd, Part.row]
      · intro q q0 q1 q2 q3
        repeat (first | exact rfl | refine (get_miss (by omega)).trans ?_)

theorem specKeep_callD {w0 : World} {base : Bs} {st : ASt} {dst : Option Nat} {K : ASt → Prop} {L : List Part} {P : List Int} {D n : Int} {b : Nat} {Hl Hp : Hd} (hL : L.length ≤ 2 ^ 19) (hP : P.length ≤ 2 ^ 40) (hn0 : 0 < n) (hn : n ≤ 200) (hF : ∀ q ∈ nbFlush L P D, 0 ≤ q.n ∧ q.n ≤ 2 ^ 40)
    (g160 : st.h.get 640 = .vars b 174 [.sl 5000 Hl 3 0 L.length, .sl 5001 Hp 1 0 P.length, .v (.int .i64 D)])
    (g5000 : st.h.get 5000 = .rows Hl 3 (L.map Part.row) true) (g5001 : st.h.get 5001 = .rows Hp 1 (P.map intR) true)
    (hK : ∀ Hl' h', AH.get h' 640 = .vars b 174 [.sl 5000 Hl' 3 0 (nbKeep (nbFlush L P D) n).length, .nil, .v (.int .i64 0)] → AH.get h' 5000 = .rows Hl' 3 ((nbKeep (nbFlush L P D) n).map Part.row) true →
      (∀ q, q < 15000 → q ≠ 640 → q ≠ 5000 → q ≠ 5001 → AH.get h' q = st.h.get q) → aPut ⟨st.n, st.kb, st.t, h'⟩ dst (.tup []) K) : ACall ⟨Try.prog, tt, w0, base⟩ 151 [.p 640 b 0, .v (.int .i64 n)] st dst K := by
  refine ACall.inline tt_ok Try.func151 (by kernel_rfl) rfl rfl rfl (Nat.le_of_ble_eq_true rfl) 30000 (fun w1 F => ?_)
  have n0 : ¬ n = 0 := by omega
  simp [n0]
  refine specFlush_callD (L := L) (P := P) (D := D) (Hl := Hl) (Hp := Hp) (by omega) hP (by simp [g160]) (by simp [g5000]) (by simp [g5001]) (fun Hl' h' k160 k5000 k80 => ?_)
  have f1 := nbFlush_len L P D
  generalize nbFlush L P D = F at f1 hF k160 k5000 hK
  by_cases hF0 : 0 < F.length
  · obtain ⟨m, hm⟩ : ∃ m, F.length = m + 1 := ⟨F.length - 1, by omega⟩
    have hmlt : m < F.length := by omega
    have hmm : (m : Int) < m + 1 := by omega
    have em : Go.IntKind.i64.wrap (m : Int) = m := i64_nat (by omega)
    have hk : nbKeep F n = if F[m].kind = 1 then F.set m ⟨1, F[m].n + n, F[m].signs⟩ else F ++ [⟨1, n, []⟩] := by
      have e0 : F.length - 1 = m := by omega
      simp [nbKeep, hF0, e0]
    have hq := hF _ (List.getElem_mem hmlt)
    have em2 : Go.IntKind.i64.wrap (F[m].n + n) = F[m].n + n := Go.IntWalk.i64_in _ (by omega)
    simp [k160, k5000, hm, em, hmm, Part.row]
    by_cases ck : F[m].kind = 1
    · rw [if_pos ck] at hk
      simp [ck]
      refine DrawT.introP eok mix [0, 1, 2, 3, 4, 5, 6, 7, 8, 9, 10, 11, 12, 13, 14, 15, 16, 17, 18] [19] [([true, false, true, true, true, true, true, true, true, true, true, true, true, true, true, true, true, true, true], [false, true, false, false, false, false, false, false, false, false, false, false, false, false, false, false, false, false, false])] [false, true, false, false, false, false, false, false, false, false, false, false, false, false, false, false, false, false, false] (by kernel_rfl) ?_
      simp [k160, k5000, hm, em, hmm, Part.row, ck, em2]
      have hmod := modify_row (F := F) (m := m) hmlt (g := fun row => putL row 1 [CD.v (Value.int IntKind.i64 (F[m].n + n))]) (p := ⟨1, F[m].n + n, F[m].signs⟩) (by simp [Part.row, ck])
      refine hK Hl' _ ?_ ?_ ?_
      · simp [k160, hk, hm]
      · simp [hk, hmod]
      · intro q q0 q1 q2 q3
        repeat (first | exact k80 q q0 q1 q2 q3 | exact rfl | refine (get_miss (by omega)).trans ?_)
    · rw [if_neg ck] at hk
      simp [ck, k160, k5000, hm]
      intro b1
      refine ⟨by omega, fun H => hK H _ ?_ ?_ ?_⟩
      · simp [hk, hm]
      · simp [hk, Part.row]
      · intro q q0 q1 q2 q3
        repeat (first | exact k80 q q0 q1 q2 q3 | exact rfl | refine (get_miss (by omega)).trans ?_)
  · have hF1 : F = [] := List.eq_nil_of_length_eq_zero (by omega)
    subst hF1
    have hk : nbKeep [] n = [⟨1, n, []⟩] := by simp [nbKeep]
    simp [k160, k5000]
    intro b1 H
    refine hK H _ ?_ ?_ ?_
    · simp [hk]
    · simp [hk, Part.row]
    · intro q q0 q1 q2 q3
      repeat (first | exact k80 q q0 q1 q2 q3 | exact rfl | refine (get_miss (by omega)).trans ?_)

theorem specPut_callD {w0 : World} {base : Bs} {st : ASt} {dst : Option Nat} {K : ASt → Prop} {L : List Part} {P l : List Int} {D : Int} {b : Nat} {Hl Hp : Hd} (hP : P.length ≤ 2 ^ 40) (hl : l.length ≤ 2 ^ 40)
    (g160 : st.h.get 640 = .vars b 174 [.sl 5000 Hl 3 0 L.length, .sl 5001 Hp 1 0 P.length, .v (.int .i64 D)]) (g5001 : st.h.get 5001 = .rows Hp 1 (P.map intR) true)
    (hK : ∀ Hp' h', AH.get h' 640 = .vars b 174 [.sl 5000 Hl 3 0 L.length, .sl 5001 Hp' 1 0 (P ++ l).length, .v (.int .i64 D)] → AH.get h' 5001 = .rows Hp' 1 ((P ++ l).map intR) true → AH.get h' 5000 = st.h.get 5000 →
      (∀ q, q < 15000 → q ≠ 640 → q ≠ 5000 → q ≠ 5001 → AH.get h' q = st.h.get q) → aPut ⟨st.n, st.kb, st.t, h'⟩ dst (.tup []) K) : ACall ⟨Try.prog, tt, w0, base⟩ 148 [.p 640 b 0, .ro (l.map intR)] st dst K := by
  refine ACall.inline tt_ok Try.func148 (by kernel_rfl) rfl rfl rfl (Nat.le_of_ble_eq_true rfl) 30000 (fun w1 F => ?_)
  simp [g160, g5001]
  refine ⟨by omega, fun H => hK H _ ?_ ?_ ?_ ?_⟩
  · simp
  · simp
  · simp
  · intro q q0 q1 q2 q3
    repeat (first | exact rfl | refine (get_miss (by omega)).trans ?_)

theorem specDrop_callD {w0 : World} {base : Bs} {st : ASt} {dst : Option Nat} {K : ASt → Prop} {n D : Int} {b : Nat} {x y : AV} (h0 : 0 ≤ D ∧ D ≤ 2 ^ 40) (h1 : 0 ≤ n ∧ n ≤ 2 ^ 40)
    (g160 : st.h.get 640 = .vars b 174 [x, y, .v (.int .i64 D)])
    (hK : ∀ h', AH.get h' 640 = .vars b 174 [x, y, .v (.int .i64 (D + n))] → (∀ q, q ≠ 640 → AH.get h' q = st.h.get q) → aPut ⟨st.n, st.kb, st.t, h'⟩ dst (.tup []) K) : ACall ⟨Try.prog, tt, w0, base⟩ 147 [.p 640 b 0, .v (.int .i64 n)] st dst K := by
  refine ACall.inline tt_ok Try.func147 (by kernel_rfl) rfl rfl rfl (Nat.le_of_ble_eq_true rfl) 30000 (fun w1 F => ?_)
  have e : Go.IntKind.i64.wrap (D + n) = D + n := Go.IntWalk.i64_in _ (by omega)
  simp [g160, e]
  refine hK _ (by simp) (fun q hq => by simp [hq])


end Go.Proofs.Ytljhopjmmcmioaa
