import Derived.Test.YtljhopjmmcmioaaFRest
import Derived.Test.YtljhopjmmcmioaaMF
namespace Go.Proofs.Ytljhopjmmcmioaa
open Go.AM
set_option maxRecDepth 20000

theorem cut_take (s : List Int) {n : Nat} (h : n ≤ s.length) : cut (s.map intR) 0 n = (s.take n).map intR := by
  unfold cut
  split
  · rename_i h2
    rw [List.take_of_length_le (by simp at h2; omega)]
  · simp [List.map_take]
theorem cut_drop (s : List Int) {n : Nat} : cut (s.map intR) n (s.length - n) = (s.drop n).map intR := by
  unfold cut
  split
  · rename_i h2
    rw [h2.1]; simp
  · rw [List.take_of_length_le (by simp), List.map_drop]

theorem take_call {w0 : World} {base : Bs} {st : ASt} {dst : Option Nat} {K : ASt → Prop} {kx b n : Nat} {p : Part} {l : List Part} (hk : kx < 15000) (hp : partOk p) (hn : n ≤ psz p) (hl : l.length ≤ 2 ^ 20)
    (g : st.h.get kx = .vars b 183 [.ro ((p :: l).map Part.row)])
    (hK : ∀ h', AH.get h' kx = .vars b 183 [.ro ((pleft p n :: l).map Part.row)] → (∀ q, q ≠ kx → q < 15000 → AH.get h' q = st.h.get q) → aPut ⟨st.n, st.kb, st.t, h'⟩ dst (hdV [pcut p n]) K) :
    ACall ⟨Try.prog, tt, w0, base⟩ 156 [.p kx b 0, .v (.int .i64 n)] st dst K := by
  refine ACall.inlineE tt_ok Try.func156 (by kernel_rfl) rfl rfl rfl (Nat.le_of_ble_eq_true rfl) 20000 (fun w1 F => ?_)
  have hps := psz_int hp
  have hb := hp.bounds
  have k0 : ¬ kx = 20064 := by omega
  have k1 : ¬ kx = 20080 := by omega
  have k2 : ¬ kx = 20096 := by omega
  have k3 : ¬ kx = 20112 := by omega
  have k4 : ¬ kx = 20608 := by omega
  have j0 : ¬ 20064 = kx := by omega
  have j1 : ¬ 20080 = kx := by omega
  have j2 : ¬ 20096 = kx := by omega
  have j3 : ¬ 20112 = kx := by omega
  have j4 : ¬ 20608 = kx := by omega
  simp [g, Part.row, k0]
  intro b4 b5
  refine DrawT.cut (fun x : Nat × Nat => ⟨48, 20000, [(0, .p kx b 0), (1, .v (.int .i64 n)), (4, .p 20064 b4 0), (5, .p 20080 b5 0), (6, .p 20096 x.1 0), (7, .p 20112 x.2 0)],
    (20096, .vars x.1 130 [.v (.int .i64 p.kind), .v (.int .i64 p.n), .ro (p.signs.map intR)]) :: (20112, .vars x.2 130 [.v (.int .i64 p.kind), .v (.int .i64 p.n), .ro (p.signs.map intR)]) :: (20080, .vars b5 130 [.v (.int .i64 p.kind), .v (.int .i64 p.n), .ro (p.signs.map intR)]) :: (20064, .vars b4 130 [.v (.int .i64 0), .v (.int .i64 0), .nil]) :: st.h⟩) ?_ ?_
  · refine DrawT.introP2 eok mix [0, 1] 2 3 [4, 5] [([false, false], [true, true]), ([false, false], [true, true]), ([false, true], [true, false]), ([true, false], [false, false])] [false, false] [([false, false], [true, true]), ([false, false], [true, true]), ([false, true], [true, false]), ([true, false], [false, false])] [false, false] (by kernel_rfl) ?_
    simp
    trace_state
  rintro ⟨b6, b7⟩
  simp
  by_cases hk2 : p.kind = 2
  · simp [hk2]
    refine DrawT.introP eok mix [0, 1, 2, 3, 4, 5, 6, 7, 8, 10] [9, 11] [([false, true, false, false, false, false, true, true, true, true], [true, false, true, true, true, true, false, false, false, false]), ([true, false, true, true, true, true, false, false, false, false], [false, false, false, false, false, false, false, false, false, false])] [false, false, false, false, false, false, false, false, false, false] (by kernel_rfl) ?_
    have hns : n ≤ p.signs.length := by have := hb.2.2.2.2.1 hk2; omega
    simp [hns]
    refine DrawT.introP eok mix [0, 1, 3, 4, 5, 6, 7, 9, 10] [2, 8, 11] [([false, false, false, false, false, false, false, true, false], [true, true, true, true, true, true, true, false, true]), ([false, false, true, false, false, false, false, false, false], [true, true, false, true, true, true, true, false, true]), ([true, false, false, true, true, true, true, false, true], [false, true, false, false, false, false, false, false, false])] [false, true, false, false, false, false, false, false, false] (by kernel_rfl) ?_
    have ct : cut ([vi p.kind, vi p.n, CD.s (p.signs.map intR)] :: l.map Part.row) 1 l.length = l.map Part.row := by
      simp [cut]
      exact List.take_of_length_le (by simp)
    have hv : hdV [pcut p n] = .agg [.v (.int .i64 2), .v (.int .i64 p.n), .ro ((p.signs.map intR).take n)] := by simp [hdV, pcut, hk2, List.map_take]
    rw [hv] at hK
    simp [g, Part.row, k0, k1, k2, k3, k4, j0, j3, ct, cut_take p.signs hns, cut_drop p.signs]
    intro b8
    refine ⟨by omega, fun H => ⟨_, HEnt.frz (kx := kx) (b := b) (T := 183) (cells := [.sl 20608 H 3 0 (1 + l.length)]) (j := 0) (k := 20608) (sz := 3) (off := 0) (len := 1 + l.length) (H := H) (rows := (pleft p n).row :: l.map Part.row) (own := false) ?_ rfl ?_ (by simp; omega), ?_⟩⟩
    · simp [k0]
    · simp [j4, Part.row, pleft, hk2]
    · refine hK _ ?_ (fun q q1 q2 => ?_)
      · simp [cut, Nat.add_comm]
      · repeat (first | exact rfl | refine (get_miss (by omega)).trans ?_)
  · simp [hk2]
    refine DrawT.introP eok mix [0, 1, 2, 3, 4, 5, 7] [6, 8] [([false, true, false, false, false, false, true], [true, false, true, true, true, true, false]), ([true, false, true, true, true, true, false], [false, false, false, false, false, false, false])] [false, false, false, false, false, false, false] (by kernel_rfl) ?_
    have e : Go.IntKind.i64.wrap (p.n - (n : Int)) = p.n - n := Go.IntWalk.i64_in _ (by omega)
    simp [e]
    refine DrawT.introP eok mix [0, 1, 3, 4, 5, 6, 7, 9, 10] [2, 8, 11] [([false, false, false, false, false, false, false, true, false], [true, true, true, true, true, true, true, false, true]), ([false, false, true, false, false, false, false, false, false], [true, true, false, true, true, true, true, false, true]), ([true, false, false, true, true, true, true, false, true], [false, true, false, false, false, false, false, false, false])] [false, true, false, false, false, false, false, false, false] (by kernel_rfl) ?_
    have ct : cut ([vi p.kind, vi p.n, CD.s (p.signs.map intR)] :: l.map Part.row) 1 l.length = l.map Part.row := by
      simp [cut]
      exact List.take_of_length_le (by simp)
    have hv : hdV [pcut p n] = .agg [.v (.int .i64 p.kind), .v (.int .i64 n), .ro (p.signs.map intR)] := by simp [hdV, pcut, hk2]
    rw [hv] at hK
    simp [g, Part.row, k0, k1, k2, k3, k4, j0, j3, ct]
    intro b8
    refine ⟨by omega, fun H => ⟨_, HEnt.frz (kx := kx) (b := b) (T := 183) (cells := [.sl 20608 H 3 0 (1 + l.length)]) (j := 0) (k := 20608) (sz := 3) (off := 0) (len := 1 + l.length) (H := H) (rows := (pleft p n).row :: l.map Part.row) (own := false) ?_ rfl ?_ (by simp; omega), ?_⟩⟩
    · simp [k0]
    · simp [j4, Part.row, pleft, hk2]
    · refine hK _ ?_ (fun q q1 q2 => ?_)
      · simp [cut, Nat.add_comm]
      · repeat (first | exact rfl | refine (get_miss (by omega)).trans ?_)
end Go.Proofs.Ytljhopjmmcmioaa
