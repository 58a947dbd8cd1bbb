import Derived.Test.YtljhopjmmcmioaaFCur
import Derived.Test.YtljhopjmmcmioaaFBld
import Derived.Test.YtljhopjmmcmioaaMF
namespace Go.Proofs.Ytljhopjmmcmioaa
open Go.AM
set_option maxRecDepth 20000

theorem implSize_c (p : Part) (h : partOk p) : PureC Try.prog 155 [.agg p.row] (.one (.c (vi (psz p)) 1)) := by
  refine PureC.intro' tt_ok Try.func155 (by kernel_rfl) rfl rfl rfl (Nat.le_of_ble_eq_true rfl) (fun w0 base => ?_)
  have hp := psz_int h
  have e : Go.IntKind.i64.wrap (p.n + (p.signs.length : Int)) = p.n + p.signs.length := Go.IntWalk.i64_in _ (by omega)
  rw [hp.1]
  simp [Part.row, e]

def hdV : List Part → AV
  | [] => .agg [.v (.int .i64 0), .v (.int .i64 0), .nil]
  | p :: _ => .agg [.v (.int .i64 p.kind), .v (.int .i64 p.n), .ro (p.signs.map intR)]

theorem next_call {w0 : World} {base : Bs} {st : ASt} {dst : Option Nat} {K : ASt → Prop} {kx b kb : Nat} {l : List Part} (hk : kx + 16 < kb) (hs : ∀ p ∈ l, partOk p)
    (g : st.h.get kx = .vars b 183 [.ro (l.map Part.row)])
    (hK : ∀ h', AH.get h' kx = .vars b 183 [.ro ((nxt l).map Part.row)] → (∀ q, q ≠ kx → q < kb → AH.get h' q = st.h.get q) → aPut ⟨st.n, st.kb, st.t, h'⟩ dst (hdV (nxt l)) K) :
    ACall ⟨Try.prog, tt, w0, base⟩ 153 [.p kx b 0] st dst K := by
  refine ACall.inline tt_ok Try.func153 (by kernel_rfl) rfl rfl rfl (Nat.le_of_ble_eq_true rfl) kb (fun w1 F => ?_)
  simp
  intro b2
  have hkk : ¬ kx = kb + 32 := by omega
  have hkk2 : ¬ kb + 32 = kx := by omega
  refine LoopT.introW eok (fun m : List Part => nxt m = nxt l ∧ ∀ p ∈ m, p ∈ l) (fun m => ⟨40, kb, [(0, .p kx b 0), (2, .p (kb + 32) b2 0)], (kx, .vars b 183 [.ro (m.map Part.row)]) :: (kb + 32, .vars b2 130 [.v (.int .i64 0), .v (.int .i64 0), .nil]) :: st.h⟩) (fun m => m.length) l ⟨rfl, fun _ h => h⟩ (by simp [hkk, g]) (fun m hm => ?_)
  · cases m with
    | nil =>
      have hn : nxt l = [] := by rw [← hm.1]; rfl
      rw [hn] at hK
      simp [hkk2]
      refine hK _ (by simp [hkk]) (fun q q1 q2 => ?_)
      repeat (first | exact rfl | refine (get_miss (by omega)).trans ?_)
    | cons p m =>
      have hp := hs p (hm.2 p (List.mem_cons_self ..))
      simp [Part.row]
      refine ACall.pure (implSize_c p hp) (by simp [Part.row]) ?_
      by_cases hz : psz p = 0
      · simp [hz, hkk, hkk2]
        refine ⟨m, ⟨by rw [← hm.1]; simp [nxt, hz], fun q hq => hm.2 q (List.mem_cons_of_mem _ hq)⟩, by omega, ?_⟩
        simp [cut]
        exact List.take_of_length_le (by simp)
      · have hn : nxt l = p :: m := by rw [← hm.1]; simp [nxt, hz]
        rw [hn] at hK
        have hm0 : ¬ (m.length : Int) + 1 = 0 := by omega
        simp [hz, hkk2, hm0]
        refine hK _ ?_ (fun q q1 q2 => ?_)
        · simp [hkk, Part.row]
        repeat (first | exact rfl | refine (get_miss (by omega)).trans ?_)
end Go.Proofs.Ytljhopjmmcmioaa
