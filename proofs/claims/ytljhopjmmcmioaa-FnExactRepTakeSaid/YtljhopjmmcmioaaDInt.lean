import Derived.Test.YtljhopjmmcmioaaDT
import Derived.Test.YtljhopjmmcmioaaDat
namespace Go.Proofs.Ytljhopjmmcmioaa
open Go.AM
set_option maxRecDepth 20000
theorem mix : Try.prog.follows .mixedOrders = true := by kernel_rfl

theorem szIntS_c (l : List Int) (hl : l.length ≤ 9223372036854775807) (left : Nat) (hf : left ≤ 2 ^ 20) : PureC Try.prog 58 [.c (.s (l.map intR)), .c (vi left)] (.one (.c (vi (szR l.length left)) 1)) := by
  refine PureC.intro' tt_ok Try.func58 (by kernel_rfl) rfl rfl rfl (Nat.le_of_ble_eq_true rfl) (fun w0 base => ?_)
  have hw : IntKind.i64.wrap ((left : Int) - (l.length : Int)) = (left : Int) - l.length := IntWalk.i64_in _ (by omega)
  simp [hw]
  by_cases h : l.length ≤ left
  · have hz : ¬ (left : Int) - l.length < 0 := by omega
    simp [hz, szR_ok h]
    omega
  · have hz : (left : Int) - l.length < 0 := by omega
    simp [hz, szR_no h]

theorem toIntS_c (l : List Int) (hl : l.length ≤ 2 ^ 40) : PureC Try.prog 39 [.c (.s (l.map intR))] (.one (.c (.s (l.map intR)) 1)) := by
  refine PureC.intro' tt_ok Try.func39 (by kernel_rfl) rfl rfl rfl (Nat.le_of_ble_eq_true rfl) (fun w0 base => ?_)
  simp
  refine ⟨by omega, fun b => ?_⟩
  refine LoopT.intro eok (fun i : Nat => i ≤ l.length) (fun i => ⟨22, 0, [(4, .v (.int .i64 i)), (3, .sl 112 (some (b, 0, l.length)) 1 0 l.length), (0, .ro (l.map intR))],
    [(112, .rows (some (b, 0, l.length)) 1 (fillR intR [.v (.int .i64 0)] l i) true)]⟩) (fun i => l.length - i) 0 (by simp) (by simp [fillR_0]) (fun i hi => ?_)
  by_cases h : i < l.length
  · simp [h, fillR_length hi]
    exact ⟨i + 1, by omega, by omega, i64_suc (by omega), fillR_set (f := intR) h⟩
  · have : i = l.length := by omega
    subst this
    simp [fillR_all, cut]

theorem eqIntS_c (a b : List Int) (hl : a.length ≤ 2 ^ 40) : PureC Try.prog 41 [.c (.s (a.map intR)), .c (.s (b.map intR))] (.one (.c (vb (a = b)) 1)) := by
  refine PureC.intro' tt_ok Try.func41 (by kernel_rfl) rfl rfl rfl (Nat.le_of_ble_eq_true rfl) (fun w0 base => ?_)
  by_cases h : a.length = b.length
  · simp [h]
    refine LoopT.intro eok (fun i : Nat => i ≤ a.length ∧ a.take i = b.take i) (fun i => ⟨26, 0, [(5, .v (.int .i64 i)), (1, .ro (b.map intR)), (0, .ro (a.map intR))], []⟩) (fun i => a.length - i) 0 (by simp) (by simp) (fun i hi => ?_)
    by_cases hlt : i < a.length
    · simp [hlt]
      have hlt' : i < b.length := by omega
      refine DrawT.quiet eok mix (by kernel_rfl) ?_
      simp [hlt, hlt']
      refine Br.mk (fun h1 => ?_) (fun h1 => ?_)
      · simp
        exact ⟨i + 1, ⟨by omega, take_next hlt hlt' hi.2 (of_yes h1)⟩, by omega, i64_suc (by omega)⟩
      · simp [dc_no]
        exact ne_at hlt hlt' (fun he => of_no h1 (by rw [he]))
    · simp [hlt, dc_yes]
      exact take_all (by omega) (by omega) hi.2
  · have hz : ¬ (a.length : Int) = b.length := by omega
    simp [hz, dc_no]
    exact fun h2 => absurd (by rw [h2]) h

theorem markIntS_c (l : List Int) (k : Int) (h0 : 0 ≤ k) (hk : k + l.length ≤ 4611686018427387904) : MarkC Try.prog 42 (.c (.s (l.map intR)) 1) k (k + l.length) (.c (.s ((markL intM one l k).map intR)) 1) := by
  refine MarkC.intro tt_ok Try.func42 (by kernel_rfl) rfl rfl rfl (by decide) (fun w0 base => ?_)
  simp
  intro H
  refine LoopT.introG eok (fun i : Nat => i ≤ l.length) (fun i => ⟨19, 0, [(5, .v (.int .i64 i)), (1, .v (.int .i64 (k + i))), (0, .ml 0 H 1 l.length)], [(0, .rows H 1 (marked intM one intR l k i) true)]⟩) (fun i => l.length - i) 0 (by simp) (by simp [marked_0]) (fun i hi => Ent.refl ?_)
  by_cases h : i < l.length
  · simp [h, marked_length]
    refine Ent.refl ⟨i + 1, by omega, by omega, ?_⟩
    have e1 : Go.IntKind.i64.wrap (k + (i : Int) + 1) = k + ((i + 1 : Nat) : Int) := by rw [Go.IntWalk.i64_in _ (by omega)]; omega
    have e2 : Go.IntKind.i64.wrap ((i : Int) + 1) = ((i + 1 : Nat) : Int) := i64_suc (by omega)
    simp [e1, e2]
    refine marked_set h ?_
    simp [intR, cntL_one]
    omega
  · have : i = l.length := by omega
    subst this
    simp [marked_all, markL_length]

theorem heldIntS_c (l : List Int) (k : Int) (h0 : 0 ≤ k) (hk : k + l.length ≤ 4611686018427387904) : PureC Try.prog 72 [.c (.s ((markL intM one l k).map intR)), .c (vi k)] (.one (.c (vi (k + l.length)) 1)) := by
  refine PureC.intro' tt_ok Try.func72 (by kernel_rfl) rfl rfl rfl (Nat.le_of_ble_eq_true rfl) (fun w0 base => ?_)
  simp
  refine LoopT.intro eok (fun i : Nat => i ≤ l.length) (fun i => ⟨21, 0, [(5, .v (.int .i64 i)), (1, .v (.int .i64 (k + i))), (0, .ro ((markL intM one l k).map intR))], []⟩) (fun i => l.length - i) 0 (by simp) (by simp) (fun i hi => ?_)
  by_cases h : i < l.length
  · have e1 : Go.IntKind.i64.wrap (k + (i : Int) + 1) = k + ((i + 1 : Nat) : Int) := by rw [Go.IntWalk.i64_in _ (by omega)]; omega
    have e2 : Go.IntKind.i64.wrap ((i : Int) + 1) = ((i + 1 : Nat) : Int) := i64_suc (by omega)
    have hm : (markL intM one l k)[i]'(by rw [markL_length]; exact h) = k + i := by
      rw [markL_cell h, cntL_one, List.length_take, Nat.min_eq_left (by omega)]
    simp [h, markL_length, hm]
    refine ⟨i + 1, by omega, by omega, ?_, ?_⟩
    · exact e2
    · exact e1
  · have : i = l.length := by omega
    subst this
    simp [markL_length]
end Go.Proofs.Ytljhopjmmcmioaa
