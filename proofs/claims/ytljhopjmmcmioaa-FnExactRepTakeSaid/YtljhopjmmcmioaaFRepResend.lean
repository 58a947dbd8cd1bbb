import Derived.Test.YtljhopjmmcmioaaFRepNew
import Derived.Test.YtljhopjmmcmioaaDCall
namespace Go.Proofs.Ytljhopjmmcmioaa
open Go.AM
set_option maxRecDepth 20000

theorem take_snoc {α β : Type} {f : α → β} {l : List α} {i : Nat} (h : i < l.length) : List.take i (l.map f) ++ [f l[i]] = List.take (i + 1) (l.map f) := by
  rw [List.take_add_one]; simp [h]

theorem copyOp_c (o : List Part) (hl : nL nPart o ≤ 2 ^ 30) : PureC Try.prog 140 [.c (.s (o.map Part.row))] (.one (.c (.s (o.map Part.row)) 3)) := by
  refine PureC.intro' tt_ok Try.func140 (by kernel_rfl) rfl rfl rfl (Nat.le_of_ble_eq_true rfl) (fun w0 base => ?_)
  have hle := nL_len hl
  simp
  refine LoopT.intro eok (fun x : Nat × Hd => x.1 ≤ o.length) (fun x => ⟨22, 0, [(8, .v (.int .i64 x.1)), (7, .v (.int .i64 o.length)), (6, .ro (o.map Part.row)), (3, .sl 304 x.2 3 0 x.1)], [(304, .rows x.2 3 ((o.take x.1).map Part.row) true)]⟩) (fun x => o.length - x.1) (0, none) (by simp) (by simp) (fun x hi => ?_)
  obtain ⟨i, H⟩ := x
  simp only at hi ⊢
  by_cases h : i < o.length
  · have e : Go.IntKind.i64.wrap ((i : Int) + 1) = ((i + 1 : Nat) : Int) := i64_suc (by omega)
    have hm : min i o.length = i := by omega
    have hs := nL_at hl h
    simp [h, Part.row]
    intro b5
    refine ACall.pure (copyInts_c o[i].signs (by unfold nPart at hs; omega)) (by simp) ?_
    simp [hm]
    exact ⟨by omega, fun H3 => ⟨i + 1, by omega, by omega, H3, ⟨e, rfl, rfl⟩, rfl, take_snoc (f := Part.row) h⟩⟩
  · have : i = o.length := by omega
    subst this
    simp [cut]

theorem l02Copy_c (o : List Part) (hl : nL nPart o ≤ 2 ^ 30) : PureC Try.prog 62 [.c (.s (o.map Part.row))] (.one (.c (.s (o.map Part.row)) 3)) := by
  refine PureC.intro' tt_ok Try.func62 (by kernel_rfl) rfl rfl rfl (Nat.le_of_ble_eq_true rfl) (fun w0 base => ?_)
  have hle := nL_len hl
  simp
  intro b
  refine LoopT.intro eok (fun x : Nat × Hd => x.1 ≤ o.length) (fun x => ⟨27, 0, [(9, .v (.int .i64 x.1)), (8, .v (.int .i64 o.length)), (7, .ro (o.map Part.row)), (3, .sl 96 x.2 3 0 x.1)], [(96, .rows x.2 3 ((o.take x.1).map Part.row) true)]⟩) (fun x => o.length - x.1) (0, some (b, 0, 0)) (by simp) (by simp) (fun x hi => ?_)
  obtain ⟨i, H⟩ := x
  simp only at hi ⊢
  by_cases h : i < o.length
  · have e : Go.IntKind.i64.wrap ((i : Int) + 1) = ((i + 1 : Nat) : Int) := i64_suc (by omega)
    have hm : min i o.length = i := by omega
    have hs := nL_at hl h
    unfold nPart at hs
    simp [h, Part.row]
    intro b5
    refine DrawT.introP eok mix [0, 1, 2, 3, 4, 6, 7] [5, 8, 9, 10, 11, 12] [([false, false, false, false, false, false, false], [true, true, true, true, true, true, true]), ([true, false, false, false, false, false, false], [false, true, true, true, true, true, true]), ([false, false, true, false, true, false, false], [false, true, false, true, false, true, true]), ([false, false, false, false, false, false, false], [false, true, false, true, false, true, true]), ([false, false, false, false, false, false, true], [false, true, false, true, false, true, false]), ([false, true, false, true, false, true, false], [false, false, false, false, false, false, false])] [false, false, false, false, false, false, false] (by kernel_rfl) ?_
    simp [hm]
    exact ⟨by omega, by omega, fun H3 => ⟨i + 1, by omega, by omega, H3, ⟨e, rfl, rfl⟩, rfl, take_snoc (f := Part.row) h⟩⟩
  · have : i = o.length := by omega
    subst this
    simp [cut]

def Call.zero : Call := ⟨0, ⟨#[]⟩, 0, 0, 0, [], []⟩
def submit (r : Rep) : Call := ⟨2, ⟨#[]⟩, r.client, r.seq, r.rev, r.sent, []⟩
theorem submitOf_c (r : Rep) (hl : nRep r ≤ 2 ^ 30) : PureC Try.prog 71 [.agg r.row] (.one (.agg (submit r).res)) := by
  refine PureC.intro' tt_ok Try.func71 (by kernel_rfl) rfl rfl rfl (Nat.le_of_ble_eq_true rfl) (fun w0 base => ?_)
  unfold nRep at hl
  simp [Rep.row]
  intros
  refine DrawT.introP eok mix [0, 1, 2, 3, 4, 5, 6, 7] [8, 9, 10] [([true, false, false, false, false, false, false, false], [false, true, true, true, true, true, true, true]), ([false, false, true, false, true, false, true, false], [false, true, false, true, false, true, false, true]), ([false, true, false, true, false, true, false, true], [false, false, false, false, false, false, false, false])] [false, false, false, false, false, false, false, false] (by kernel_rfl) ?_
  simp
  refine ACall.pure (copyOp_c r.sent (by omega)) (by simp) ?_
  simp [submit, Call.res]
theorem l17Call_c (r : Rep) (hl : nRep r ≤ 2 ^ 30) : PureC Try.prog 65 [.agg r.row] (.one (.agg (submit r).res)) := by
  refine PureC.intro' tt_ok Try.func65 (by kernel_rfl) rfl rfl rfl (Nat.le_of_ble_eq_true rfl) (fun w0 base => ?_)
  unfold nRep at hl
  simp [Rep.row]
  intros
  refine DrawT.introP eok mix [0, 1, 2, 3, 4, 5, 6, 7] [8, 9, 10] [([true, false, false, false, false, false, false, false], [false, true, true, true, true, true, true, true]), ([false, false, true, false, true, false, true, false], [false, true, false, true, false, true, false, true]), ([false, true, false, true, false, true, false, true], [false, false, false, false, false, false, false, false])] [false, false, false, false, false, false, false, false] (by kernel_rfl) ?_
  simp
  refine ACall.pure (l02Copy_c r.sent (by omega)) (by simp) ?_
  simp [submit, Call.res]

theorem Call.zero_n : nCall Call.zero = 0 := rfl
theorem submit_n (r : Rep) : nCall (submit r) ≤ nRep r := by
  unfold nCall submit nRep
  simp only [List.length_nil]
  have : ByteArray.size ⟨#[]⟩ = 0 := rfl
  omega
end Go.Proofs.Ytljhopjmmcmioaa
