import Derived.Test.YtdfdabjdfmamgaaGreatKWorldNew
import Derived.Test.YtdfdabjdfmamgaaGreatPD
import Derived.Test.YtdfdabjdfmamgaaGreatNB
import Derived.Test.YtdfdabjdfmamgaaGreatMF
/-
  The law on WorldNew returns true for every argument; what it was handed reads afterwards as before.
-/
namespace Go.Proofs.YtdfdabjdfmamgaaGreat
open Go.AM Go.ChangeShapes Go.WideShapes Go.ChangeAt Go.RowKit
set_option maxRecDepth 20000

set_option maxHeartbeats 3200000 in
theorem lawWorldNew_c (a0 : Hub) (f0 : a0.fits) (a1 : Int) (f1 : i64r a1) : PureC Tryz.prog 7 [.agg a0.row, .c (vi a1)] (.one (.c (.v (.bool true)) 1)) := by
  refine PureC.introL tt_ok Tryz.func7 (by kernel_rfl) rfl rfl rfl (Nat.le_of_ble_eq_true rfl) rfl (fun w0 base us => ?_)
  simp [Hub.row]
  intro u0 u1
  try intros
  refine ACall.pure (szHub_c a0 f0 (2 ^ 20) (by omega)) (by simp [Hub.row, u0, u1]) ?_
  by_cases k1 : nHub a0 ≤ 2 ^ 20
  rotate_left
  · rw [szR_no k1]; simp
  rw [szR_ok k1]
  obtain ⟨m1, hm1⟩ : ∃ m, 2 ^ 20 - nHub a0 = m := ⟨_, rfl⟩
  rw [hm1]
  have n0 : nHub a0 ≤ 2 ^ 20 := by omega
  simp
  have hs := specWorldNew_c a0 f0 n0 a1 f1
  have hi := implWorldNew_c a0 f0 n0 a1 f1
  have hb := fWorldNew_b a0 f0 n0 a1 f1
  generalize fWorldNew a0 a1 = r at hs hi hb
  obtain ⟨r0, r1⟩ := r
  simp only at hs hi hb
  have nn0 : nHub a0 ≤ 2 ^ 40 := Nat.le_trans n0 (by decide)
  have := Hub.cntT_le a0
  have := Wld.cntT_le r0
  refine ACall.pure (toHub_c a0 (by omega)) (by simp [Hub.row, u0, u1]) ?_
  simp [Hub.res]
  try intros
  refine ACall.pure hs (by simp [Hub.row]) ?_
  simp [Wld.res]
  try intros
  refine ACall.pure (toHub_c a0 (by omega)) (by simp [Hub.row, u0, u1]) ?_
  simp [Hub.res]
  try intros
  refine ACall.pure hi (by simp [Hub.row]) ?_
  simp [Wld.res]
  try intros
  refine ACall.pure (eqWorld_c r0 r0 (by omega)) (by simp [Wld.row]) ?_
  simp
  refine DrawT.quietH eok mix (by kernel_rfl) ?_
  simp
  refine ⟨_, _, toHub_c a0 (by omega), by simp [Hub.row, u0, u1], ?_⟩
  simp [Hub.res]
  refine ⟨_, _, eqHub_c a0 a0 (by omega), by simp [Hub.row], ?_⟩
  simp
  refine ACall.mark (markHub_c a0 1 (by omega) (by omega) (by omega)) rfl (fun _ h => h) (by simp) ?_
  obtain ⟨c1, hc1⟩ : ∃ c, 1 + ((a0.cntT : Nat) : Int) = c := ⟨_, rfl⟩
  have zc1 : ¬ c1 < 0 := by omega
  simp [Hub.markT, Hub.res, hc1, zc1]
  refine ACall.pure (eqWorld_c r0 r0 (by omega)) (by simp [Wld.row]) ?_
  simp
  refine ACall.mark (markWorld_c r0 1 (by omega) (by omega) (by omega)) rfl (fun _ h => h) (by simp) ?_
  obtain ⟨c2, hc2⟩ : ∃ c, 1 + ((r0.cntT : Nat) : Int) = c := ⟨_, rfl⟩
  have zc2 : ¬ c2 < 0 := by omega
  simp [Wld.markT, Wld.res, hc2]
  refine ACall.pure (heldWorld_c r0 1 (by omega) (by omega) (by omega)) (by simp [markL_length, Wld.row, Wld.markT]) ?_
  simp [hc2, zc2]
  refine ACall.pure (toHub_c a0 (by omega)) (by simp [Hub.row, u0, u1]) ?_
  simp [Hub.res]
  try intros
  refine ACall.pure hi (by simp [Hub.row]) ?_
  simp [Wld.res]
  try intros
  refine ACall.pure (eqWorld_c r0 r0 (by omega)) (by simp [Wld.row]) ?_
  simp
  refine ACall.pure (heldWorld_c r0 1 (by omega) (by omega) (by omega)) (by simp [markL_length, Wld.row, Wld.markT]) ?_
  simp [hc2, zc2]

set_option maxRecDepth 100000 in
theorem fnExactWorldNew_lifted (os : Os) (started : os.Started) (H : Type) (enc : TypeId × Value → H) :
    ReturnsInHanded {} Tryz.checked os 7 .any (Rows.fnExactWorldNewSpec.pre6 enc Tryz.prog Tryz.f7 Rows.fnExactWorldNewRow.domain false) (Rows.fnExactWorldNewSpec.post enc Tryz.prog Tryz.f7 false true false false) := by
  refine returnsInHanded_of_change (C := Tryz.checked) own started (by kernel_rfl) Tryz.func7
    (ChangeSpec.witness6 (enc := enc) (C := Tryz.checked) false ⟨#[], #[.agg #[.bool false, .slice none 0 0, .slice none 0 0, .int .i64 0], .int .i64 0], []⟩ 12 (by kernel_rfl) (by kernel_rfl) (by kernel_rfl) (by kernel_rfl)) ?_
  intro W base args ds gs before hval hW _ _
  refine law_post (D := 16) laid rfl rfl Tryz.underlying4 (by kernel_rfl) (by kernel_rfl) (fun ds h => ?_) hval hW (fun vds ho => ?_)
  · match ds, h with
    | [d0, d1], _ => rfl
  · have ho0 : Opens Tryz.prog 16 W [55, 3] args.toList vds := ho
    obtain ⟨v0, _, rfl, h0, _, ho1⟩ := ho0.cons
    obtain ⟨v1, _, rfl, h1, _, ho2⟩ := ho1.cons
    obtain rfl := ho2.nil
    obtain ⟨x0, rfl, y0⟩ := fitsV_struct Tryz.underlying55 (by rw [cells55]; decide) h0
    obtain ⟨a0, rfl, e0⟩ := fits_Hub y0
    obtain ⟨a1, rfl, e1⟩ := fitsV_i64 Tryz.underlying3 h1
    exact lawWorldNew_c a0 e0 a1 e1

theorem fnExactWorldNew_holds : Rows.FnExactWorldNewSaid :=
  OpenClaim.holds_of_wide 7 Tryz.f7 rfl rfl rfl rfl rfl rfl rfl ⟨rfl, rfl, rfl, rfl, rfl⟩ rfl rfl rfl rfl rfl (by kernel_rfl) Tryz.func7 joinedWorldNew
    (of_decide_eq_true (by kernel_rfl)) (by unfold Func.isWrapper; first | (rw [if_pos (by decide +kernel)]; kernel_rfl) | (rw [if_neg (by decide +kernel)]; exact ⟨rfl, rfl⟩))
    (fun os started H enc _ => fnExactWorldNew_lifted os started H enc)
#print axioms fnExactWorldNew_holds
end Go.Proofs.YtdfdabjdfmamgaaGreat

