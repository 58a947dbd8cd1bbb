import Derived.Test.YtdfdabjdfmamgaaGreatKSettle
import Derived.Test.YtdfdabjdfmamgaaGreatPL
import Derived.Test.YtdfdabjdfmamgaaGreatPJ
import Derived.Test.YtdfdabjdfmamgaaGreatNA
import Derived.Test.YtdfdabjdfmamgaaGreatMF
/-
  The law on Settle returns true for every argument; what it was handed reads afterwards as before.
-/
namespace Go.Proofs.YtdfdabjdfmamgaaGreat
open Go.AM Go.ChangeShapes Go.WideShapes Go.ChangeAt Go.RowKit
set_option maxRecDepth 20000

set_option maxHeartbeats 3200000 in
theorem lawSettle_c (a0 : Net) (f0 : a0.fits) : PureC Tryz.prog 12 [.agg a0.row] (.one (.c (.v (.bool true)) 1)) := by
  refine PureC.introL tt_ok Tryz.func12 (by kernel_rfl) rfl rfl rfl (Nat.le_of_ble_eq_true rfl) rfl (fun w0 base us => ?_)
  simp [Net.row]
  intro u0 u1 u2 u3
  try intros
  refine ACall.pure (szNet_c a0 f0 (2 ^ 20) (by omega)) (by simp [Net.row, u0, u1, u2, u3]) ?_
  by_cases k1 : nNet a0 ≤ 2 ^ 20
  rotate_left
  · rw [szR_no k1]; simp
  rw [szR_ok k1]
  obtain ⟨m1, hm1⟩ : ∃ m, 2 ^ 20 - nNet a0 = m := ⟨_, rfl⟩
  rw [hm1]
  have n0 : nNet a0 ≤ 2 ^ 20 := by omega
  simp
  have hs := specSettle_c a0 f0 n0
  have hi := implSettle_c a0 f0 n0
  have hb := fSettle_b a0 f0 n0
  generalize fSettle a0 = r at hs hi hb
  obtain ⟨r0, r1⟩ := r
  simp only at hs hi hb
  have nn0 : nNet a0 ≤ 2 ^ 40 := Nat.le_trans n0 (by decide)
  have := Net.cntT_le a0
  have := Net.cntT_le r0
  refine ACall.pure (toNet_c a0 (by omega)) (by simp [Net.row, u0, u1, u2, u3]) ?_
  simp [Net.res]
  try intros
  refine ACall.pure hs (by simp [Net.row]) ?_
  simp [Net.res]
  try intros
  refine ACall.pure (toNet_c a0 (by omega)) (by simp [Net.row, u0, u1, u2, u3]) ?_
  simp [Net.res]
  try intros
  refine ACall.pure hi (by simp [Net.row]) ?_
  simp [Net.res]
  try intros
  refine ACall.pure (eqNet_c r0 r0 (by omega)) (by simp [Net.row]) ?_
  simp
  refine DrawT.quietH eok mix (by kernel_rfl) ?_
  simp
  refine ⟨_, _, toNet_c a0 (by omega), by simp [Net.row, u0, u1, u2, u3], ?_⟩
  simp [Net.res]
  refine ⟨_, _, eqNet_c a0 a0 (by omega), by simp [Net.row], ?_⟩
  simp
  refine ACall.mark (markNet_c a0 1 (by omega) (by omega) (by omega)) rfl (fun _ h => h) (by simp) ?_
  obtain ⟨c1, hc1⟩ : ∃ c, 1 + ((a0.cntT : Nat) : Int) = c := ⟨_, rfl⟩
  have zc1 : ¬ c1 < 0 := by omega
  simp [Net.markT, Net.res, hc1, zc1]
  refine ACall.pure (eqNet_c r0 r0 (by omega)) (by simp [Net.row]) ?_
  simp
  refine ACall.mark (markNet_c r0 1 (by omega) (by omega) (by omega)) rfl (fun _ h => h) (by simp) ?_
  obtain ⟨c2, hc2⟩ : ∃ c, 1 + ((r0.cntT : Nat) : Int) = c := ⟨_, rfl⟩
  have zc2 : ¬ c2 < 0 := by omega
  simp [Net.markT, Net.res, hc2]
  refine ACall.pure (heldNet_c r0 1 (by omega) (by omega) (by omega)) (by simp [markL_length, Net.row, Net.markT]) ?_
  simp [hc2, zc2]
  refine ACall.pure (toNet_c a0 (by omega)) (by simp [Net.row, u0, u1, u2, u3]) ?_
  simp [Net.res]
  try intros
  refine ACall.pure hi (by simp [Net.row]) ?_
  simp [Net.res]
  try intros
  refine ACall.pure (eqNet_c r0 r0 (by omega)) (by simp [Net.row]) ?_
  simp
  refine ACall.pure (heldNet_c r0 1 (by omega) (by omega) (by omega)) (by simp [markL_length, Net.row, Net.markT]) ?_
  simp [hc2, zc2]

set_option maxRecDepth 100000 in
theorem fnExactSettle_lifted (os : Os) (started : os.Started) (H : Type) (enc : TypeId × Value → H) :
    ReturnsInHanded {} Tryz.checked os 12 .any (Rows.fnExactSettleSpec.pre6 enc Tryz.prog Tryz.f12 Rows.fnExactSettleRow.domain false) (Rows.fnExactSettleSpec.post enc Tryz.prog Tryz.f12 false true false false) := by
  refine returnsInHanded_of_change (C := Tryz.checked) own started (by kernel_rfl) Tryz.func12
    (ChangeSpec.witness6 (enc := enc) (C := Tryz.checked) false ⟨#[], #[.agg #[.string ⟨#[]⟩, .int .i64 0, .slice none 0 0, .slice none 0 0, .slice none 0 0, .slice none 0 0]], []⟩ 12 (by kernel_rfl) (by kernel_rfl) (by kernel_rfl) (by kernel_rfl)) ?_
  intro W base args ds gs before hval hW _ _
  refine law_post (D := 16) laid rfl rfl Tryz.underlying4 (by kernel_rfl) (by kernel_rfl) (fun ds h => ?_) hval hW (fun vds ho => ?_)
  · match ds, h with
    | [d0], _ => rfl
  · have ho0 : Opens Tryz.prog 16 W [29] args.toList vds := ho
    obtain ⟨v0, _, rfl, h0, _, ho1⟩ := ho0.cons
    obtain rfl := ho1.nil
    obtain ⟨x0, rfl, y0⟩ := fitsV_struct Tryz.underlying29 (by rw [cells29]; decide) h0
    obtain ⟨a0, rfl, e0⟩ := fits_Net y0
    exact lawSettle_c a0 e0

theorem fnExactSettle_holds : Rows.FnExactSettleSaid :=
  OpenClaim.holds_of_wide 12 Tryz.f12 rfl rfl rfl rfl rfl rfl rfl ⟨rfl, rfl, rfl, rfl, rfl⟩ rfl rfl rfl rfl rfl (by kernel_rfl) Tryz.func12 joinedSettle
    (of_decide_eq_true (by kernel_rfl)) (by unfold Func.isWrapper; first | (rw [if_pos (by decide +kernel)]; kernel_rfl) | (rw [if_neg (by decide +kernel)]; exact ⟨rfl, rfl⟩))
    (fun os started H enc _ => fnExactSettle_lifted os started H enc)
#print axioms fnExactSettle_holds
end Go.Proofs.YtdfdabjdfmamgaaGreat

