import Derived.Test.YtdfdabjdfmamgaaGreatKAble
import Derived.Test.YtdfdabjdfmamgaaGreatPN
import Derived.Test.YtdfdabjdfmamgaaGreatNB
import Derived.Test.YtdfdabjdfmamgaaGreatMF
namespace Go.Proofs.YtdfdabjdfmamgaaGreat
open Go.AM Go.ChangeShapes Go.WideShapes Go.ChangeAt Go.RowKit
set_option maxRecDepth 20000
set_option maxHeartbeats 3200000 in
theorem lawAble_c (a0 : Wld) (f0 : a0.fits) : PureC Tryz.prog 14 [.agg a0.row] (.one (.c (.v (.bool true)) 1)) := by
  refine PureC.introL tt_ok Tryz.func14 (by kernel_rfl) rfl rfl rfl (Nat.le_of_ble_eq_true rfl) rfl (fun w0 base us => ?_); simp [Wld.row]; intro u0 u1 u2 u3 u4
  try intros
  refine ACall.pure (szWorld_c a0 f0 (2 ^ 20) (by omega)) (by simp [Wld.row, u0, u1, u2, u3, u4]) ?_; by_cases k1 : nWorld a0 ≤ 2 ^ 20
  rotate_left
  · rw [szR_no k1]; simp
  rw [szR_ok k1]; obtain ⟨m1, hm1⟩ : ∃ m, 2 ^ 20 - nWorld a0 = m := ⟨_, rfl⟩; rw [hm1]; have n0 : nWorld a0 ≤ 2 ^ 20 := by omega
  simp; have hs := specAble_c a0 f0 n0; have hi := implAble_c a0 f0 n0; have hb := fAble_b a0 f0 n0; generalize fAble a0 = r at hs hi hb; have nn0 : nWorld a0 ≤ 2 ^ 40 := Nat.le_trans n0 (by decide); have := Wld.cntT_le a0; refine ACall.pure (toWorld_c a0 (by omega)) (by simp [Wld.row, u0, u1, u2, u3, u4]) ?_; simp [Wld.res]
  try intros
  refine ACall.pure hs (by simp [Wld.row]) ?_; simp
  try intros
  refine ACall.pure (toWorld_c a0 (by omega)) (by simp [Wld.row, u0, u1, u2, u3, u4]) ?_; simp [Wld.res]
  try intros
  refine ACall.pure hi (by simp [Wld.row]) ?_; simp
  try intros
  refine ACall.pure (eqIntS_c r r (by omega)) (by simp) ?_; simp; refine DrawT.quietH eok mix (by kernel_rfl) ?_; simp; refine ⟨_, _, toWorld_c a0 (by omega), by simp [Wld.row, u0, u1, u2, u3, u4], ?_⟩; simp [Wld.res]; refine ⟨_, _, eqWorld_c a0 a0 (by omega), by simp [Wld.row], ?_⟩; simp; refine ACall.mark (markWorld_c a0 1 (by omega) (by omega) (by omega)) rfl (fun _ h => h) (by simp) ?_; obtain ⟨c1, hc1⟩ : ∃ c, 1 + ((a0.cntT : Nat) : Int) = c := ⟨_, rfl⟩; have zc1 : ¬ c1 < 0 := by omega
  simp [Wld.markT, Wld.res, hc1, zc1]; refine ACall.pure (eqIntS_c r r (by omega)) (by simp) ?_; simp; refine ACall.mark (markIntS_c r 1 (by omega) (by omega)) rfl (fun _ h => h) (by simp) ?_; obtain ⟨c2, hc2⟩ : ∃ c, 1 + ((r.length : Nat) : Int) = c := ⟨_, rfl⟩; have zc2 : ¬ c2 < 0 := by omega
  simp [hc2]; refine ACall.pure (heldIntS_c r 1 (by omega) (by omega)) (by simp [markL_length]) ?_; simp [hc2, zc2]; refine ACall.pure (toWorld_c a0 (by omega)) (by simp [Wld.row, u0, u1, u2, u3, u4]) ?_; simp [Wld.res]
  try intros
  refine ACall.pure hi (by simp [Wld.row]) ?_; simp
  try intros
  refine ACall.pure (eqIntS_c r r (by omega)) (by simp) ?_; simp; refine ACall.pure (heldIntS_c r 1 (by omega) (by omega)) (by simp [markL_length]) ?_; simp [hc2, zc2]
set_option maxRecDepth 100000 in
theorem fnExactAble_lifted (os : Os) (started : os.Started) (H : Type) (enc : TypeId × Value → H) :
    ReturnsInHanded {} Tryz.checked os 14 .any (Rows.fnExactAbleSpec.pre6 enc Tryz.prog Tryz.f14 Rows.fnExactAbleRow.domain false) (Rows.fnExactAbleSpec.post enc Tryz.prog Tryz.f14 false true false false) := by
  refine returnsInHanded_of_change (C := Tryz.checked) own started (by kernel_rfl) Tryz.func14
    (ChangeSpec.witness6 (enc := enc) (C := Tryz.checked) false ⟨#[], #[.agg #[.bool false, .slice none 0 0, .slice none 0 0, .int .i64 0, .slice none 0 0, .slice none 0 0, .slice none 0 0, .int .i64 0]], []⟩ 12 (by kernel_rfl) (by kernel_rfl) (by kernel_rfl) (by kernel_rfl)) ?_
  intro W base args ds gs before hval hW _ _; refine law_post (D := 16) laid rfl rfl Tryz.underlying4 (by kernel_rfl) (by kernel_rfl) (fun ds h => ?_) hval hW (fun vds ho => ?_)
  · match ds, h with
    | [d0], _ => rfl
  · have ho0 : Opens Tryz.prog 16 W [65] args.toList vds := ho
    obtain ⟨v0, _, rfl, h0, _, ho1⟩ := ho0.cons; obtain rfl := ho1.nil; obtain ⟨x0, rfl, y0⟩ := fitsV_struct Tryz.underlying65 (by rw [cells65]; decide) h0; obtain ⟨a0, rfl, e0⟩ := fits_World y0; exact lawAble_c a0 e0
theorem fnExactAble_holds : Rows.FnExactAbleSaid :=
  OpenClaim.holds_of_wide 14 Tryz.f14 rfl rfl rfl rfl rfl rfl rfl ⟨rfl, rfl, rfl, rfl, rfl⟩ rfl rfl rfl rfl rfl (by kernel_rfl) Tryz.func14 joinedAble
    (of_decide_eq_true (by kernel_rfl)) (by unfold Func.isWrapper; first | (rw [if_pos (by decide +kernel)]; kernel_rfl) | (rw [if_neg (by decide +kernel)]; exact ⟨rfl, rfl⟩))
    (fun os started H enc _ => fnExactAble_lifted os started H enc)
#print axioms fnExactAble_holds
end Go.Proofs.YtdfdabjdfmamgaaGreat

