import Derived.Test.YtdfdabjdfmamgaaGreatKNetAll
import Derived.Test.YtdfdabjdfmamgaaGreatPK
import Derived.Test.YtdfdabjdfmamgaaGreatPJ
import Derived.Test.YtdfdabjdfmamgaaGreatNA
import Derived.Test.YtdfdabjdfmamgaaGreatMF
/-
  The law on NetAll returns true for every argument; what it was handed reads afterwards as before.
-/
namespace Go.Proofs.YtdfdabjdfmamgaaGreat
open Go.AM Go.ChangeShapes Go.WideShapes Go.ChangeAt Go.RowKit
set_option maxRecDepth 20000

set_option maxHeartbeats 3200000 in
theorem lawNetAll_c (a0 : Net) (f0 : a0.fits) (a1 : List Event) (f1 : (a1.length ≤ 9223372036854775807 ∧ ∀ y ∈ a1, y.fits)) : PureC Tryz.prog 13 [.agg a0.row, .c (.s (a1.map Event.row))] (.one (.c (.v (.bool true)) 1)) := by
  refine PureC.introL tt_ok Tryz.func13 (by kernel_rfl) rfl rfl rfl (Nat.le_of_ble_eq_true rfl) rfl (fun w0 base us => ?_)
  simp [Net.row]
  intro u0 u1 u2 u3 u4
  try intros
  refine ACall.pure (szNet_c a0 f0 (2 ^ 20) (by omega)) (by simp [Net.row, u0, u1, u2, u3]) ?_
  by_cases k1 : nNet a0 ≤ 2 ^ 20
  rotate_left
  · rw [szR_no k1]; simp
  rw [szR_ok k1]
  obtain ⟨m1, hm1⟩ : ∃ m, 2 ^ 20 - nNet a0 = m := ⟨_, rfl⟩
  rw [hm1]
  have n0 : nNet a0 ≤ 2 ^ 20 := by omega
  simp
  refine ACall.pure (szEventS_c a1 f1.1 f1.2 (m1) (by omega)) (by simp [u4]) ?_
  by_cases k2 : nL nEvent a1 ≤ m1
  rotate_left
  · rw [szR_no k2]; simp
  rw [szR_ok k2]
  obtain ⟨m2, hm2⟩ : ∃ m, m1 - nL nEvent a1 = m := ⟨_, rfl⟩
  rw [hm2]
  have n1 : nL nEvent a1 ≤ 2 ^ 20 := by omega
  simp
  have hs := specNetAll_c a0 f0 n0 a1 f1 n1
  have hi := implNetAll_c a0 f0 n0 a1 f1 n1
  have hb := fNetAll_b a0 f0 n0 a1 f1 n1
  generalize fNetAll a0 a1 = r at hs hi hb
  obtain ⟨r0, r1⟩ := r
  simp only at hs hi hb
  obtain ⟨b0, b1⟩ := hb
  have nn0 : nNet a0 ≤ 2 ^ 40 := Nat.le_trans n0 (by decide)
  have nn1 : nL nEvent a1 ≤ 2 ^ 40 := Nat.le_trans n1 (by decide)
  have := Net.cntT_le a0
  have := cntL_le Event.cnt_le a1
  have := Net.cntT_le r0
  refine ACall.pure (toNet_c a0 (by omega)) (by simp [Net.row, u0, u1, u2, u3]) ?_
  simp [Net.res]
  try intros
  refine ACall.pure (toEventS_c a1 (by omega)) (by simp [u4]) ?_
  simp
  try intros
  refine ACall.pure hs (by simp [Net.row]) ?_
  simp [Net.res]
  try intros
  refine ACall.pure (toNet_c a0 (by omega)) (by simp [Net.row, u0, u1, u2, u3]) ?_
  simp [Net.res]
  try intros
  refine ACall.pure (toEventS_c a1 (by omega)) (by simp [u4]) ?_
  simp
  try intros
  refine ACall.pure hi (by simp [Net.row]) ?_
  simp [Net.res]
  try intros
  refine ACall.pure (eqNet_c r0 r0 (by omega)) (by simp [Net.row]) ?_
  simp
  refine ACall.pure (eqIntS_c r1 r1 (by omega)) (by simp) ?_
  simp
  refine DrawT.quietH eok mix (by kernel_rfl) ?_
  simp
  refine ⟨_, _, toNet_c a0 (by omega), by simp [Net.row, u0, u1, u2, u3], ?_⟩
  simp [Net.res]
  refine ⟨_, _, eqNet_c a0 a0 (by omega), by simp [Net.row], ?_⟩
  simp
  refine ACall.pure (toEventS_c a1 (by omega)) (by simp [u4]) ?_
  simp
  try intros
  refine ACall.pure (eqEventS_c a1 a1 (by omega)) (by simp) ?_
  simp
  refine ACall.mark (markNet_c a0 1 (by omega) (by omega) (by omega)) rfl (fun _ h => h) (by simp) ?_
  obtain ⟨c1, hc1⟩ : ∃ c, 1 + ((a0.cntT : Nat) : Int) = c := ⟨_, rfl⟩
  have zc1 : ¬ c1 < 0 := by omega
  simp [Net.markT, Net.res, hc1]
  refine ACall.mark (markEventS_c a1 c1 (by omega) (by omega) (by omega)) rfl (fun _ h => h) (by simp) ?_
  obtain ⟨c2, hc2⟩ : ∃ c, c1 + ((cntL Event.cnt a1 : Nat) : Int) = c := ⟨_, rfl⟩
  have zc2 : ¬ c2 < 0 := by omega
  simp [hc2, zc2]
  refine ACall.pure (eqNet_c r0 r0 (by omega)) (by simp [Net.row]) ?_
  simp
  refine ACall.pure (eqIntS_c r1 r1 (by omega)) (by simp) ?_
  simp
  refine ACall.mark (markNet_c r0 1 (by omega) (by omega) (by omega)) rfl (fun _ h => h) (by simp) ?_
  obtain ⟨c3, hc3⟩ : ∃ c, 1 + ((r0.cntT : Nat) : Int) = c := ⟨_, rfl⟩
  have zc3 : ¬ c3 < 0 := by omega
  simp [Net.markT, Net.res, hc3]
  refine ACall.mark (markIntS_c r1 c3 (by omega) (by omega)) rfl (fun _ h => h) (by simp) ?_
  obtain ⟨c4, hc4⟩ : ∃ c, c3 + ((r1.length : Nat) : Int) = c := ⟨_, rfl⟩
  have zc4 : ¬ c4 < 0 := by omega
  simp [hc4]
  refine ACall.pure (heldNet_c r0 1 (by omega) (by omega) (by omega)) (by simp [markL_length, Net.row, Net.markT]) ?_
  simp [hc3, zc3]
  refine ACall.pure (heldIntS_c r1 c3 (by omega) (by omega)) (by simp [markL_length]) ?_
  simp [hc4, zc4]
  refine ACall.pure (toNet_c a0 (by omega)) (by simp [Net.row, u0, u1, u2, u3]) ?_
  simp [Net.res]
  try intros
  refine ACall.pure (toEventS_c a1 (by omega)) (by simp [u4]) ?_
  simp
  try intros
  refine ACall.pure hi (by simp [Net.row]) ?_
  simp [Net.res]
  try intros
  refine ACall.pure (eqNet_c r0 r0 (by omega)) (by simp [Net.row]) ?_
  simp
  refine ACall.pure (eqIntS_c r1 r1 (by omega)) (by simp) ?_
  simp
  refine ACall.pure (heldNet_c r0 1 (by omega) (by omega) (by omega)) (by simp [markL_length, Net.row, Net.markT]) ?_
  simp [hc3, zc3]
  refine ACall.pure (heldIntS_c r1 c3 (by omega) (by omega)) (by simp [markL_length]) ?_
  simp [hc4, zc4]

set_option maxRecDepth 100000 in
theorem fnExactNetAll_lifted (os : Os) (started : os.Started) (H : Type) (enc : TypeId × Value → H) :
    ReturnsInHanded {} Tryz.checked os 13 .any (Rows.fnExactNetAllSpec.pre6 enc Tryz.prog Tryz.f13 Rows.fnExactNetAllRow.domain false) (Rows.fnExactNetAllSpec.post enc Tryz.prog Tryz.f13 false true false false) := by
  refine returnsInHanded_of_change (C := Tryz.checked) own started (by kernel_rfl) Tryz.func13
    (ChangeSpec.witness6 (enc := enc) (C := Tryz.checked) false ⟨#[], #[.agg #[.string ⟨#[]⟩, .int .i64 0, .slice none 0 0, .slice none 0 0, .slice none 0 0, .slice none 0 0], .slice none 0 0], []⟩ 12 (by kernel_rfl) (by kernel_rfl) (by kernel_rfl) (by kernel_rfl)) ?_
  intro W base args ds gs before hval hW _ _
  refine law_post (D := 16) laid rfl rfl Tryz.underlying4 (by kernel_rfl) (by kernel_rfl) (fun ds h => ?_) hval hW (fun vds ho => ?_)
  · match ds, h with
    | [d0, d1], _ => rfl
  · have ho0 : Opens Tryz.prog 16 W [29, 114] args.toList vds := ho
    obtain ⟨v0, _, rfl, h0, _, ho1⟩ := ho0.cons
    obtain ⟨v1, _, rfl, h1, _, ho2⟩ := ho1.cons
    obtain rfl := ho2.nil
    obtain ⟨x0, rfl, y0⟩ := fitsV_struct Tryz.underlying29 (by rw [cells29]; decide) h0
    obtain ⟨a0, rfl, e0⟩ := fits_Net y0
    obtain ⟨x1, rfl, y1⟩ := fitsV_sl Tryz.underlying114 h1
    obtain ⟨a1, z1, e1⟩ := fits_EventS y1
    simp at z1
    subst z1
    exact lawNetAll_c a0 e0 a1 e1

theorem fnExactNetAll_holds : Rows.FnExactNetAllSaid :=
  OpenClaim.holds_of_wide 13 Tryz.f13 rfl rfl rfl rfl rfl rfl rfl ⟨rfl, rfl, rfl, rfl, rfl⟩ rfl rfl rfl rfl rfl (by kernel_rfl) Tryz.func13 joinedNetAll
    (of_decide_eq_true (by kernel_rfl)) (by unfold Func.isWrapper; first | (rw [if_pos (by decide +kernel)]; kernel_rfl) | (rw [if_neg (by decide +kernel)]; exact ⟨rfl, rfl⟩))
    (fun os started H enc _ => fnExactNetAll_lifted os started H enc)
#print axioms fnExactNetAll_holds
end Go.Proofs.YtdfdabjdfmamgaaGreat

