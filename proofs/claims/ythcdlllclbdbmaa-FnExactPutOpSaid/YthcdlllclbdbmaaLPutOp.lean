/-
  The law on PutOp returns true for every argument; what it was handed reads afterwards as before.
-/
import Derived.Test.YthcdlllclbdbmaaFPutOp2
import Derived.Test.YthcdlllclbdbmaaDFit
namespace Go.Proofs.Ythcdlllclbdbmaa
open Go.AM Go.ChangeShapes Go.WideShapes Go.ChangeAt Go.RowKit
set_option maxRecDepth 20000

theorem lawPutOp_c (a0 : List UInt8) (f0 : a0.length ≤ 9223372036854775807) (a1 : List Part) (f1 : (a1.length ≤ 9223372036854775807 ∧ ∀ y ∈ a1, y.fits)) : PureC Try.prog 7 [.c (.s (a0.map byteR)), .c (.s (a1.map Part.row))] (.one (.c (.v (.bool true)) 1)) := by
  refine PureC.introL tt_ok Try.func7 (by kernel_rfl) rfl rfl rfl (Nat.le_of_ble_eq_true rfl) rfl (fun w0 base us => ?_)
  simp
  intro u0 u1
  try intros
  by_cases hbig0 : 1048576 < (a0.length : Int)
  · simp [hbig0]
  have n0 : a0.length ≤ 2 ^ 20 := by omega
  simp [hbig0]
  refine ACall.pure (szPartS_c a1 f1.1 f1.2 (2 ^ 20) (by omega)) (by simp [u1]) ?_
  by_cases k1 : nL nPart a1 ≤ 2 ^ 20
  rotate_left
  · rw [szR_no k1]; simp
  rw [szR_ok k1]
  obtain ⟨m1, hm1⟩ : ∃ m, 2 ^ 20 - nL nPart a1 = m := ⟨_, rfl⟩
  rw [hm1]
  have n1 : nL nPart a1 ≤ 2 ^ 20 := by omega
  simp
  have hs := specPutOp_c a0 f0 n0 a1 f1 n1
  have hi := implPutOp_c a0 f0 n0 a1 f1 n1
  have hb := fPutOp_b a0 f0 n0 a1 f1 n1
  generalize fPutOp a0 a1 = r at hs hi hb
  obtain ⟨r0, r1⟩ := r
  simp only at hs hi hb
  have nn0 : a0.length ≤ 2 ^ 40 := Nat.le_trans n0 (by decide)
  have nn1 : nL nPart a1 ≤ 2 ^ 40 := Nat.le_trans n1 (by decide)
  have := cntL_le Part.cnt_le a1
  refine ACall.pure (toByteS_c a0 (by omega)) (by simp [u0]) ?_
  simp
  try intros
  refine ACall.pure (toPartS_c a1 (by omega)) (by simp [u1]) ?_
  simp
  try intros
  refine ACall.pure hs (by simp) ?_
  simp
  try intros
  refine ACall.pure (toByteS_c a0 (by omega)) (by simp [u0]) ?_
  simp
  try intros
  refine ACall.pure (toPartS_c a1 (by omega)) (by simp [u1]) ?_
  simp
  try intros
  refine ACall.pure hi (by simp) ?_
  simp
  try intros
  refine ACall.pure (eqByteS_c r0 r0 (by omega)) (by simp) ?_
  simp
  refine ACall.pure (toByteS_c a0 (by omega)) (by simp [u0]) ?_
  simp
  try intros
  refine ACall.pure (eqByteS_c a0 a0 (by omega)) (by simp) ?_
  simp
  refine ACall.pure (toPartS_c a1 (by omega)) (by simp [u1]) ?_
  simp
  try intros
  refine ACall.pure (eqPartS_c a1 a1 (by omega)) (by simp) ?_
  simp
  refine ACall.mark (markByteS_c a0 1 (by omega) (by omega)) rfl (fun _ h => h) (by simp) ?_
  obtain ⟨c1, hc1⟩ : ∃ c, 1 + ((a0.length : Nat) : Int) = c := ⟨_, rfl⟩
  have zc1 : ¬ c1 < 0 := by omega
  simp [hc1]
  refine ACall.mark (markPartS_c a1 c1 (by omega) (by omega) (by omega)) rfl (fun _ h => h) (by simp) ?_
  obtain ⟨c2, hc2⟩ : ∃ c, c1 + ((cntL Part.cnt a1 : Nat) : Int) = c := ⟨_, rfl⟩
  have zc2 : ¬ c2 < 0 := by omega
  simp [hc2, zc2]
  refine ACall.pure (eqByteS_c r0 r0 (by omega)) (by simp) ?_
  simp
  refine ACall.mark (markByteS_c r0 1 (by omega) (by omega)) rfl (fun _ h => h) (by simp) ?_
  obtain ⟨c3, hc3⟩ : ∃ c, 1 + ((r0.length : Nat) : Int) = c := ⟨_, rfl⟩
  have zc3 : ¬ c3 < 0 := by omega
  simp [hc3]
  refine ACall.pure (heldByteS_c r0 1 (by omega) (by omega)) (by simp [markL_length]) ?_
  simp [hc3, zc3]
  refine ACall.pure (toByteS_c a0 (by omega)) (by simp [u0]) ?_
  simp
  try intros
  refine ACall.pure (toPartS_c a1 (by omega)) (by simp [u1]) ?_
  simp
  try intros
  refine ACall.pure hi (by simp) ?_
  simp
  try intros
  refine ACall.pure (eqByteS_c r0 r0 (by omega)) (by simp) ?_
  simp
  refine ACall.pure (heldByteS_c r0 1 (by omega) (by omega)) (by simp [markL_length]) ?_
  simp [hc3, zc3]

set_option maxRecDepth 100000 in
theorem fnExactPutOp_lifted (os : Os) (started : os.Started) (H : Type) (enc : TypeId × Value → H) :
    ReturnsInHanded {} Try.checked os 7 .any (Rows.fnExactPutOpSpec.pre6 enc Try.prog Try.f7 Rows.fnExactPutOpRow.domain false) (Rows.fnExactPutOpSpec.post enc Try.prog Try.f7 false true false false) := by
  refine returnsInHanded_of_change (C := Try.checked) own started (by kernel_rfl) Try.func7
    (ChangeSpec.witness6 (enc := enc) (C := Try.checked) false ⟨#[], #[.slice none 0 0, .slice none 0 0], []⟩ 12 (by kernel_rfl) (by kernel_rfl) (by kernel_rfl) (by kernel_rfl)) ?_
  intro W base args ds gs before hval hW _ _
  refine law_post (D := 10) laid rfl rfl Try.underlying4 (by kernel_rfl) (by kernel_rfl) (fun ds h => ?_) hval hW (fun vds ho => ?_)
  · match ds, h with
    | [d0, d1], _ => rfl
  · have ho0 : Opens Try.prog 10 W [22, 32] args.toList vds := ho
    obtain ⟨v0, _, rfl, h0, _, ho1⟩ := ho0.cons
    obtain ⟨v1, _, rfl, h1, _, ho2⟩ := ho1.cons
    obtain rfl := ho2.nil
    obtain ⟨a0, rfl, e0⟩ := fitsV_bytes Try.underlying22 Try.underlying5 h0
    obtain ⟨x1, rfl, y1⟩ := fitsV_sl Try.underlying32 h1
    obtain ⟨a1, z1, e1⟩ := fits_PartS y1
    simp at z1
    subst z1
    exact lawPutOp_c a0 e0 a1 e1

theorem fnExactPutOp_holds : Rows.FnExactPutOpSaid :=
  OpenClaim.holds_of_wide 7 Try.f7 rfl rfl rfl rfl rfl rfl rfl ⟨rfl, rfl, rfl, rfl, rfl⟩ rfl rfl rfl rfl rfl (by kernel_rfl) Try.func7 (by kernel_rfl)
    (of_decide_eq_true (by kernel_rfl)) (by unfold Func.isWrapper; first | (rw [if_pos (by decide +kernel)]; kernel_rfl) | (rw [if_neg (by decide +kernel)]; exact ⟨rfl, rfl⟩))
    (fun os started H enc _ => fnExactPutOp_lifted os started H enc)
#print axioms fnExactPutOp_holds
end Go.Proofs.Ythcdlllclbdbmaa
