/-
  The law on GetOp returns true for every argument; what it was handed reads afterwards as before.
-/
import Derived.Test.YthcdlllclbdbmaaFGetOp2
import Derived.Test.YthcdlllclbdbmaaDFit
namespace Go.Proofs.Ythcdlllclbdbmaa
open Go.AM Go.ChangeShapes Go.WideShapes Go.ChangeAt Go.RowKit
set_option maxRecDepth 20000

theorem lawGetOp_c (a0 : List UInt8) (f0 : a0.length ≤ 9223372036854775807) (a1 : Int) (f1 : i64r a1) : PureC Try.prog 12 [.c (.s (a0.map byteR)), .c (vi a1)] (.one (.c (.v (.bool true)) 1)) := by
  refine PureC.introL tt_ok Try.func12 (by kernel_rfl) rfl rfl rfl (Nat.le_of_ble_eq_true rfl) rfl (fun w0 base us => ?_)
  simp
  intro u0
  try intros
  by_cases hbig0 : 1048576 < (a0.length : Int)
  · simp [hbig0]
  have n0 : a0.length ≤ 2 ^ 20 := by omega
  simp [hbig0]
  have hs := specGetOp_c a0 f0 n0 a1 f1
  have hi := implGetOp_c a0 f0 n0 a1 f1
  have hb := fGetOp_b a0 f0 n0 a1 f1
  generalize fGetOp a0 a1 = r at hs hi hb
  obtain ⟨r0, r1, r2⟩ := r
  simp only at hs hi hb
  have nn0 : a0.length ≤ 2 ^ 40 := Nat.le_trans n0 (by decide)
  have := cntL_le Part.cnt_le r0
  refine ACall.pure (toByteS_c a0 (by omega)) (by simp [u0, hbig0]) ?_
  simp [hbig0]
  try intros
  refine ACall.pure hs (by simp [hbig0]) ?_
  simp [hbig0]
  try intros
  refine ACall.pure (toByteS_c a0 (by omega)) (by simp [u0, hbig0]) ?_
  simp [hbig0]
  try intros
  refine ACall.pure hi (by simp [hbig0]) ?_
  simp [hbig0]
  try intros
  refine ACall.pure (eqPartS_c r0 r0 (by omega)) (by simp [hbig0]) ?_
  simp [hbig0]
  refine ACall.pure (toByteS_c a0 (by omega)) (by simp [u0, hbig0]) ?_
  simp [hbig0]
  try intros
  refine ACall.pure (eqByteS_c a0 a0 (by omega)) (by simp [hbig0]) ?_
  simp [hbig0]
  refine ACall.mark (markByteS_c a0 1 (by omega) (by omega)) rfl (fun _ h => h) (by simp) ?_
  obtain ⟨c1, hc1⟩ : ∃ c, 1 + ((a0.length : Nat) : Int) = c := ⟨_, rfl⟩
  have zc1 : ¬ c1 < 0 := by omega
  simp [hbig0, hc1, zc1]
  refine ACall.pure (eqPartS_c r0 r0 (by omega)) (by simp [hbig0, hc1, zc1]) ?_
  simp [hbig0, hc1, zc1]
  refine ACall.mark (markPartS_c r0 1 (by omega) (by omega) (by omega)) rfl (fun _ h => h) (by simp) ?_
  obtain ⟨c2, hc2⟩ : ∃ c, 1 + ((cntL Part.cnt r0 : Nat) : Int) = c := ⟨_, rfl⟩
  have zc2 : ¬ c2 < 0 := by omega
  simp [hbig0, hc1, zc1, hc2, zc2]
  refine ACall.pure (heldPartS_c r0 1 (by omega) (by omega) (by omega)) (by simp [markL_length, hbig0, hc1, zc1, hc2, zc2]) ?_
  simp [hbig0, hc1, zc1, hc2, zc2]
  refine ACall.pure (toByteS_c a0 (by omega)) (by simp [u0, hbig0, hc1, zc1, hc2, zc2]) ?_
  simp [hbig0, hc1, zc1, hc2, zc2]
  try intros
  refine ACall.pure hi (by simp [hbig0, hc1, zc1, hc2, zc2]) ?_
  simp [hbig0, hc1, zc1, hc2, zc2]
  try intros
  refine ACall.pure (eqPartS_c r0 r0 (by omega)) (by simp [hbig0, hc1, zc1, hc2, zc2]) ?_
  simp [hbig0, hc1, zc1, hc2, zc2]
  refine ACall.pure (heldPartS_c r0 1 (by omega) (by omega) (by omega)) (by simp [markL_length, hbig0, hc1, zc1, hc2, zc2]) ?_
  simp [hbig0, hc1, zc1, hc2, zc2]

set_option maxRecDepth 100000 in
theorem fnExactGetOp_lifted (os : Os) (started : os.Started) (H : Type) (enc : TypeId × Value → H) :
    ReturnsInHanded {} Try.checked os 12 .any (Rows.fnExactGetOpSpec.pre6 enc Try.prog Try.f12 Rows.fnExactGetOpRow.domain false) (Rows.fnExactGetOpSpec.post enc Try.prog Try.f12 false true false false) := by
  refine returnsInHanded_of_change (C := Try.checked) own started (by kernel_rfl) Try.func12
    (ChangeSpec.witness6 (enc := enc) (C := Try.checked) false ⟨#[], #[.slice none 0 0, .int .i64 0], []⟩ 12 (by kernel_rfl) (by kernel_rfl) (by kernel_rfl) (by kernel_rfl)) ?_
  intro W base args ds gs before hval hW _ _
  refine law_post (D := 10) laid rfl rfl Try.underlying4 (by kernel_rfl) (by kernel_rfl) (fun ds h => ?_) hval hW (fun vds ho => ?_)
  · match ds, h with
    | [d0, d1], _ => rfl
  · have ho0 : Opens Try.prog 10 W [22, 3] args.toList vds := ho
    obtain ⟨v0, _, rfl, h0, _, ho1⟩ := ho0.cons
    obtain ⟨v1, _, rfl, h1, _, ho2⟩ := ho1.cons
    obtain rfl := ho2.nil
    obtain ⟨a0, rfl, e0⟩ := fitsV_bytes Try.underlying22 Try.underlying5 h0
    obtain ⟨a1, rfl, e1⟩ := fitsV_i64 Try.underlying3 h1
    exact lawGetOp_c a0 e0 a1 e1

theorem fnExactGetOp_holds : Rows.FnExactGetOpSaid :=
  OpenClaim.holds_of_wide 12 Try.f12 rfl rfl rfl rfl rfl rfl rfl ⟨rfl, rfl, rfl, rfl, rfl⟩ rfl rfl rfl rfl rfl (by kernel_rfl) Try.func12 (by kernel_rfl)
    (of_decide_eq_true (by kernel_rfl)) (by unfold Func.isWrapper; first | (rw [if_pos (by decide +kernel)]; kernel_rfl) | (rw [if_neg (by decide +kernel)]; exact ⟨rfl, rfl⟩))
    (fun os started H enc _ => fnExactGetOp_lifted os started H enc)
#print axioms fnExactGetOp_holds
end Go.Proofs.Ythcdlllclbdbmaa
