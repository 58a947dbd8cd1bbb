/-
  The law on RepNew returns true for every argument; what it was handed reads afterwards as before.
-/
import Derived.Test.YthcdlllclbdbmaaFRepNew
import Derived.Test.YthcdlllclbdbmaaDFit
namespace Go.Proofs.Ythcdlllclbdbmaa
open Go.AM Go.ChangeShapes Go.WideShapes Go.ChangeAt Go.RowKit
set_option maxRecDepth 20000

theorem lawRepNew_c (a0 : Int) (f0 : i64r a0) (a1 : Int) (f1 : i64r a1) (a2 : Int) (f2 : i64r a2) (a3 : List Int) (f3 : (a3.length ≤ 9223372036854775807 ∧ ∀ n ∈ a3, i64r n)) : PureC Try.prog 11 [.c (vi a0), .c (vi a1), .c (vi a2), .c (.s (a3.map intR))] (.one (.c (.v (.bool true)) 1)) := by
  refine PureC.introL tt_ok Try.func11 (by kernel_rfl) rfl rfl rfl (Nat.le_of_ble_eq_true rfl) rfl (fun w0 base us => ?_)
  simp
  intro u0
  try intros
  by_cases hbig3 : 1048576 < (a3.length : Int)
  · simp [hbig3]
  have n3 : a3.length ≤ 2 ^ 20 := by omega
  simp [hbig3]
  have hs := specRepNew_c a0 f0 a1 f1 a2 f2 a3 f3 n3
  have hi := implRepNew_c a0 f0 a1 f1 a2 f2 a3 f3 n3
  have hb := fRepNew_b a0 f0 a1 f1 a2 f2 a3 f3 n3
  generalize fRepNew a0 a1 a2 a3 = r at hs hi hb
  obtain ⟨r0, r1⟩ := r
  simp only at hs hi hb
  have nn3 : a3.length ≤ 2 ^ 40 := Nat.le_trans n3 (by decide)
  have := Rep.cntT_le r0
  refine ACall.pure (toIntS_c a3 (by omega)) (by simp [u0, hbig3]) ?_
  simp [hbig3]
  try intros
  refine ACall.pure hs (by simp [hbig3]) ?_
  simp [Rep.res, hbig3]
  try intros
  refine ACall.pure (toIntS_c a3 (by omega)) (by simp [u0, hbig3]) ?_
  simp [hbig3]
  try intros
  refine ACall.pure hi (by simp [hbig3]) ?_
  simp [Rep.res, hbig3]
  try intros
  refine ACall.pure (eqRep_c r0 r0 (by omega)) (by simp [Rep.row, hbig3]) ?_
  simp [hbig3]
  refine ACall.pure (toIntS_c a3 (by omega)) (by simp [u0, hbig3]) ?_
  simp [hbig3]
  try intros
  refine ACall.pure (eqIntS_c a3 a3 (by omega)) (by simp [hbig3]) ?_
  simp [hbig3]
  refine ACall.mark (markIntS_c a3 1 (by omega) (by omega)) rfl (fun _ h => h) (by simp) ?_
  obtain ⟨c1, hc1⟩ : ∃ c, 1 + ((a3.length : Nat) : Int) = c := ⟨_, rfl⟩
  have zc1 : ¬ c1 < 0 := by omega
  simp [hbig3, hc1, zc1]
  refine ACall.pure (eqRep_c r0 r0 (by omega)) (by simp [Rep.row, hbig3, hc1, zc1]) ?_
  simp [hbig3, hc1, zc1]
  refine ACall.mark (markRep_c r0 1 (by omega) (by omega) (by omega)) rfl (fun _ h => h) (by simp) ?_
  obtain ⟨c2, hc2⟩ : ∃ c, 1 + ((r0.cntT : Nat) : Int) = c := ⟨_, rfl⟩
  have zc2 : ¬ c2 < 0 := by omega
  simp [Rep.markT, Rep.res, hbig3, hc1, zc1, hc2, zc2]
  refine ACall.pure (heldRep_c r0 1 (by omega) (by omega) (by omega)) (by simp [markL_length, Rep.row, Rep.markT, hbig3, hc1, zc1, hc2, zc2]) ?_
  simp [hbig3, hc1, zc1, hc2, zc2]
  refine ACall.pure (toIntS_c a3 (by omega)) (by simp [u0, hbig3, hc1, zc1, hc2, zc2]) ?_
  simp [hbig3, hc1, zc1, hc2, zc2]
  try intros
  refine ACall.pure hi (by simp [hbig3, hc1, zc1, hc2, zc2]) ?_
  simp [Rep.res, hbig3, hc1, zc1, hc2, zc2]
  try intros
  refine ACall.pure (eqRep_c r0 r0 (by omega)) (by simp [Rep.row, hbig3, hc1, zc1, hc2, zc2]) ?_
  simp [hbig3, hc1, zc1, hc2, zc2]
  refine ACall.pure (heldRep_c r0 1 (by omega) (by omega) (by omega)) (by simp [markL_length, Rep.row, Rep.markT, hbig3, hc1, zc1, hc2, zc2]) ?_
  simp [hbig3, hc1, zc1, hc2, zc2]

set_option maxRecDepth 100000 in
theorem fnExactRepNew_lifted (os : Os) (started : os.Started) (H : Type) (enc : TypeId × Value → H) :
    ReturnsInHanded {} Try.checked os 11 .any (Rows.fnExactRepNewSpec.pre6 enc Try.prog Try.f11 Rows.fnExactRepNewRow.domain false) (Rows.fnExactRepNewSpec.post enc Try.prog Try.f11 false true false false) := by
  refine returnsInHanded_of_change (C := Try.checked) own started (by kernel_rfl) Try.func11
    (ChangeSpec.witness6 (enc := enc) (C := Try.checked) false ⟨#[], #[.int .i64 0, .int .i64 0, .int .i64 0, .slice none 0 0], []⟩ 12 (by kernel_rfl) (by kernel_rfl) (by kernel_rfl) (by kernel_rfl)) ?_
  intro W base args ds gs before hval hW _ _
  refine law_post (D := 10) laid rfl rfl Try.underlying4 (by kernel_rfl) (by kernel_rfl) (fun ds h => ?_) hval hW (fun vds ho => ?_)
  · match ds, h with
    | [d0, d1, d2, d3], _ => rfl
  · have ho0 : Opens Try.prog 10 W [3, 3, 3, 31] args.toList vds := ho
    obtain ⟨v0, _, rfl, h0, _, ho1⟩ := ho0.cons
    obtain ⟨v1, _, rfl, h1, _, ho2⟩ := ho1.cons
    obtain ⟨v2, _, rfl, h2, _, ho3⟩ := ho2.cons
    obtain ⟨v3, _, rfl, h3, _, ho4⟩ := ho3.cons
    obtain rfl := ho4.nil
    obtain ⟨a0, rfl, e0⟩ := fitsV_i64 Try.underlying3 h0
    obtain ⟨a1, rfl, e1⟩ := fitsV_i64 Try.underlying3 h1
    obtain ⟨a2, rfl, e2⟩ := fitsV_i64 Try.underlying3 h2
    obtain ⟨x3, rfl, y3⟩ := fitsV_sl Try.underlying31 h3
    obtain ⟨a3, z3, e3⟩ := fits_ints y3
    simp at z3
    subst z3
    exact lawRepNew_c a0 e0 a1 e1 a2 e2 a3 e3

theorem fnExactRepNew_holds : Rows.FnExactRepNewSaid :=
  OpenClaim.holds_of_wide 11 Try.f11 rfl rfl rfl rfl rfl rfl rfl ⟨rfl, rfl, rfl, rfl, rfl⟩ rfl rfl rfl rfl rfl (by kernel_rfl) Try.func11 (by kernel_rfl)
    (of_decide_eq_true (by kernel_rfl)) (by unfold Func.isWrapper; first | (rw [if_pos (by decide +kernel)]; kernel_rfl) | (rw [if_neg (by decide +kernel)]; exact ⟨rfl, rfl⟩))
    (fun os started H enc _ => fnExactRepNew_lifted os started H enc)
#print axioms fnExactRepNew_holds
end Go.Proofs.Ythcdlllclbdbmaa
