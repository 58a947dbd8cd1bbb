/-
  The law on RepSame returns true for every two replicas; both read afterwards as before.
-/
import Derived.Test.YthcdlllclbdbmaaFt
namespace Go.Proofs.Ythcdlllclbdbmaa
open Go.AM Go.ChangeShapes Go.WideShapes Go.ChangeAt Go.RowKit
set_option maxRecDepth 20000

theorem repSameLaw_c (p q : Rep) (hp : p.fits) (hq : q.fits) : PureC Try.prog 5 [.agg p.row, .agg q.row] (.one (.c (.v (.bool true)) 1)) := by
  refine PureC.intro' tt_ok Try.func5 (by kernel_rfl) rfl rfl rfl (Nat.le_of_ble_eq_true rfl) (fun w0 base => ?_)
  have e20 : (1048576 : Int) = ((2 ^ 20 : Nat) : Int) := rfl
  simp [Rep.row]
  intro b1 b2
  rw [e20]
  refine ACall.pure (szRep_c p hp (2 ^ 20) (Nat.le_refl _)) (by simp [Rep.row]) ?_
  by_cases k1 : nRep p ≤ 2 ^ 20
  · rw [szR_ok k1]
    obtain ⟨m1, hm1⟩ : ∃ m1, 2 ^ 20 - nRep p = m1 := ⟨_, rfl⟩
    rw [hm1]
    simp
    refine ACall.pure (szRep_c q hq m1 (by omega)) (by simp [Rep.row]) ?_
    by_cases k2 : nRep q ≤ m1
    · rw [szR_ok k2]
      have sp := rep_sm k1
      have sq := rep_sm (show nRep q ≤ 2 ^ 20 by omega)
      simp
      refine DrawT.quiet eok mix (by kernel_rfl) ?_
      simp
      refine ⟨_, _, toRep_c p sp, by simp [Rep.row], ?_⟩
      simp [Rep.res]
      refine ⟨_, _, toRep_c q sq, by simp [Rep.row], ?_⟩
      simp [Rep.res]
      refine ⟨_, _, specRepSame_c p q sp, by simp [Rep.row], ?_⟩
      simp
      refine ACall.pure (toRep_c p sp) (by simp [Rep.row]) ?_
      simp [Rep.res]
      intro H1 H2 H3 b3
      refine ACall.pure (toRep_c q sq) (by simp [Rep.row]) ?_
      simp [Rep.res]
      intro H4 H5 H6 b4
      refine ACall.pure (repSame_c p q sp) (by simp [Rep.row]) ?_
      simp
      refine DrawT.quiet eok mix (by kernel_rfl) ?_
      simp
      refine ⟨_, _, toRep_c p sp, by simp [Rep.row], ?_⟩
      simp [Rep.res]
      refine ⟨_, _, eqRep_c p p sp, by simp [Rep.row], ?_⟩
      simp
      refine DrawT.quiet eok mix (by kernel_rfl) ?_
      simp
      refine ⟨_, _, toRep_c q sq, by simp [Rep.row], ?_⟩
      simp [Rep.res]
      refine ⟨_, _, eqRep_c q q sq, by simp [Rep.row], ?_⟩
      simp
    · rw [szR_no k2]
      simp
  · rw [szR_no k1]
    simp

set_option maxRecDepth 100000 in
theorem fnExactRepSame_lifted (os : Os) (started : os.Started) (H : Type) (enc : TypeId × Value → H) :
    ReturnsInHanded {} Try.checked os 5 .any (Rows.fnExactRepSameSpec.pre6 enc Try.prog Try.f5 Rows.fnExactRepSameRow.domain false) (Rows.fnExactRepSameSpec.post enc Try.prog Try.f5 false true false false) := by
  refine returnsInHanded_of_change (C := Try.checked) own started (by kernel_rfl) Try.func5
    (ChangeSpec.witness6 (enc := enc) (C := Try.checked) false ⟨#[], #[.agg #[.int .i64 0, .int .i64 0, .int .i64 0, .slice none 0 0, .bool false, .slice none 0 0, .slice none 0 0], .agg #[.int .i64 0, .int .i64 0, .int .i64 0, .slice none 0 0, .bool false, .slice none 0 0, .slice none 0 0]], []⟩ 8 (by kernel_rfl) (by kernel_rfl) (by kernel_rfl) (by kernel_rfl)) ?_
  intro W base args ds gs before hval hW _ _
  refine law_post (D := 6) laid rfl rfl Try.underlying4 (by kernel_rfl) (by kernel_rfl) (fun ds h => ?_) hval hW (fun vds ho => ?_)
  · match ds, h with
    | [d1, d2], _ => rfl
  · have ho' : Opens Try.prog 6 W [34, 34] args.toList vds := ho
    obtain ⟨v1, _, rfl, h1, _, ho1⟩ := ho'.cons
    obtain ⟨v2, _, rfl, h2, _, ho2⟩ := ho1.cons
    obtain rfl := ho2.nil
    obtain ⟨d1, rfl, k1⟩ := fitsV_struct Try.underlying34 (by rw [cells34]; decide) h1
    obtain ⟨d2, rfl, k2⟩ := fitsV_struct Try.underlying34 (by rw [cells34]; decide) h2
    obtain ⟨p, rfl, hp⟩ := fits_rep k1
    obtain ⟨q, rfl, hq⟩ := fits_rep k2
    exact repSameLaw_c p q hp hq

theorem fnExactRepSame_holds : Rows.FnExactRepSameSaid :=
  OpenClaim.holds_of_wide 5 Try.f5 rfl rfl rfl rfl rfl rfl rfl ⟨rfl, rfl, rfl, rfl, rfl⟩ rfl rfl rfl rfl rfl (by kernel_rfl) Try.func5 (by kernel_rfl)
    (of_decide_eq_true (by kernel_rfl)) (by unfold Func.isWrapper; first | (rw [if_pos (by decide +kernel)]; kernel_rfl) | (rw [if_neg (by decide +kernel)]; exact ⟨rfl, rfl⟩))
    (fun os started H enc _ => fnExactRepSame_lifted os started H enc)
#print axioms fnExactRepSame_holds
end Go.Proofs.Ythcdlllclbdbmaa
