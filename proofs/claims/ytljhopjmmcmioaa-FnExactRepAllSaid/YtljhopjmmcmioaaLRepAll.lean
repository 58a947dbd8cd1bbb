import Derived.Test.YtljhopjmmcmioaaPF
import Derived.Test.YtljhopjmmcmioaaNA
import Derived.Test.YtljhopjmmcmioaaMF
/-
  The law on RepAll returns true for every argument; what it was handed reads afterwards as before.
-/
namespace Go.Proofs.Ytljhopjmmcmioaa
open Go.AM Go.ChangeShapes Go.WideShapes Go.ChangeAt Go.RowKit
set_option maxRecDepth 20000

theorem lawRepAll_c (a0 : Rep) (f0 : a0.fits) (a1 : List Entry) (f1 : (a1.length ≤ 9223372036854775807 ∧ ∀ y ∈ a1, y.fits)) : PureC Try.prog 9 [.agg a0.row, .c (.s (a1.map Entry.row))] (.one (.c (.v (.bool true)) 1)) := by
  refine PureC.introL tt_ok Try.func9 (by kernel_rfl) rfl rfl rfl (Nat.le_of_ble_eq_true rfl) rfl (fun w0 base us => ?_)
  simp [Rep.row]
  intro u0 u1 u2 u3
  try intros
  refine ACall.pure (szRep_c a0 f0 (2 ^ 20) (by omega)) (by simp [Rep.row, u0, u1, u2]) ?_
  by_cases k1 : nRep a0 ≤ 2 ^ 20
  rotate_left
  · rw [szR_no k1]; simp
  rw [szR_ok k1]
  obtain ⟨m1, hm1⟩ : ∃ m, 2 ^ 20 - nRep a0 = m := ⟨_, rfl⟩
  rw [hm1]
  have n0 : nRep a0 ≤ 2 ^ 20 := by omega
  simp
  refine ACall.pure (szEntryS_c a1 f1.1 f1.2 (m1) (by omega)) (by simp [u3]) ?_
  by_cases k2 : nL nEntry a1 ≤ m1
  rotate_left
  · rw [szR_no k2]; simp
  rw [szR_ok k2]
  obtain ⟨m2, hm2⟩ : ∃ m, m1 - nL nEntry a1 = m := ⟨_, rfl⟩
  rw [hm2]
  have n1 : nL nEntry a1 ≤ 2 ^ 20 := by omega
  simp
  have hs := specRepAll_c a0 f0 n0 a1 f1 n1
  have hi := implRepAll_c a0 f0 n0 a1 f1 n1
  have hb := fRepAll_b a0 f0 n0 a1 f1 n1
  generalize fRepAll a0 a1 = r at hs hi hb
  obtain ⟨r0, r1⟩ := r
  simp only at hs hi hb
  have nn0 : nRep a0 ≤ 2 ^ 40 := Nat.le_trans n0 (by decide)
  have nn1 : nL nEntry a1 ≤ 2 ^ 40 := Nat.le_trans n1 (by decide)
  have := Rep.cntT_le a0
  have := cntL_le Entry.cnt_le a1
  have := Rep.cntT_le r0
  refine ACall.pure (toRep_c a0 (by omega)) (by simp [Rep.row, u0, u1, u2]) ?_
  simp [Rep.res]
  try intros
  refine ACall.pure (toEntryS_c a1 (by omega)) (by simp [u3]) ?_
  simp
  try intros
  refine ACall.pure hs (by simp [Rep.row]) ?_
  simp [Rep.res]
  try intros
  refine ACall.pure (toRep_c a0 (by omega)) (by simp [Rep.row, u0, u1, u2]) ?_
  simp [Rep.res]
  try intros
  refine ACall.pure (toEntryS_c a1 (by omega)) (by simp [u3]) ?_
  simp
  try intros
  refine ACall.pure hi (by simp [Rep.row]) ?_
  simp [Rep.res]
  try intros
  refine ACall.pure (eqRep_c r0 r0 (by omega)) (by simp [Rep.row]) ?_
  simp
  refine DrawT.quietH eok mix (by kernel_rfl) ?_
  simp
  refine ⟨_, _, toRep_c a0 (by omega), by simp [Rep.row, u0, u1, u2], ?_⟩
  simp [Rep.res]
  refine ⟨_, _, eqRep_c a0 a0 (by omega), by simp [Rep.row], ?_⟩
  simp
  refine ACall.pure (toEntryS_c a1 (by omega)) (by simp [u3]) ?_
  simp
  try intros
  refine ACall.pure (eqEntryS_c a1 a1 (by omega)) (by simp) ?_
  simp
  refine ACall.mark (markRep_c a0 1 (by omega) (by omega) (by omega)) rfl (fun _ h => h) (by simp) ?_
  obtain ⟨c1, hc1⟩ : ∃ c, 1 + ((a0.cntT : Nat) : Int) = c := ⟨_, rfl⟩
  have zc1 : ¬ c1 < 0 := by omega
  simp [Rep.markT, Rep.res, hc1]
  refine ACall.mark (markEntryS_c a1 c1 (by omega) (by omega) (by omega)) rfl (fun _ h => h) (by simp) ?_
  obtain ⟨c2, hc2⟩ : ∃ c, c1 + ((cntL Entry.cnt a1 : Nat) : Int) = c := ⟨_, rfl⟩
  have zc2 : ¬ c2 < 0 := by omega
  simp [hc2, zc2]
  refine ACall.pure (eqRep_c r0 r0 (by omega)) (by simp [Rep.row]) ?_
  simp
  refine ACall.mark (markRep_c r0 1 (by omega) (by omega) (by omega)) rfl (fun _ h => h) (by simp) ?_
  obtain ⟨c3, hc3⟩ : ∃ c, 1 + ((r0.cntT : Nat) : Int) = c := ⟨_, rfl⟩
  have zc3 : ¬ c3 < 0 := by omega
  simp [Rep.markT, Rep.res, hc3]
  refine ACall.pure (heldRep_c r0 1 (by omega) (by omega) (by omega)) (by simp [markL_length, Rep.row, Rep.markT]) ?_
  simp [hc3, zc3]
  refine ACall.pure (toRep_c a0 (by omega)) (by simp [Rep.row, u0, u1, u2]) ?_
  simp [Rep.res]
  try intros
  refine ACall.pure (toEntryS_c a1 (by omega)) (by simp [u3]) ?_
  simp
  try intros
  refine ACall.pure hi (by simp [Rep.row]) ?_
  simp [Rep.res]
  try intros
  refine ACall.pure (eqRep_c r0 r0 (by omega)) (by simp [Rep.row]) ?_
  simp
  refine ACall.pure (heldRep_c r0 1 (by omega) (by omega) (by omega)) (by simp [markL_length, Rep.row, Rep.markT]) ?_
  simp [hc3, zc3]

set_option maxRecDepth 100000 in
theorem fnExactRepAll_lifted (os : Os) (started : os.Started) (H : Type) (enc : TypeId × Value → H) :
    ReturnsInHanded {} Try.checked os 9 .any (Rows.fnExactRepAllSpec.pre6 enc Try.prog Try.f9 Rows.fnExactRepAllRow.domain false) (Rows.fnExactRepAllSpec.post enc Try.prog Try.f9 false true false false) := by
  refine returnsInHanded_of_change (C := Try.checked) own started (by kernel_rfl) Try.func9
    (ChangeSpec.witness6 (enc := enc) (C := Try.checked) false ⟨#[], #[.agg #[.int .i64 0, .int .i64 0, .int .i64 0, .slice none 0 0, .bool false, .slice none 0 0, .slice none 0 0], .slice none 0 0], []⟩ 12 (by kernel_rfl) (by kernel_rfl) (by kernel_rfl) (by kernel_rfl)) ?_
  intro W base args ds gs before hval hW _ _
  refine law_post (D := 10) laid rfl rfl Try.underlying4 (by kernel_rfl) (by kernel_rfl) (fun ds h => ?_) hval hW (fun vds ho => ?_)
  · match ds, h with
    | [d0, d1], _ => rfl
  · have ho0 : Opens Try.prog 10 W [25, 40] args.toList vds := ho
    obtain ⟨v0, _, rfl, h0, _, ho1⟩ := ho0.cons
    obtain ⟨v1, _, rfl, h1, _, ho2⟩ := ho1.cons
    obtain rfl := ho2.nil
    obtain ⟨x0, rfl, y0⟩ := fitsV_struct Try.underlying25 (by rw [cells25]; decide) h0
    obtain ⟨a0, rfl, e0⟩ := fits_Rep y0
    obtain ⟨x1, rfl, y1⟩ := fitsV_sl Try.underlying40 h1
    obtain ⟨a1, z1, e1⟩ := fits_EntryS y1
    simp at z1
    subst z1
    exact lawRepAll_c a0 e0 a1 e1

theorem fnExactRepAll_holds : Rows.FnExactRepAllSaid :=
  OpenClaim.holds_of_wide 9 Try.f9 rfl rfl rfl rfl rfl rfl rfl ⟨rfl, rfl, rfl, rfl, rfl⟩ rfl rfl rfl rfl rfl (by kernel_rfl) Try.func9 (by kernel_rfl)
    (of_decide_eq_true (by kernel_rfl)) (by unfold Func.isWrapper; first | (rw [if_pos (by decide +kernel)]; kernel_rfl) | (rw [if_neg (by decide +kernel)]; exact ⟨rfl, rfl⟩))
    (fun os started H enc _ => fnExactRepAll_lifted os started H enc)
#print axioms fnExactRepAll_holds
end Go.Proofs.Ytljhopjmmcmioaa

