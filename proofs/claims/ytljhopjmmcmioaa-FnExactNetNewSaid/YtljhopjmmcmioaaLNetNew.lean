import Derived.Test.YtljhopjmmcmioaaPG
import Derived.Test.YtljhopjmmcmioaaNA
import Derived.Test.YtljhopjmmcmioaaMF
/-
  The law on NetNew returns true for every argument; what it was handed reads afterwards as before.
-/
namespace Go.Proofs.Ytljhopjmmcmioaa
open Go.AM Go.ChangeShapes Go.WideShapes Go.ChangeAt Go.RowKit
set_option maxRecDepth 20000

set_option maxHeartbeats 3200000 in
theorem lawNetNew_c (a0 : ByteArray) (f0 : a0.size ≤ 9223372036854775807) (a1 : List Int) (f1 : (a1.length ≤ 9223372036854775807 ∧ ∀ n ∈ a1, i64r n)) (a2 : Int) (f2 : i64r a2) : PureC Try.prog 7 [.c (.v (.string a0)), .c (.s (a1.map intR)), .c (vi a2)] (.one (.c (.v (.bool true)) 1)) := by
  refine PureC.introL tt_ok Try.func7 (by kernel_rfl) rfl rfl rfl (Nat.le_of_ble_eq_true rfl) rfl (fun w0 base us => ?_)
  simp
  intro u0
  try intros
  by_cases hbig0 : 1048576 < (a0.size : Int)
  · simp [hbig0]
  have n0 : a0.size ≤ 2 ^ 20 := by omega
  simp [hbig0]
  by_cases hbig1 : 1048576 < (a1.length : Int)
  · simp [hbig1]
  have n1 : a1.length ≤ 2 ^ 20 := by omega
  simp [hbig0, hbig1]
  have hs := specNetNew_c a0 f0 n0 a1 f1 n1 a2 f2
  have hi := implNetNew_c a0 f0 n0 a1 f1 n1 a2 f2
  have hb := fNetNew_b a0 f0 n0 a1 f1 n1 a2 f2
  generalize fNetNew a0 a1 a2 = r at hs hi hb
  obtain ⟨r0, r1⟩ := r
  simp only at hs hi hb
  have nn0 : a0.size ≤ 2 ^ 40 := Nat.le_trans n0 (by decide)
  have nn1 : a1.length ≤ 2 ^ 40 := Nat.le_trans n1 (by decide)
  have := Net.cntT_le r0
  refine ACall.pure (toIntS_c a1 (by omega)) (by simp [u0]) ?_
  simp
  try intros
  refine ACall.pure hs (by simp) ?_
  simp [Net.res]
  try intros
  refine ACall.pure (toIntS_c a1 (by omega)) (by simp [u0]) ?_
  simp
  try intros
  refine ACall.pure hi (by simp) ?_
  simp [Net.res]
  try intros
  refine ACall.pure (eqNet_c r0 r0 (by omega)) (by simp [Net.row]) ?_
  simp
  refine ACall.pure (toIntS_c a1 (by omega)) (by simp [u0]) ?_
  simp
  try intros
  refine ACall.pure (eqIntS_c a1 a1 (by omega)) (by simp) ?_
  simp
  refine ACall.mark (markIntS_c a1 1 (by omega) (by omega)) rfl (fun _ h => h) (by simp) ?_
  obtain ⟨c1, hc1⟩ : ∃ c, 1 + ((a1.length : Nat) : Int) = c := ⟨_, rfl⟩
  have zc1 : ¬ c1 < 0 := by omega
  simp [hc1, zc1]
  refine ACall.pure (eqNet_c r0 r0 (by omega)) (by simp [Net.row]) ?_
  simp
  refine ACall.mark (markNet_c r0 1 (by omega) (by omega) (by omega)) rfl (fun _ h => h) (by simp) ?_
  obtain ⟨c2, hc2⟩ : ∃ c, 1 + ((r0.cntT : Nat) : Int) = c := ⟨_, rfl⟩
  have zc2 : ¬ c2 < 0 := by omega
  simp [Net.markT, Net.res, hc2]
  refine ACall.pure (heldNet_c r0 1 (by omega) (by omega) (by omega)) (by simp [markL_length, Net.row, Net.markT]) ?_
  simp [hc2, zc2]
  refine ACall.pure (toIntS_c a1 (by omega)) (by simp [u0]) ?_
  simp
  try intros
  refine ACall.pure hi (by simp) ?_
  simp [Net.res]
  try intros
  refine ACall.pure (eqNet_c r0 r0 (by omega)) (by simp [Net.row]) ?_
  simp
  refine ACall.pure (heldNet_c r0 1 (by omega) (by omega) (by omega)) (by simp [markL_length, Net.row, Net.markT]) ?_
  simp [hc2, zc2]

set_option maxRecDepth 100000 in
theorem fnExactNetNew_lifted (os : Os) (started : os.Started) (H : Type) (enc : TypeId × Value → H) :
    ReturnsInHanded {} Try.checked os 7 .any (Rows.fnExactNetNewSpec.pre6 enc Try.prog Try.f7 Rows.fnExactNetNewRow.domain false) (Rows.fnExactNetNewSpec.post enc Try.prog Try.f7 false true false false) := by
  refine returnsInHanded_of_change (C := Try.checked) own started (by kernel_rfl) Try.func7
    (ChangeSpec.witness6 (enc := enc) (C := Try.checked) false ⟨#[], #[.string ⟨#[]⟩, .slice none 0 0, .int .i64 0], []⟩ 12 (by kernel_rfl) (by kernel_rfl) (by kernel_rfl) (by kernel_rfl)) ?_
  intro W base args ds gs before hval hW _ _
  refine law_post (D := 10) laid rfl rfl Try.underlying4 (by kernel_rfl) (by kernel_rfl) (fun ds h => ?_) hval hW (fun vds ho => ?_)
  · match ds, h with
    | [d0, d1, d2], _ => rfl
  · have ho0 : Opens Try.prog 10 W [9, 22, 3] args.toList vds := ho
    obtain ⟨v0, _, rfl, h0, _, ho1⟩ := ho0.cons
    obtain ⟨v1, _, rfl, h1, _, ho2⟩ := ho1.cons
    obtain ⟨v2, _, rfl, h2, _, ho3⟩ := ho2.cons
    obtain rfl := ho3.nil
    obtain ⟨x0, rfl, y0⟩ := fitsV_c Try.underlying9 (by simp) h0
    obtain ⟨a0, z0, e0⟩ := fits_string Try.underlying9 y0
    simp at z0
    subst z0
    rw [mL] at e0
    obtain ⟨x1, rfl, y1⟩ := fitsV_sl Try.underlying22 h1
    obtain ⟨a1, z1, e1⟩ := fits_ints y1
    simp at z1
    subst z1
    obtain ⟨a2, rfl, e2⟩ := fitsV_i64 Try.underlying3 h2
    exact lawNetNew_c a0 e0 a1 e1 a2 e2

theorem fnExactNetNew_holds : Rows.FnExactNetNewSaid :=
  OpenClaim.holds_of_wide 7 Try.f7 rfl rfl rfl rfl rfl rfl rfl ⟨rfl, rfl, rfl, rfl, rfl⟩ rfl rfl rfl rfl rfl (by kernel_rfl) Try.func7 (by kernel_rfl)
    (of_decide_eq_true (by kernel_rfl)) (by unfold Func.isWrapper; first | (rw [if_pos (by decide +kernel)]; kernel_rfl) | (rw [if_neg (by decide +kernel)]; exact ⟨rfl, rfl⟩))
    (fun os started H enc _ => fnExactNetNew_lifted os started H enc)
#print axioms fnExactNetNew_holds
end Go.Proofs.Ytljhopjmmcmioaa

