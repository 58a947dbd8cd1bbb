/-
  The law on PutNum returns true for every slice of bytes and every number; both arguments read afterwards as before.
-/
import Derived.Test.YthcdlllclbdbmaaPN
namespace Go.Proofs.Ythcdlllclbdbmaa
open Go.AM Go.ChangeShapes Go.WideShapes Go.ChangeAt Go.RowKit
set_option maxRecDepth 20000

theorem varint_len (n : Nat) : (varint n).length ≤ n + 1 := by
  induction n using Nat.strongRecOn with
  | _ n ih =>
    by_cases h : n < 128
    · rw [varint_small h]; simp
    · rw [varint_big h]; have := ih (n / 128) (by omega); simp; omega

theorem putNum_len (b : List UInt8) (hb : b.length ≤ 2 ^ 20) (n : Int) : (putNum b n).length ≤ 2 ^ 40 := by
  unfold putNum
  split
  · have := varint_len n.toNat
    simp; omega
  · simp

theorem putNumLaw_c (l : List UInt8) (p : Int) : PureC Try.prog 4 [.c (.s (l.map byteR)), .c (vi p)] (.one (.c (.v (.bool true)) 1)) := by
  refine PureC.introL tt_ok Try.func4 (by kernel_rfl) rfl rfl rfl (Nat.le_of_ble_eq_true rfl) rfl (fun w0 base us => ?_)
  simp
  intro hu
  by_cases hbig : 1048576 < (l.length : Int)
  · simp [hbig]
  have hl : l.length ≤ 2 ^ 20 := by omega
  have hl' : l.length ≤ 2 ^ 40 := by omega
  have hs := specPutNum_c l hl p
  have hi := implPutNum_c l hl p
  have hr := putNum_len l hl p
  generalize putNum l p = r at hs hi hr
  obtain ⟨ok, hok⟩ : ∃ ok : Bool, vb (0 ≤ p ∧ p ≤ 1114111000) = .v (.bool ok) := ⟨_, rfl⟩
  rw [hok] at hs hi
  simp [hbig]
  refine ACall.pure (toByteS_c l hl') (by simp [hu]) ?_
  simp
  intro H1
  refine ACall.pure hs (by simp) ?_
  simp
  intro H2
  refine ACall.pure (toByteS_c l hl') (by simp [hu]) ?_
  simp
  intro H3
  refine ACall.pure hi (by simp) ?_
  simp
  intro H4
  refine ACall.pure (eqByteS_c r r hr) (by simp) ?_
  simp
  refine ACall.pure (toByteS_c l hl') (by simp [hu]) ?_
  simp
  intro H5
  refine ACall.pure (eqByteS_c l l hl') (by simp) ?_
  simp
  refine ACall.mark (markByteS_c l 1 (by omega) (by omega)) rfl (fun _ h => h) (by simp) ?_
  have k1 : ¬ ((1 : Int) + l.length < 0) := by omega
  simp [k1]
  refine ACall.pure (eqByteS_c r r hr) (by simp) ?_
  simp
  refine ACall.mark (markByteS_c r 1 (by omega) (by omega)) rfl (fun _ h => h) (by simp) ?_
  have k2 : ¬ ((1 : Int) + r.length < 0) := by omega
  simp [k2]
  refine ACall.pure (heldByteS_c r 1 (by omega) (by omega)) (by simp [markL_length]) ?_
  simp [k2]
  refine ACall.pure (toByteS_c l hl') (by simp [hu]) ?_
  simp
  intro H6
  refine ACall.pure hi (by simp) ?_
  simp
  intro H7
  refine ACall.pure (eqByteS_c r r hr) (by simp) ?_
  simp
  refine ACall.pure (heldByteS_c r 1 (by omega) (by omega)) (by simp [markL_length]) ?_
  simp [k2]

set_option maxRecDepth 100000 in
theorem fnExactPutNum_lifted (os : Os) (started : os.Started) (H : Type) (enc : TypeId × Value → H) :
    ReturnsInHanded {} Try.checked os 4 .any (Rows.fnExactPutNumSpec.pre6 enc Try.prog Try.f4 Rows.fnExactPutNumRow.domain false) (Rows.fnExactPutNumSpec.post enc Try.prog Try.f4 false true false false) := by
  refine returnsInHanded_of_change (C := Try.checked) own started (by kernel_rfl) Try.func4
    (ChangeSpec.witness6 (enc := enc) (C := Try.checked) false ⟨#[], #[.slice none 0 0, .int .i64 0], []⟩ 8 (by kernel_rfl) (by kernel_rfl) (by kernel_rfl) (by kernel_rfl)) ?_
  intro W base args ds gs before hval hW _ _
  refine law_post (D := 3) laid rfl rfl Try.underlying4 (by kernel_rfl) (by kernel_rfl) (fun ds h => ?_) hval hW (fun vds ho => ?_)
  · match ds, h with
    | [d1, d2], _ => rfl
  · have ho' : Opens Try.prog 3 W [22, 3] args.toList vds := ho
    obtain ⟨v1, _, rfl, h1, _, ho1⟩ := ho'.cons
    obtain ⟨v2, _, rfl, h2, _, ho2⟩ := ho1.cons
    obtain rfl := ho2.nil
    obtain ⟨l, rfl, h3⟩ := fitsV_bytes Try.underlying22 Try.underlying5 h1
    obtain ⟨n, rfl, h4⟩ := fitsV_i64 Try.underlying3 h2
    exact putNumLaw_c l n

theorem fnExactPutNum_holds : Rows.FnExactPutNumSaid :=
  OpenClaim.holds_of_wide 4 Try.f4 rfl rfl rfl rfl rfl rfl rfl ⟨rfl, rfl, rfl, rfl, rfl⟩ rfl rfl rfl rfl rfl (by kernel_rfl) Try.func4 (by kernel_rfl)
    (of_decide_eq_true (by kernel_rfl)) (by unfold Func.isWrapper; first | (rw [if_pos (by decide +kernel)]; kernel_rfl) | (rw [if_neg (by decide +kernel)]; exact ⟨rfl, rfl⟩))
    (fun os started H enc _ => fnExactPutNum_lifted os started H enc)
#print axioms fnExactPutNum_holds
end Go.Proofs.Ythcdlllclbdbmaa
