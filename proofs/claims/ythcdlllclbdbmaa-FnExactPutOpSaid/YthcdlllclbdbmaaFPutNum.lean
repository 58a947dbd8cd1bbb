import Derived.Test.YthcdlllclbdbmaaFOp
namespace Go.Proofs.Ythcdlllclbdbmaa
open Go.AM
set_option maxRecDepth 20000

/-- a number, seven bits a byte -/
def varint (n : Nat) : List UInt8 := if h : n < 128 then [UInt8.ofNat n] else UInt8.ofNat (128 + n % 128) :: varint (n / 128)
termination_by n
decreasing_by omega

theorem u8_ofNat {n : Nat} (h : n < 256) : Go.IntKind.u8.wrap (n : Int) = ((UInt8.ofNat n).toNat : Int) := by
  rw [UInt8.toNat_ofNat']
  show (n : Int) % 256 = _
  omega

theorem varint_big {n : Nat} (h : ¬ n < 128) : varint n = UInt8.ofNat (128 + n % 128) :: varint (n / 128) := by rw [varint]; simp [h]
theorem varint_small {n : Nat} (h : n < 128) : varint n = [UInt8.ofNat n] := by rw [varint]; simp [h]

noncomputable def putNum (b : List UInt8) (n : Int) : List UInt8 := if 0 ≤ n ∧ n ≤ 1114111000 then b ++ varint n.toNat else []

theorem specPutNum_c (b : List UInt8) (hb : b.length ≤ 2 ^ 40) (n : Int) : PureC Try.prog 19 [.c (.s (b.map byteR)), .c (vi n)] (.tup [.c (.s ((putNum b n).map byteR)) 1, .c (vb (0 ≤ n ∧ n ≤ 1114111000)) 1]) := by
  refine PureC.intro' tt_ok Try.func19 (by kernel_rfl) rfl rfl rfl (Nat.le_of_ble_eq_true rfl) (fun w0 base => ?_)
  simp
  refine ACall.pure (l01In_c n 0 1114111000) (by simp) ?_
  by_cases hn : 0 ≤ n ∧ n ≤ 1114111000
  · obtain ⟨m, rfl⟩ : ∃ m : Nat, n = m := ⟨n.toNat, by omega⟩
    have hm : m ≤ 1114111000 := by omega
    have hm' : ((0 : Int) ≤ m ∧ (m : Int) ≤ 1114111000) := hn
    have hp : putNum b (m : Int) = b ++ varint m := by unfold putNum; rw [if_pos hm']; rfl
    simp [hm', hm, hp]
    intro b1
    refine ⟨by omega, fun H => ?_⟩
    refine LoopT.intro eok (fun x : Hd × List UInt8 × Nat => x.2.1.length + x.2.2 ≤ m ∧ x.2.1 ++ varint x.2.2 = varint m) (fun x => ⟨29, 0, [(1, .v (.int .i64 x.2.2)), (6, .sl 160 x.1 1 0 (b.length + x.2.1.length))], [(160, .rows x.1 1 ((b ++ x.2.1).map byteR) true)]⟩) (fun x => x.2.2) (H, [], m) (by simp) (by simp) (fun x hx => ?_)
    obtain ⟨H, d, q⟩ := x
    simp only at hx
    obtain ⟨h1, h2⟩ := hx
    by_cases hq : q < 128
    · have e0 : ¬ (127 : Int) < q := by omega
      obtain ⟨u, hu⟩ : ∃ u, UInt8.ofNat q = u := ⟨_, rfl⟩
      have e3 := u8_ofNat (show q < 256 by omega)
      rw [varint_small hq] at h2
      rw [hu] at e3 h2
      simp [e0, e3]
      refine ⟨by omega, ?_, ?_⟩
      · rintro row ((⟨a, -, rfl⟩ | ⟨a, -, rfl⟩) | rfl) <;> rfl
      · rw [cut_len (by simp; omega)]; simp [← h2, byteR]
    · have e0 : (127 : Int) < q := by omega
      have e1 : Go.IntKind.i64.wrap (128 + (q : Int) % 128) = 128 + (q : Int) % 128 := Go.IntWalk.i64_in _ (by omega)
      have e2 : Go.IntKind.i64.wrap ((q : Int) / 128) = (q : Int) / 128 := Go.IntWalk.i64_in _ (by omega)
      obtain ⟨u, hu⟩ : ∃ u, UInt8.ofNat (128 + q % 128) = u := ⟨_, rfl⟩
      have e3 : Go.IntKind.u8.wrap (128 + (q : Int) % 128) = u.toNat := by
        have := u8_ofNat (show 128 + q % 128 < 256 by omega)
        rw [hu] at this
        rw [← this]; rfl
      rw [varint_big hq] at h2
      rw [hu] at h2
      have et : (q : Int).tmod 128 = (q : Int) % 128 := Int.tmod_eq_emod_of_nonneg (by omega)
      simp [e0, et, e1, e2, e3]
      refine ⟨by omega, fun H2 => ⟨H2, d ++ [u], q / 128, ?_, ?_, ?_⟩⟩
      · simp [h2]; omega
      · omega
      · simp [byteR]; omega
  · have hp : putNum b n = [] := by unfold putNum; rw [if_neg hn]
    have e : dc (0 ≤ n ∧ n ≤ 1114111000) = false := by rw [dc_no]; exact hn
    simp [e, hp]

theorem implPutNum_c (b : List UInt8) (hb : b.length ≤ 2 ^ 40) (n : Int) : PureC Try.prog 20 [.c (.s (b.map byteR)), .c (vi n)] (.tup [.c (.s ((putNum b n).map byteR)) 1, .c (vb (0 ≤ n ∧ n ≤ 1114111000)) 1]) := by
  refine PureC.intro' tt_ok Try.func20 (by kernel_rfl) rfl rfl rfl (Nat.le_of_ble_eq_true rfl) (fun w0 base => ?_)
  simp
  refine ACall.pure (within_c n 0 1114111000) (by simp) ?_
  by_cases hn : 0 ≤ n ∧ n ≤ 1114111000
  · obtain ⟨m, rfl⟩ : ∃ m : Nat, n = m := ⟨n.toNat, by omega⟩
    have hm : m ≤ 1114111000 := by omega
    have hm' : ((0 : Int) ≤ m ∧ (m : Int) ≤ 1114111000) := hn
    have hp : putNum b (m : Int) = b ++ varint m := by unfold putNum; rw [if_pos hm']; rfl
    simp [hm', hm, hp]
    refine ⟨by omega, fun H => ?_⟩
    refine LoopT.intro eok (fun x : Hd × List UInt8 × Nat => x.2.1.length + x.2.2 ≤ m ∧ x.2.1 ++ varint x.2.2 = varint m) (fun x => ⟨28, 0, [(1, .v (.int .i64 x.2.2)), (6, .sl 176 x.1 1 0 (b.length + x.2.1.length))], [(176, .rows x.1 1 ((b ++ x.2.1).map byteR) true)]⟩) (fun x => x.2.2) (H, [], m) (by simp) (by simp) (fun x hx => ?_)
    obtain ⟨H, d, q⟩ := x
    simp only at hx
    obtain ⟨h1, h2⟩ := hx
    by_cases hq : q < 128
    · have e0 : ¬ (128 : Int) ≤ q := by omega
      obtain ⟨u, hu⟩ : ∃ u, UInt8.ofNat q = u := ⟨_, rfl⟩
      have e3 := u8_ofNat (show q < 256 by omega)
      rw [varint_small hq] at h2
      rw [hu] at e3 h2
      simp [e0, e3]
      refine ⟨by omega, ?_, ?_⟩
      · rintro row ((⟨a, -, rfl⟩ | ⟨a, -, rfl⟩) | rfl) <;> rfl
      · rw [cut_len (by simp; omega)]; simp [← h2, byteR]
    · have e0 : (128 : Int) ≤ q := by omega
      have e1 : Go.IntKind.i64.wrap ((q : Int) % 128 + 128) = (q : Int) % 128 + 128 := Go.IntWalk.i64_in _ (by omega)
      have e2 : Go.IntKind.i64.wrap ((q : Int) / 128) = (q : Int) / 128 := Go.IntWalk.i64_in _ (by omega)
      obtain ⟨u, hu⟩ : ∃ u, UInt8.ofNat (128 + q % 128) = u := ⟨_, rfl⟩
      have e3 : Go.IntKind.u8.wrap ((q : Int) % 128 + 128) = u.toNat := by
        have := u8_ofNat (show 128 + q % 128 < 256 by omega)
        rw [hu] at this
        rw [← this]; congr 1; omega
      rw [varint_big hq] at h2
      rw [hu] at h2
      have et : (q : Int).tmod 128 = (q : Int) % 128 := Int.tmod_eq_emod_of_nonneg (by omega)
      simp [e0, et, e1, e2, e3]
      refine ⟨by omega, fun H2 => ⟨H2, d ++ [u], q / 128, ?_, ?_, ?_⟩⟩
      · simp [h2]; omega
      · omega
      · simp [byteR]; omega
  · have hp : putNum b n = [] := by unfold putNum; rw [if_neg hn]
    have e : dc (0 ≤ n ∧ n ≤ 1114111000) = false := by rw [dc_no]; exact hn
    simp [e, hp]
theorem varint_len (n : Nat) : (varint n).length ≤ n + 1 := by
  induction n using Nat.strongRecOn with
  | _ n ih =>
    by_cases h : n < 128
    · rw [varint_small h]; simp
    · rw [varint_big h]; have := ih (n / 128) (by omega); simp; omega

end Go.Proofs.Ythcdlllclbdbmaa
