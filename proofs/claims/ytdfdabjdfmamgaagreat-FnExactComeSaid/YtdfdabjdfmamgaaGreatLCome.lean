import Derived.Test.YtdfdabjdfmamgaaGreatKCome
import Derived.Test.YtdfdabjdfmamgaaGreatPH
import Derived.Test.YtdfdabjdfmamgaaGreatNB
import Derived.Test.YtdfdabjdfmamgaaGreatMF
/-
  The law on Come returns true for every argument; what it was handed reads afterwards as before.
-/
namespace Go.Proofs.YtdfdabjdfmamgaaGreat
open Go.AM Go.ChangeShapes Go.WideShapes Go.ChangeAt Go.RowKit
set_option maxRecDepth 20000

set_option maxHeartbeats 3200000 in
theorem lawCome_c (a0 : Wld) (f0 : a0.fits) (a1 : Call) (f1 : a1.fits) : PureC Tryz.prog 10 [.agg a0.row, .agg a1.row] (.one (.c (.v (.bool true)) 1)) := by
  refine PureC.introL tt_ok Tryz.func10 (by kernel_rfl) rfl rfl rfl (Nat.le_of_ble_eq_true rfl) rfl (fun w0 base us => ?_)
  simp [Wld.row, Call.row]
  intro u0 u1 u2 u3 u4 u5 u6
  try intros
  refine ACall.pure (szWorld_c a0 f0 (2 ^ 20) (by omega)) (by simp [Wld.row, u0, u1, u2, u3, u4]) ?_
  by_cases k1 : nWorld a0 ≤ 2 ^ 20
  rotate_left
  · rw [szR_no k1]; simp
  rw [szR_ok k1]
  obtain ⟨m1, hm1⟩ : ∃ m, 2 ^ 20 - nWorld a0 = m := ⟨_, rfl⟩
  rw [hm1]
  have n0 : nWorld a0 ≤ 2 ^ 20 := by omega
  simp
  refine ACall.pure (szCall_c a1 f1 (m1) (by omega)) (by simp [Call.row, u5, u6]) ?_
  by_cases k2 : nCall a1 ≤ m1
  rotate_left
  · rw [szR_no k2]; simp
  rw [szR_ok k2]
  obtain ⟨m2, hm2⟩ : ∃ m, m1 - nCall a1 = m := ⟨_, rfl⟩
  rw [hm2]
  have n1 : nCall a1 ≤ 2 ^ 20 := by omega
  simp
  have hs := specCome_c a0 f0 n0 a1 f1 n1
  have hi := implCome_c a0 f0 n0 a1 f1 n1
  have hb := fCome_b a0 f0 n0 a1 f1 n1
  generalize fCome a0 a1 = r at hs hi hb
  obtain ⟨r0, r1⟩ := r
  simp only at hs hi hb
  have nn0 : nWorld a0 ≤ 2 ^ 40 := Nat.le_trans n0 (by decide)
  have nn1 : nCall a1 ≤ 2 ^ 40 := Nat.le_trans n1 (by decide)
  have := Wld.cntT_le a0
  have := Call.cntT_le a1
  have := Wld.cntT_le r0
  refine DrawT.cutS (fun x : Hd × Hd × Hd × Hd × Hd × Nat => [(6, .p 96 x.2.2.2.2.2 0), (7, .v (.bool r1))]) (fun x => [(96, .vars x.2.2.2.2.2 71 [.v (.bool r0.h.shut), .sl 513 x.1 5 0 r0.h.docs.length, .sl 514 x.2.1 6 0 r0.h.subs.length, .v (.int .i64 r0.h.last), .sl 516 x.2.2.1 1 0 r0.locks.length, .sl 517 x.2.2.2.1 2 0 r0.queues.length, .sl 518 x.2.2.2.2.1 15 0 r0.tasks.length, .v (.int .i64 r0.step)]), (513, .rows x.1 5 (r0.h.docs.map Doc.row) true), (514, .rows x.2.1 6 (r0.h.subs.map Sub.row) true), (516, .rows x.2.2.1 1 (r0.locks.map intR) true), (517, .rows x.2.2.2.1 2 (r0.queues.map Queue.row) true), (518, .rows x.2.2.2.2.1 15 (r0.tasks.map Task.row) true)]) [2, 3] ?_ ?_
  · refine DrawT.introS eok mix [0, 2] [1, 3, 4, 5, 6, 7, 8, 9, 10] (.child 1 [false, true] [true, false] (.child 3 [true, false] [false, false] (.child 4 [false, false] [false, false] (.child 5 [false, false] [false, false] (.child 6 [false, false] [false, false] (.child 7 [false, false] [false, false] (.child 8 [false, false] [false, false] (.child 9 [false, false] [false, false] (.child 10 [false, false] [false, false] (.leaf [false, false]) .stop) .stop) .stop) .stop) .stop) .stop) (.child 8 [false, false] [false, false] (.child 4 [false, false] [false, false] (.child 5 [false, false] [false, false] (.child 6 [false, false] [false, false] (.child 7 [false, false] [false, false] (.child 9 [false, false] [false, false] (.child 10 [false, false] [false, false] (.leaf [false, false]) .stop) .stop) .stop) .stop) .stop) .stop) .stop)) (.child 8 [false, false] [true, false] (.child 3 [true, false] [false, false] (.child 4 [false, false] [false, false] (.child 5 [false, false] [false, false] (.child 6 [false, false] [false, false] (.child 7 [false, false] [false, false] (.child 9 [false, false] [false, false] (.child 10 [false, false] [false, false] (.leaf [false, false]) .stop) .stop) .stop) .stop) .stop) .stop) .stop) .stop)) (.child 8 [false, false] [true, true] (.child 1 [false, true] [true, false] (.child 3 [true, false] [false, false] (.child 4 [false, false] [false, false] (.child 5 [false, false] [false, false] (.child 6 [false, false] [false, false] (.child 7 [false, false] [false, false] (.child 9 [false, false] [false, false] (.child 10 [false, false] [false, false] (.leaf [false, false]) .stop) .stop) .stop) .stop) .stop) .stop) .stop) .stop) .stop)) (by kernel_rfl) ?_
    simp
    rw [Tr_child]
    refine ⟨?_, ?_⟩
    · skip
      simp
      try intros
      refine ACall.pure (toWorld_c a0 (by omega)) (by simp [Wld.row, u0, u1, u2, u3, u4]) ?_
      simp [Wld.res]
      try intros
      rw [Tr_child]
      refine ⟨?_, ?_⟩
      · skip
        simp
        try intros
        refine ACall.pure (toCall_c a1 (by omega)) (by simp [Call.row, u5, u6]) ?_
        simp [Call.res]
        try intros
        rw [Tr_child]
        refine ⟨?_, ?_⟩
        · skip
          simp
          try intros
          refine ACall.pure (hs) (by simp [Wld.row, Call.row]) ?_
          simp [Wld.res]
          try intros
        · skip
          simp
          try intros
          refine ACall.pure (hs) (by simp [Wld.row, Call.row]) ?_
          simp [Wld.res]
          try intros
      · skip
        simp
        try intros
        refine ACall.pure (toCall_c a1 (by omega)) (by simp [Call.row, u5, u6]) ?_
        simp [Call.res]
        try intros
        refine ACall.pure (hs) (by simp [Wld.row, Call.row]) ?_
        simp [Wld.res]
        try intros
    · skip
      simp
      try intros
      refine ACall.pure (toWorld_c a0 (by omega)) (by simp [Wld.row, u0, u1, u2, u3, u4]) ?_
      simp [Wld.res]
      try intros
      refine ACall.pure (toCall_c a1 (by omega)) (by simp [Call.row, u5, u6]) ?_
      simp [Call.res]
      try intros
      refine ACall.pure (hs) (by simp [Wld.row, Call.row]) ?_
      simp [Wld.res]
      try intros
  rintro ⟨H513, H514, H516, H517, H518, b6⟩
  simp
  refine ACall.pure (toWorld_c a0 (by omega)) (by simp [Wld.row, u0, u1, u2, u3, u4]) ?_
  simp [Wld.res]
  try intros
  refine ACall.pure (toCall_c a1 (by omega)) (by simp [Call.row, u5, u6]) ?_
  simp [Call.res]
  try intros
  refine ACall.pure hi (by simp [Wld.row, Call.row]) ?_
  simp [Wld.res]
  try intros
  refine ACall.pure (eqWorld_c r0 r0 (by omega)) (by simp [Wld.row]) ?_
  simp
  refine DrawT.quietH eok mix (by kernel_rfl) ?_
  simp
  refine ⟨_, _, toWorld_c a0 (by omega), by simp [Wld.row, u0, u1, u2, u3, u4], ?_⟩
  simp [Wld.res]
  refine ⟨_, _, eqWorld_c a0 a0 (by omega), by simp [Wld.row], ?_⟩
  simp
  refine DrawT.quietH eok mix (by kernel_rfl) ?_
  simp
  refine ⟨_, _, toCall_c a1 (by omega), by simp [Call.row, u5, u6], ?_⟩
  simp [Call.res]
  refine ⟨_, _, eqCall_c a1 a1 (by omega), by simp [Call.row], ?_⟩
  simp
  refine ACall.mark (markWorld_c a0 1 (by omega) (by omega) (by omega)) rfl (fun _ h => h) (by simp) ?_
  obtain ⟨c1, hc1⟩ : ∃ c, 1 + ((a0.cntT : Nat) : Int) = c := ⟨_, rfl⟩
  have zc1 : ¬ c1 < 0 := by omega
  simp [Wld.markT, Wld.res, hc1]
  refine ACall.mark (markCall_c a1 c1 (by omega) (by omega) (by omega)) rfl (fun _ h => h) (by simp) ?_
  obtain ⟨c2, hc2⟩ : ∃ c, c1 + ((a1.cntT : Nat) : Int) = c := ⟨_, rfl⟩
  have zc2 : ¬ c2 < 0 := by omega
  simp [Call.markT, Call.res, hc2, zc2]
  refine ACall.pure (eqWorld_c r0 r0 (by omega)) (by simp [Wld.row]) ?_
  simp
  refine ACall.mark (markWorld_c r0 1 (by omega) (by omega) (by omega)) rfl (fun _ h => h) (by simp) ?_
  obtain ⟨c3, hc3⟩ : ∃ c, 1 + ((r0.cntT : Nat) : Int) = c := ⟨_, rfl⟩
  have zc3 : ¬ c3 < 0 := by omega
  simp [Wld.markT, Wld.res, hc3]
  refine ACall.pure (heldWorld_c r0 1 (by omega) (by omega) (by omega)) (by simp [markL_length, Wld.row, Wld.markT]) ?_
  simp [hc3, zc3]
  refine DrawT.cutS (fun x : Hd × Hd × Hd × Hd × Hd × Nat => [(15, .p 240 x.2.2.2.2.2 0), (16, .v (.bool r1))]) (fun x => [(240, .vars x.2.2.2.2.2 71 [.v (.bool r0.h.shut), .sl 1585 x.1 5 0 r0.h.docs.length, .sl 1586 x.2.1 6 0 r0.h.subs.length, .v (.int .i64 r0.h.last), .sl 1588 x.2.2.1 1 0 r0.locks.length, .sl 1589 x.2.2.2.1 2 0 r0.queues.length, .sl 1590 x.2.2.2.2.1 15 0 r0.tasks.length, .v (.int .i64 r0.step)]), (1585, .rows x.1 5 (r0.h.docs.map Doc.row) true), (1586, .rows x.2.1 6 (r0.h.subs.map Sub.row) true), (1588, .rows x.2.2.1 1 (r0.locks.map intR) true), (1589, .rows x.2.2.2.1 2 (r0.queues.map Queue.row) true), (1590, .rows x.2.2.2.2.1 15 (r0.tasks.map Task.row) true)]) [6, 7, 10, 13, 14] ?_ ?_
  · refine DrawT.introS eok mix [0, 2] [1, 3, 4, 5, 6, 7, 8, 9, 10] (.child 1 [false, true] [true, false] (.child 3 [true, false] [false, false] (.child 4 [false, false] [false, false] (.child 5 [false, false] [false, false] (.child 6 [false, false] [false, false] (.child 7 [false, false] [false, false] (.child 8 [false, false] [false, false] (.child 9 [false, false] [false, false] (.child 10 [false, false] [false, false] (.leaf [false, false]) .stop) .stop) .stop) .stop) .stop) .stop) (.child 8 [false, false] [false, false] (.child 4 [false, false] [false, false] (.child 5 [false, false] [false, false] (.child 6 [false, false] [false, false] (.child 7 [false, false] [false, false] (.child 9 [false, false] [false, false] (.child 10 [false, false] [false, false] (.leaf [false, false]) .stop) .stop) .stop) .stop) .stop) .stop) .stop)) (.child 8 [false, false] [true, false] (.child 3 [true, false] [false, false] (.child 4 [false, false] [false, false] (.child 5 [false, false] [false, false] (.child 6 [false, false] [false, false] (.child 7 [false, false] [false, false] (.child 9 [false, false] [false, false] (.child 10 [false, false] [false, false] (.leaf [false, false]) .stop) .stop) .stop) .stop) .stop) .stop) .stop) .stop)) (.child 8 [false, false] [true, true] (.child 1 [false, true] [true, false] (.child 3 [true, false] [false, false] (.child 4 [false, false] [false, false] (.child 5 [false, false] [false, false] (.child 6 [false, false] [false, false] (.child 7 [false, false] [false, false] (.child 9 [false, false] [false, false] (.child 10 [false, false] [false, false] (.leaf [false, false]) .stop) .stop) .stop) .stop) .stop) .stop) .stop) .stop) .stop)) (by kernel_rfl) ?_
    simp
    rw [Tr_child]
    refine ⟨?_, ?_⟩
    · skip
      simp
      try intros
      refine ACall.pure (toWorld_c a0 (by omega)) (by simp [Wld.row, u0, u1, u2, u3, u4]) ?_
      simp [Wld.res]
      try intros
      rw [Tr_child]
      refine ⟨?_, ?_⟩
      · skip
        simp
        try intros
        refine ACall.pure (toCall_c a1 (by omega)) (by simp [Call.row, u5, u6]) ?_
        simp [Call.res]
        try intros
        rw [Tr_child]
        refine ⟨?_, ?_⟩
        · skip
          simp
          try intros
          refine ACall.pure (hi) (by simp [Wld.row, Call.row]) ?_
          simp [Wld.res]
          try intros
        · skip
          simp
          try intros
          refine ACall.pure (hi) (by simp [Wld.row, Call.row]) ?_
          simp [Wld.res]
          try intros
      · skip
        simp
        try intros
        refine ACall.pure (toCall_c a1 (by omega)) (by simp [Call.row, u5, u6]) ?_
        simp [Call.res]
        try intros
        refine ACall.pure (hi) (by simp [Wld.row, Call.row]) ?_
        simp [Wld.res]
        try intros
    · skip
      simp
      try intros
      refine ACall.pure (toWorld_c a0 (by omega)) (by simp [Wld.row, u0, u1, u2, u3, u4]) ?_
      simp [Wld.res]
      try intros
      refine ACall.pure (toCall_c a1 (by omega)) (by simp [Call.row, u5, u6]) ?_
      simp [Call.res]
      try intros
      refine ACall.pure (hi) (by simp [Wld.row, Call.row]) ?_
      simp [Wld.res]
      try intros
  rintro ⟨H1585, H1586, H1588, H1589, H1590, b15⟩
  simp
  refine ACall.pure (eqWorld_c r0 r0 (by omega)) (by simp [Wld.row]) ?_
  simp
  refine ACall.pure (heldWorld_c r0 1 (by omega) (by omega) (by omega)) (by simp [markL_length, Wld.row, Wld.markT]) ?_
  simp [hc3, zc3]

set_option maxRecDepth 100000 in
theorem fnExactCome_lifted (os : Os) (started : os.Started) (H : Type) (enc : TypeId × Value → H) :
    ReturnsInHanded {} Tryz.checked os 10 .any (Rows.fnExactComeSpec.pre6 enc Tryz.prog Tryz.f10 Rows.fnExactComeRow.domain false) (Rows.fnExactComeSpec.post enc Tryz.prog Tryz.f10 false true false false) := by
  refine returnsInHanded_of_change (C := Tryz.checked) own started (by kernel_rfl) Tryz.func10
    (ChangeSpec.witness6 (enc := enc) (C := Tryz.checked) false ⟨#[], #[.agg #[.bool false, .slice none 0 0, .slice none 0 0, .int .i64 0, .slice none 0 0, .slice none 0 0, .slice none 0 0, .int .i64 0], .agg #[.int .i64 0, .string ⟨#[]⟩, .int .i64 0, .int .i64 0, .int .i64 0, .slice none 0 0, .slice none 0 0]], []⟩ 12 (by kernel_rfl) (by kernel_rfl) (by kernel_rfl) (by kernel_rfl)) ?_
  intro W base args ds gs before hval hW _ _
  refine law_post (D := 16) laid rfl rfl Tryz.underlying4 (by kernel_rfl) (by kernel_rfl) (fun ds h => ?_) hval hW (fun vds ho => ?_)
  · match ds, h with
    | [d0, d1], _ => rfl
  · have ho0 : Opens Tryz.prog 16 W [65, 90] args.toList vds := ho
    obtain ⟨v0, _, rfl, h0, _, ho1⟩ := ho0.cons
    obtain ⟨v1, _, rfl, h1, _, ho2⟩ := ho1.cons
    obtain rfl := ho2.nil
    obtain ⟨x0, rfl, y0⟩ := fitsV_struct Tryz.underlying65 (by rw [cells65]; decide) h0
    obtain ⟨a0, rfl, e0⟩ := fits_World y0
    obtain ⟨x1, rfl, y1⟩ := fitsV_struct Tryz.underlying90 (by rw [cells90]; decide) h1
    obtain ⟨a1, rfl, e1⟩ := fits_Call y1
    exact lawCome_c a0 e0 a1 e1

theorem fnExactCome_holds : Rows.FnExactComeSaid :=
  OpenClaim.holds_of_wide 10 Tryz.f10 rfl rfl rfl rfl rfl rfl rfl ⟨rfl, rfl, rfl, rfl, rfl⟩ rfl rfl rfl rfl rfl (by kernel_rfl) Tryz.func10 joinedCome
    (of_decide_eq_true (by kernel_rfl)) (by unfold Func.isWrapper; first | (rw [if_pos (by decide +kernel)]; kernel_rfl) | (rw [if_neg (by decide +kernel)]; exact ⟨rfl, rfl⟩))
    (fun os started H enc _ => fnExactCome_lifted os started H enc)
#print axioms fnExactCome_holds
end Go.Proofs.YtdfdabjdfmamgaaGreat

