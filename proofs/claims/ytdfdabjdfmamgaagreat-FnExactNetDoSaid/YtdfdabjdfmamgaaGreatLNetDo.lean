import Derived.Test.YtdfdabjdfmamgaaGreatKNetDo
import Derived.Test.YtdfdabjdfmamgaaGreatPK
import Derived.Test.YtdfdabjdfmamgaaGreatNB
import Derived.Test.YtdfdabjdfmamgaaGreatMF
/-
  The law on NetDo returns true for every argument; what it was handed reads afterwards as before.
-/
namespace Go.Proofs.YtdfdabjdfmamgaaGreat
open Go.AM Go.ChangeShapes Go.WideShapes Go.ChangeAt Go.RowKit
set_option maxRecDepth 20000

set_option maxHeartbeats 3200000 in
theorem lawNetDo_c (a0 : Net) (f0 : a0.fits) (a1 : Event) (f1 : a1.fits) : PureC Tryz.prog 11 [.agg a0.row, .agg a1.row] (.one (.c (.v (.bool true)) 1)) := by
  refine PureC.introL tt_ok Tryz.func11 (by kernel_rfl) rfl rfl rfl (Nat.le_of_ble_eq_true rfl) rfl (fun w0 base us => ?_)
  simp [Net.row, Event.row]
  intro u0 u1 u2 u3 u4
  try intros
  refine ACall.pure (szNet_c a0 f0 (2 ^ 20) (by omega)) (by simp [Net.row, u0, u1, u2, u3]) ?_
  by_cases k1 : nNet a0 ≤ 2 ^ 20
  rotate_left
  · rw [szR_no k1]; simp
  rw [szR_ok k1]
  obtain ⟨m1, hm1⟩ : ∃ m, 2 ^ 20 - nNet a0 = m := ⟨_, rfl⟩
  rw [hm1]
  have n0 : nNet a0 ≤ 2 ^ 20 := by omega
  simp
  refine ACall.pure (szEvent_c a1 f1 (m1) (by omega)) (by simp [Event.row, u4]) ?_
  by_cases k2 : nEvent a1 ≤ m1
  rotate_left
  · rw [szR_no k2]; simp
  rw [szR_ok k2]
  obtain ⟨m2, hm2⟩ : ∃ m, m1 - nEvent a1 = m := ⟨_, rfl⟩
  rw [hm2]
  have n1 : nEvent a1 ≤ 2 ^ 20 := by omega
  simp
  have hs := specNetDo_c a0 f0 n0 a1 f1 n1
  have hi := implNetDo_c a0 f0 n0 a1 f1 n1
  have hb := fNetDo_b a0 f0 n0 a1 f1 n1
  generalize fNetDo a0 a1 = r at hs hi hb
  obtain ⟨r0, r1⟩ := r
  simp only at hs hi hb
  have nn0 : nNet a0 ≤ 2 ^ 40 := Nat.le_trans n0 (by decide)
  have nn1 : nEvent a1 ≤ 2 ^ 40 := Nat.le_trans n1 (by decide)
  have := Net.cntT_le a0
  have := Event.cntT_le a1
  have := Net.cntT_le r0
  refine DrawT.cutS (fun x : Hd × Hd × Hd × Hd × Nat => [(6, .p 96 x.2.2.2.2 0), (7, .v (.int .i64 r1))]) (fun x => [(96, .vars x.2.2.2.2 38 [.v (.string r0.d.name), .v (.int .i64 r0.d.fr), .sl 514 x.1 1 0 r0.d.text.length, .sl 515 x.2.1 3 0 r0.d.list.length, .sl 516 x.2.2.1 3 0 r0.d.seen.length, .sl 517 x.2.2.2.1 7 0 r0.reps.length]), (514, .rows x.1 1 (r0.d.text.map intR) true), (515, .rows x.2.1 3 (r0.d.list.map Entry.row) true), (516, .rows x.2.2.1 3 (r0.d.seen.map Seen.row) true), (517, .rows x.2.2.2.1 7 (r0.reps.map Rep.row) true)]) [2, 3] ?_ ?_
  · refine DrawT.introS eok mix [0, 2] [1, 3, 4, 5, 6, 7, 8, 9, 10] (.child 1 [false, true] [true, false] (.child 3 [true, false] [false, false] (.child 4 [false, false] [false, false] (.child 5 [false, false] [false, false] (.child 6 [false, false] [false, false] (.child 7 [false, false] [false, false] (.child 8 [false, false] [false, false] (.child 9 [false, false] [false, false] (.child 10 [false, false] [false, false] (.leaf [false, false]) .stop) .stop) .stop) .stop) .stop) .stop) (.child 8 [false, false] [false, false] (.child 4 [false, false] [false, false] (.child 5 [false, false] [false, false] (.child 6 [false, false] [false, false] (.child 7 [false, false] [false, false] (.child 9 [false, false] [false, false] (.child 10 [false, false] [false, false] (.leaf [false, false]) .stop) .stop) .stop) .stop) .stop) .stop) .stop)) (.child 8 [false, false] [true, false] (.child 3 [true, false] [false, false] (.child 4 [false, false] [false, false] (.child 5 [false, false] [false, false] (.child 6 [false, false] [false, false] (.child 7 [false, false] [false, false] (.child 9 [false, false] [false, false] (.child 10 [false, false] [false, false] (.leaf [false, false]) .stop) .stop) .stop) .stop) .stop) .stop) .stop) .stop)) (.child 8 [false, false] [true, true] (.child 1 [false, true] [true, false] (.child 3 [true, false] [false, false] (.child 4 [false, false] [false, false] (.child 5 [false, false] [false, false] (.child 6 [false, false] [false, false] (.child 7 [false, false] [false, false] (.child 9 [false, false] [false, false] (.child 10 [false, false] [false, false] (.leaf [false, false]) .stop) .stop) .stop) .stop) .stop) .stop) .stop) .stop) .stop)) (by kernel_rfl) ?_
    simp
    rw [Tr_child]
    refine ⟨?_, ?_⟩
    · skip
      simp
      try intros
      refine ACall.pure (toNet_c a0 (by omega)) (by simp [Net.row, u0, u1, u2, u3]) ?_
      simp [Net.res]
      try intros
      rw [Tr_child]
      refine ⟨?_, ?_⟩
      · skip
        simp
        try intros
        refine ACall.pure (toEvent_c a1 (by omega)) (by simp [Event.row, u4]) ?_
        simp [Event.res]
        try intros
        rw [Tr_child]
        refine ⟨?_, ?_⟩
        · skip
          simp
          try intros
          refine ACall.pure (hs) (by simp [Net.row, Event.row]) ?_
          simp [Net.res]
          try intros
        · skip
          simp
          try intros
          refine ACall.pure (hs) (by simp [Net.row, Event.row]) ?_
          simp [Net.res]
          try intros
      · skip
        simp
        try intros
        refine ACall.pure (toEvent_c a1 (by omega)) (by simp [Event.row, u4]) ?_
        simp [Event.res]
        try intros
        refine ACall.pure (hs) (by simp [Net.row, Event.row]) ?_
        simp [Net.res]
        try intros
    · skip
      simp
      try intros
      refine ACall.pure (toNet_c a0 (by omega)) (by simp [Net.row, u0, u1, u2, u3]) ?_
      simp [Net.res]
      try intros
      refine ACall.pure (toEvent_c a1 (by omega)) (by simp [Event.row, u4]) ?_
      simp [Event.res]
      try intros
      refine ACall.pure (hs) (by simp [Net.row, Event.row]) ?_
      simp [Net.res]
      try intros
  rintro ⟨H514, H515, H516, H517, b6⟩
  simp
  refine ACall.pure (toNet_c a0 (by omega)) (by simp [Net.row, u0, u1, u2, u3]) ?_
  simp [Net.res]
  try intros
  refine ACall.pure (toEvent_c a1 (by omega)) (by simp [Event.row, u4]) ?_
  simp [Event.res]
  try intros
  refine ACall.pure hi (by simp [Net.row, Event.row]) ?_
  simp [Net.res]
  try intros
  refine ACall.pure (eqNet_c r0 r0 (by omega)) (by simp [Net.row]) ?_
  simp
  refine DrawT.quietH eok mix (by kernel_rfl) ?_
  simp
  refine ⟨_, _, toNet_c a0 (by omega), by simp [Net.row, u0, u1, u2, u3], ?_⟩
  simp [Net.res]
  refine ⟨_, _, eqNet_c a0 a0 (by omega), by simp [Net.row], ?_⟩
  simp
  refine DrawT.quietH eok mix (by kernel_rfl) ?_
  simp
  refine ⟨_, _, toEvent_c a1 (by omega), by simp [Event.row, u4], ?_⟩
  simp [Event.res]
  refine ⟨_, _, eqEvent_c a1 a1 (by omega), by simp [Event.row], ?_⟩
  simp
  refine ACall.mark (markNet_c a0 1 (by omega) (by omega) (by omega)) rfl (fun _ h => h) (by simp) ?_
  obtain ⟨c1, hc1⟩ : ∃ c, 1 + ((a0.cntT : Nat) : Int) = c := ⟨_, rfl⟩
  have zc1 : ¬ c1 < 0 := by omega
  simp [Net.markT, Net.res, hc1]
  refine ACall.mark (markEvent_c a1 c1 (by omega) (by omega) (by omega)) rfl (fun _ h => h) (by simp) ?_
  obtain ⟨c2, hc2⟩ : ∃ c, c1 + ((a1.cntT : Nat) : Int) = c := ⟨_, rfl⟩
  have zc2 : ¬ c2 < 0 := by omega
  simp [Event.markT, Event.res, hc2, zc2]
  refine ACall.pure (eqNet_c r0 r0 (by omega)) (by simp [Net.row]) ?_
  simp
  refine ACall.mark (markNet_c r0 1 (by omega) (by omega) (by omega)) rfl (fun _ h => h) (by simp) ?_
  obtain ⟨c3, hc3⟩ : ∃ c, 1 + ((r0.cntT : Nat) : Int) = c := ⟨_, rfl⟩
  have zc3 : ¬ c3 < 0 := by omega
  simp [Net.markT, Net.res, hc3]
  refine ACall.pure (heldNet_c r0 1 (by omega) (by omega) (by omega)) (by simp [markL_length, Net.row, Net.markT]) ?_
  simp [hc3, zc3]
  refine DrawT.cutS (fun x : Hd × Hd × Hd × Hd × Nat => [(15, .p 240 x.2.2.2.2 0), (16, .v (.int .i64 r1))]) (fun x => [(240, .vars x.2.2.2.2 38 [.v (.string r0.d.name), .v (.int .i64 r0.d.fr), .sl 1586 x.1 1 0 r0.d.text.length, .sl 1587 x.2.1 3 0 r0.d.list.length, .sl 1588 x.2.2.1 3 0 r0.d.seen.length, .sl 1589 x.2.2.2.1 7 0 r0.reps.length]), (1586, .rows x.1 1 (r0.d.text.map intR) true), (1587, .rows x.2.1 3 (r0.d.list.map Entry.row) true), (1588, .rows x.2.2.1 3 (r0.d.seen.map Seen.row) true), (1589, .rows x.2.2.2.1 7 (r0.reps.map Rep.row) true)]) [6, 7, 10, 13, 14] ?_ ?_
  · refine DrawT.introS eok mix [0, 2] [1, 3, 4, 5, 6, 7, 8, 9, 10] (.child 1 [false, true] [true, false] (.child 3 [true, false] [false, false] (.child 4 [false, false] [false, false] (.child 5 [false, false] [false, false] (.child 6 [false, false] [false, false] (.child 7 [false, false] [false, false] (.child 8 [false, false] [false, false] (.child 9 [false, false] [false, false] (.child 10 [false, false] [false, false] (.leaf [false, false]) .stop) .stop) .stop) .stop) .stop) .stop) (.child 8 [false, false] [false, false] (.child 4 [false, false] [false, false] (.child 5 [false, false] [false, false] (.child 6 [false, false] [false, false] (.child 7 [false, false] [false, false] (.child 9 [false, false] [false, false] (.child 10 [false, false] [false, false] (.leaf [false, false]) .stop) .stop) .stop) .stop) .stop) .stop) .stop)) (.child 8 [false, false] [true, false] (.child 3 [true, false] [false, false] (.child 4 [false, false] [false, false] (.child 5 [false, false] [false, false] (.child 6 [false, false] [false, false] (.child 7 [false, false] [false, false] (.child 9 [false, false] [false, false] (.child 10 [false, false] [false, false] (.leaf [false, false]) .stop) .stop) .stop) .stop) .stop) .stop) .stop) .stop)) (.child 8 [false, false] [true, true] (.child 1 [false, true] [true, false] (.child 3 [true, false] [false, false] (.child 4 [false, false] [false, false] (.child 5 [false, false] [false, false] (.child 6 [false, false] [false, false] (.child 7 [false, false] [false, false] (.child 9 [false, false] [false, false] (.child 10 [false, false] [false, false] (.leaf [false, false]) .stop) .stop) .stop) .stop) .stop) .stop) .stop) .stop) .stop)) (by kernel_rfl) ?_
    simp
    rw [Tr_child]
    refine ⟨?_, ?_⟩
    · skip
      simp
      try intros
      refine ACall.pure (toNet_c a0 (by omega)) (by simp [Net.row, u0, u1, u2, u3]) ?_
      simp [Net.res]
      try intros
      rw [Tr_child]
      refine ⟨?_, ?_⟩
      · skip
        simp
        try intros
        refine ACall.pure (toEvent_c a1 (by omega)) (by simp [Event.row, u4]) ?_
        simp [Event.res]
        try intros
        rw [Tr_child]
        refine ⟨?_, ?_⟩
        · skip
          simp
          try intros
          refine ACall.pure (hi) (by simp [Net.row, Event.row]) ?_
          simp [Net.res]
          try intros
        · skip
          simp
          try intros
          refine ACall.pure (hi) (by simp [Net.row, Event.row]) ?_
          simp [Net.res]
          try intros
      · skip
        simp
        try intros
        refine ACall.pure (toEvent_c a1 (by omega)) (by simp [Event.row, u4]) ?_
        simp [Event.res]
        try intros
        refine ACall.pure (hi) (by simp [Net.row, Event.row]) ?_
        simp [Net.res]
        try intros
    · skip
      simp
      try intros
      refine ACall.pure (toNet_c a0 (by omega)) (by simp [Net.row, u0, u1, u2, u3]) ?_
      simp [Net.res]
      try intros
      refine ACall.pure (toEvent_c a1 (by omega)) (by simp [Event.row, u4]) ?_
      simp [Event.res]
      try intros
      refine ACall.pure (hi) (by simp [Net.row, Event.row]) ?_
      simp [Net.res]
      try intros
  rintro ⟨H1586, H1587, H1588, H1589, b15⟩
  simp
  refine ACall.pure (eqNet_c r0 r0 (by omega)) (by simp [Net.row]) ?_
  simp
  refine ACall.pure (heldNet_c r0 1 (by omega) (by omega) (by omega)) (by simp [markL_length, Net.row, Net.markT]) ?_
  simp [hc3, zc3]

set_option maxRecDepth 100000 in
theorem fnExactNetDo_lifted (os : Os) (started : os.Started) (H : Type) (enc : TypeId × Value → H) :
    ReturnsInHanded {} Tryz.checked os 11 .any (Rows.fnExactNetDoSpec.pre6 enc Tryz.prog Tryz.f11 Rows.fnExactNetDoRow.domain false) (Rows.fnExactNetDoSpec.post enc Tryz.prog Tryz.f11 false true false false) := by
  refine returnsInHanded_of_change (C := Tryz.checked) own started (by kernel_rfl) Tryz.func11
    (ChangeSpec.witness6 (enc := enc) (C := Tryz.checked) false ⟨#[], #[.agg #[.string ⟨#[]⟩, .int .i64 0, .slice none 0 0, .slice none 0 0, .slice none 0 0, .slice none 0 0], .agg #[.int .i64 0, .int .i64 0, .int .i64 0, .slice none 0 0]], []⟩ 12 (by kernel_rfl) (by kernel_rfl) (by kernel_rfl) (by kernel_rfl)) ?_
  intro W base args ds gs before hval hW _ _
  refine law_post (D := 16) laid rfl rfl Tryz.underlying4 (by kernel_rfl) (by kernel_rfl) (fun ds h => ?_) hval hW (fun vds ho => ?_)
  · match ds, h with
    | [d0, d1], _ => rfl
  · have ho0 : Opens Tryz.prog 16 W [29, 101] args.toList vds := ho
    obtain ⟨v0, _, rfl, h0, _, ho1⟩ := ho0.cons
    obtain ⟨v1, _, rfl, h1, _, ho2⟩ := ho1.cons
    obtain rfl := ho2.nil
    obtain ⟨x0, rfl, y0⟩ := fitsV_struct Tryz.underlying29 (by rw [cells29]; decide) h0
    obtain ⟨a0, rfl, e0⟩ := fits_Net y0
    obtain ⟨x1, rfl, y1⟩ := fitsV_struct Tryz.underlying101 (by rw [cells101]; decide) h1
    obtain ⟨a1, rfl, e1⟩ := fits_Event y1
    exact lawNetDo_c a0 e0 a1 e1

theorem fnExactNetDo_holds : Rows.FnExactNetDoSaid :=
  OpenClaim.holds_of_wide 11 Tryz.f11 rfl rfl rfl rfl rfl rfl rfl ⟨rfl, rfl, rfl, rfl, rfl⟩ rfl rfl rfl rfl rfl (by kernel_rfl) Tryz.func11 joinedNetDo
    (of_decide_eq_true (by kernel_rfl)) (by unfold Func.isWrapper; first | (rw [if_pos (by decide +kernel)]; kernel_rfl) | (rw [if_neg (by decide +kernel)]; exact ⟨rfl, rfl⟩))
    (fun os started H enc _ => fnExactNetDo_lifted os started H enc)
#print axioms fnExactNetDo_holds
end Go.Proofs.YtdfdabjdfmamgaaGreat

