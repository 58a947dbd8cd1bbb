/-
  The law on RepTake returns true for every argument; what it was handed reads afterwards as before.
-/
import Derived.Test.YtljhopjmmcmioaaFRepTake
import Derived.Test.YtljhopjmmcmioaaDFit
import Derived.Test.YtljhopjmmcmioaaMF
namespace Go.Proofs.Ytljhopjmmcmioaa
open Go.AM Go.ChangeShapes Go.WideShapes Go.ChangeAt Go.RowKit
set_option maxRecDepth 20000

set_option maxHeartbeats 3200000 in
theorem lawRepTake_c (a0 : Rep) (f0 : a0.fits) (a1 : Entry) (f1 : a1.fits) : PureC Try.prog 6 [.agg a0.row, .agg a1.row] (.one (.c (.v (.bool true)) 1)) := by
  refine PureC.introL tt_ok Try.func6 (by kernel_rfl) rfl rfl rfl (Nat.le_of_ble_eq_true rfl) rfl (fun w0 base us => ?_)
  simp [Rep.row, Entry.row]
  intro u0 u1 u2 u3
  try intros
  refine ACall.pure (szRep_c a0 f0 (2 ^ 20) (by omega)) (by simp [Rep.row, u0, u1, u2]) ?_
  by_cases k1 : nRep a0 ≤ 2 ^ 20
  rotate_left
  · rw [szR_no k1]; simp
  rw [szR_ok k1]
  obtain ⟨m1, hm1⟩ : ∃ m, 2 ^ 20 - nRep a0 = m := ⟨_, rfl⟩
  rw [hm1]
  have n0 : nRep a0 ≤ 2 ^ 20 := by omega
  simp
  refine ACall.pure (szEntry_c a1 f1 (m1) (by omega)) (by simp [Entry.row, u3]) ?_
  by_cases k2 : nEntry a1 ≤ m1
  rotate_left
  · rw [szR_no k2]; simp
  rw [szR_ok k2]
  obtain ⟨m2, hm2⟩ : ∃ m, m1 - nEntry a1 = m := ⟨_, rfl⟩
  rw [hm2]
  have n1 : nEntry a1 ≤ 2 ^ 20 := by omega
  simp
  have hs := specRepTake_c a0 f0 n0 a1 f1 n1
  have hi := implRepTake_c a0 f0 n0 a1 f1 n1
  have hb := fRepTake_b a0 f0 n0 a1 f1 n1
  generalize fRepTake a0 a1 = r at hs hi hb
  obtain ⟨r0, r1⟩ := r
  simp only at hs hi hb
  have nn0 : nRep a0 ≤ 2 ^ 40 := Nat.le_trans n0 (by decide)
  have nn1 : nEntry a1 ≤ 2 ^ 40 := Nat.le_trans n1 (by decide)
  have := Rep.cntT_le a0
  have := Entry.cntT_le a1
  have := Rep.cntT_le r0
  refine DrawT.cutS (fun x : Hd × Hd × Hd × Nat => [(6, .p 96 x.2.2.2 0), (7, .v (.bool r1))]) (fun x => [(96, .vars x.2.2.2 29 [.v (.int .i64 r0.client), .v (.int .i64 r0.seq), .v (.int .i64 r0.rev), .sl 515 x.1 1 0 r0.text.length, .v (.bool r0.has), .sl 517 x.2.1 3 0 r0.sent.length, .sl 518 x.2.2.1 3 0 r0.buf.length]), (515, .rows x.1 1 (r0.text.map intR) true), (517, .rows x.2.1 3 (r0.sent.map Part.row) true), (518, .rows x.2.2.1 3 (r0.buf.map Part.row) true)]) [2, 3] ?_ ?_
  · refine DrawT.introT eok mix [0, 2] [1, 3, 4, 5, 6, 7, 8, 9, 10] (.child 1 [false, true] [true, false] (.child 3 [true, false] [false, false] (.child 4 [false, false] [false, false] (.child 5 [false, false] [false, false] (.child 6 [false, false] [false, false] (.child 7 [false, false] [false, false] (.child 8 [false, false] [false, false] (.child 9 [false, false] [false, false] (.child 10 [false, false] [false, false] (.leaf [false, false]) .stop) .stop) .stop) (.child 8 [false, false] [false, false] (.child 7 [false, false] [false, false] (.child 9 [false, false] [false, false] (.child 10 [false, false] [false, false] (.leaf [false, false]) .stop) .stop) (.child 9 [false, false] [false, false] (.child 7 [false, false] [false, false] (.child 10 [false, false] [false, false] (.leaf [false, false]) .stop) .stop) .stop)) .stop)) (.child 7 [false, false] [false, false] (.child 6 [false, false] [false, false] (.child 8 [false, false] [false, false] (.child 9 [false, false] [false, false] (.child 10 [false, false] [false, false] (.leaf [false, false]) .stop) .stop) .stop) (.child 8 [false, false] [false, false] (.child 6 [false, false] [false, false] (.child 9 [false, false] [false, false] (.child 10 [false, false] [false, false] (.leaf [false, false]) .stop) .stop) .stop) .stop)) (.child 8 [false, false] [false, false] (.child 6 [false, false] [false, false] (.child 7 [false, false] [false, false] (.child 9 [false, false] [false, false] (.child 10 [false, false] [false, false] (.leaf [false, false]) .stop) .stop) (.child 9 [false, false] [false, false] (.child 7 [false, false] [false, false] (.child 10 [false, false] [false, false] (.leaf [false, false]) .stop) .stop) .stop)) (.child 7 [false, false] [false, false] (.child 6 [false, false] [false, false] (.child 9 [false, false] [false, false] (.child 10 [false, false] [false, false] (.leaf [false, false]) .stop) .stop) .stop) .stop)) .stop))) (.child 8 [false, false] [false, false] (.child 5 [false, false] [false, false] (.child 6 [false, false] [false, false] (.child 7 [false, false] [false, false] (.child 9 [false, false] [false, false] (.child 10 [false, false] [false, false] (.leaf [false, false]) .stop) .stop) (.child 9 [false, false] [false, false] (.child 7 [false, false] [false, false] (.child 10 [false, false] [false, false] (.leaf [false, false]) .stop) .stop) .stop)) (.child 7 [false, false] [false, false] (.child 6 [false, false] [false, false] (.child 9 [false, false] [false, false] (.child 10 [false, false] [false, false] (.leaf [false, false]) .stop) .stop) .stop) .stop)) .stop) .stop)) (.child 8 [false, false] [false, false] (.child 4 [false, false] [false, false] (.child 5 [false, false] [false, false] (.child 6 [false, false] [false, false] (.child 7 [false, false] [false, false] (.child 9 [false, false] [false, false] (.child 10 [false, false] [false, false] (.leaf [false, false]) .stop) .stop) (.child 9 [false, false] [false, false] (.child 7 [false, false] [false, false] (.child 10 [false, false] [false, false] (.leaf [false, false]) .stop) .stop) .stop)) (.child 7 [false, false] [false, false] (.child 6 [false, false] [false, false] (.child 9 [false, false] [false, false] (.child 10 [false, false] [false, false] (.leaf [false, false]) .stop) .stop) .stop) .stop)) .stop) .stop) .stop)) (.child 8 [false, false] [true, false] (.child 3 [true, false] [false, false] (.child 4 [false, false] [false, false] (.child 5 [false, false] [false, false] (.child 6 [false, false] [false, false] (.child 7 [false, false] [false, false] (.child 9 [false, false] [false, false] (.child 10 [false, false] [false, false] (.leaf [false, false]) .stop) .stop) (.child 9 [false, false] [false, false] (.child 7 [false, false] [false, false] (.child 10 [false, false] [false, false] (.leaf [false, false]) .stop) .stop) .stop)) (.child 7 [false, false] [false, false] (.child 6 [false, false] [false, false] (.child 9 [false, false] [false, false] (.child 10 [false, false] [false, false] (.leaf [false, false]) .stop) .stop) .stop) .stop)) .stop) .stop) .stop) .stop)) (.child 8 [false, false] [true, true] (.child 1 [false, true] [true, false] (.child 3 [true, false] [false, false] (.child 4 [false, false] [false, false] (.child 5 [false, false] [false, false] (.child 6 [false, false] [false, false] (.child 7 [false, false] [false, false] (.child 9 [false, false] [false, false] (.child 10 [false, false] [false, false] (.leaf [false, false]) .stop) .stop) (.child 9 [false, false] [false, false] (.child 7 [false, false] [false, false] (.child 10 [false, false] [false, false] (.leaf [false, false]) .stop) .stop) .stop)) (.child 7 [false, false] [false, false] (.child 6 [false, false] [false, false] (.child 9 [false, false] [false, false] (.child 10 [false, false] [false, false] (.leaf [false, false]) .stop) .stop) .stop) .stop)) .stop) .stop) .stop) .stop) .stop)) (by kernel_rfl) ?_
    simp
    rw [Tr_child]
    refine ⟨?_, ?_⟩
    · skip
      simp
      try intros
      refine ACall.pure (toRep_c a0 (by omega)) (by simp [Rep.row, u0, u1, u2]) ?_
      simp [Rep.res]
      try intros
      rw [Tr_child]
      refine ⟨?_, ?_⟩
      · skip
        simp
        try intros
        refine ACall.pure (toEntry_c a1 (by omega)) (by simp [Entry.row, u3]) ?_
        simp [Entry.res]
        try intros
        rw [Tr_child]
        refine ⟨?_, ?_⟩
        · skip
          simp
          try intros
          refine ACall.pure (hs) (by simp [Rep.row, Entry.row]) ?_
          simp [Rep.res]
          try intros
          rw [Tr_child]
          refine ⟨?_, ?_⟩
          · skip
            simp
            try intros
            rw [Tr_child]
            refine ⟨?_, ?_⟩
            · skip
              simp
              try intros
              rw [Tr_child]
              refine ⟨?_, ?_⟩
              · skip
                simp
                try intros
              · skip
                simp
                try intros
                rw [Tr_child]
                refine ⟨?_, ?_⟩
                · skip
                  simp
                  try intros
                · skip
                  simp
                  try intros
            · skip
              rw [Tr_child]
              refine ⟨?_, ?_⟩
              · skip
                simp
                try intros
                rw [Tr_child]
                refine ⟨?_, ?_⟩
                · skip
                  simp
                  try intros
                · skip
                  simp
                  try intros
              · skip
                simp
                try intros
                rw [Tr_child]
                refine ⟨?_, ?_⟩
                · skip
                  simp
                  try intros
                  rw [Tr_child]
                  refine ⟨?_, ?_⟩
                  · skip
                    simp
                    try intros
                  · skip
                    simp
                    try intros
                · skip
                  simp
                  try intros
          · skip
            simp
            try intros
            rw [Tr_child]
            refine ⟨?_, ?_⟩
            · skip
              simp
              try intros
              rw [Tr_child]
              refine ⟨?_, ?_⟩
              · skip
                simp
                try intros
              · skip
                simp
                try intros
            · skip
              simp
              try intros
        · skip
          simp
          try intros
          refine ACall.pure (hs) (by simp [Rep.row, Entry.row]) ?_
          simp [Rep.res]
          try intros
          rw [Tr_child]
          refine ⟨?_, ?_⟩
          · skip
            simp
            try intros
            rw [Tr_child]
            refine ⟨?_, ?_⟩
            · skip
              simp
              try intros
            · skip
              simp
              try intros
          · skip
            simp
            try intros
      · skip
        simp
        try intros
        refine ACall.pure (toEntry_c a1 (by omega)) (by simp [Entry.row, u3]) ?_
        simp [Entry.res]
        try intros
        refine ACall.pure (hs) (by simp [Rep.row, Entry.row]) ?_
        simp [Rep.res]
        try intros
        rw [Tr_child]
        refine ⟨?_, ?_⟩
        · skip
          simp
          try intros
          rw [Tr_child]
          refine ⟨?_, ?_⟩
          · skip
            simp
            try intros
          · skip
            simp
            try intros
        · skip
          simp
          try intros
    · skip
      simp
      try intros
      refine ACall.pure (toRep_c a0 (by omega)) (by simp [Rep.row, u0, u1, u2]) ?_
      simp [Rep.res]
      try intros
      refine ACall.pure (toEntry_c a1 (by omega)) (by simp [Entry.row, u3]) ?_
      simp [Entry.res]
      try intros
      refine ACall.pure (hs) (by simp [Rep.row, Entry.row]) ?_
      simp [Rep.res]
      try intros
      rw [Tr_child]
      refine ⟨?_, ?_⟩
      · skip
        simp
        try intros
        rw [Tr_child]
        refine ⟨?_, ?_⟩
        · skip
          simp
          try intros
        · skip
          simp
          try intros
      · skip
        simp
        try intros
  rintro ⟨H515, H517, H518, b6⟩
  simp
  refine ACall.pure (toRep_c a0 (by omega)) (by simp [Rep.row, u0, u1, u2]) ?_
  simp [Rep.res]
  try intros
  refine ACall.pure (toEntry_c a1 (by omega)) (by simp [Entry.row, u3]) ?_
  simp [Entry.res]
  try intros
  refine ACall.pure hi (by simp [Rep.row, Entry.row]) ?_
  simp [Rep.res]
  try intros
  refine ACall.pure (eqRep_c r0 r0 (by omega)) (by simp [Rep.row]) ?_
  simp
  refine DrawT.quietH eok mix (by kernel_rfl) ?_
  simp
  refine ⟨_, _, toRep_c a0 (by omega), by simp [Rep.row, u0, u1, u2], ?_⟩
  simp [Rep.res]
  refine ⟨_, _, eqRep_c a0 a0 (by omega), by simp [Rep.row], ?_⟩
  simp
  refine DrawT.quietH eok mix (by kernel_rfl) ?_
  simp
  refine ⟨_, _, toEntry_c a1 (by omega), by simp [Entry.row, u3], ?_⟩
  simp [Entry.res]
  refine ⟨_, _, eqEntry_c a1 a1 (by omega), by simp [Entry.row], ?_⟩
  simp
  refine ACall.mark (markRep_c a0 1 (by omega) (by omega) (by omega)) rfl (fun _ h => h) (by simp) ?_
  obtain ⟨c1, hc1⟩ : ∃ c, 1 + ((a0.cntT : Nat) : Int) = c := ⟨_, rfl⟩
  have zc1 : ¬ c1 < 0 := by omega
  simp [Rep.markT, Rep.res, hc1]
  refine ACall.mark (markEntry_c a1 c1 (by omega) (by omega) (by omega)) rfl (fun _ h => h) (by simp) ?_
  obtain ⟨c2, hc2⟩ : ∃ c, c1 + ((a1.cntT : Nat) : Int) = c := ⟨_, rfl⟩
  have zc2 : ¬ c2 < 0 := by omega
  simp [Entry.markT, Entry.res, hc2, zc2]
  refine ACall.pure (eqRep_c r0 r0 (by omega)) (by simp [Rep.row]) ?_
  simp
  refine ACall.mark (markRep_c r0 1 (by omega) (by omega) (by omega)) rfl (fun _ h => h) (by simp) ?_
  obtain ⟨c3, hc3⟩ : ∃ c, 1 + ((r0.cntT : Nat) : Int) = c := ⟨_, rfl⟩
  have zc3 : ¬ c3 < 0 := by omega
  simp [Rep.markT, Rep.res, hc3]
  refine ACall.pure (heldRep_c r0 1 (by omega) (by omega) (by omega)) (by simp [markL_length, Rep.row, Rep.markT]) ?_
  simp [hc3, zc3]
  refine DrawT.cutS (fun x : Hd × Hd × Hd × Nat => [(15, .p 240 x.2.2.2 0), (16, .v (.bool r1))]) (fun x => [(240, .vars x.2.2.2 29 [.v (.int .i64 r0.client), .v (.int .i64 r0.seq), .v (.int .i64 r0.rev), .sl 1587 x.1 1 0 r0.text.length, .v (.bool r0.has), .sl 1589 x.2.1 3 0 r0.sent.length, .sl 1590 x.2.2.1 3 0 r0.buf.length]), (1587, .rows x.1 1 (r0.text.map intR) true), (1589, .rows x.2.1 3 (r0.sent.map Part.row) true), (1590, .rows x.2.2.1 3 (r0.buf.map Part.row) true)]) [6, 7, 10, 13, 14] ?_ ?_
  · refine DrawT.introT eok mix [0, 2] [1, 3, 4, 5, 6, 7, 8, 9, 10] (.child 1 [false, true] [true, false] (.child 3 [true, false] [false, false] (.child 4 [false, false] [false, false] (.child 5 [false, false] [false, false] (.child 6 [false, false] [false, false] (.child 7 [false, false] [false, false] (.child 8 [false, false] [false, false] (.child 9 [false, false] [false, false] (.child 10 [false, false] [false, false] (.leaf [false, false]) .stop) .stop) .stop) (.child 8 [false, false] [false, false] (.child 7 [false, false] [false, false] (.child 9 [false, false] [false, false] (.child 10 [false, false] [false, false] (.leaf [false, false]) .stop) .stop) (.child 9 [false, false] [false, false] (.child 7 [false, false] [false, false] (.child 10 [false, false] [false, false] (.leaf [false, false]) .stop) .stop) .stop)) .stop)) (.child 7 [false, false] [false, false] (.child 6 [false, false] [false, false] (.child 8 [false, false] [false, false] (.child 9 [false, false] [false, false] (.child 10 [false, false] [false, false] (.leaf [false, false]) .stop) .stop) .stop) (.child 8 [false, false] [false, false] (.child 6 [false, false] [false, false] (.child 9 [false, false] [false, false] (.child 10 [false, false] [false, false] (.leaf [false, false]) .stop) .stop) .stop) .stop)) (.child 8 [false, false] [false, false] (.child 6 [false, false] [false, false] (.child 7 [false, false] [false, false] (.child 9 [false, false] [false, false] (.child 10 [false, false] [false, false] (.leaf [false, false]) .stop) .stop) (.child 9 [false, false] [false, false] (.child 7 [false, false] [false, false] (.child 10 [false, false] [false, false] (.leaf [false, false]) .stop) .stop) .stop)) (.child 7 [false, false] [false, false] (.child 6 [false, false] [false, false] (.child 9 [false, false] [false, false] (.child 10 [false, false] [false, false] (.leaf [false, false]) .stop) .stop) .stop) .stop)) .stop))) (.child 8 [false, false] [false, false] (.child 5 [false, false] [false, false] (.child 6 [false, false] [false, false] (.child 7 [false, false] [false, false] (.child 9 [false, false] [false, false] (.child 10 [false, false] [false, false] (.leaf [false, false]) .stop) .stop) (.child 9 [false, false] [false, false] (.child 7 [false, false] [false, false] (.child 10 [false, false] [false, false] (.leaf [false, false]) .stop) .stop) .stop)) (.child 7 [false, false] [false, false] (.child 6 [false, false] [false, false] (.child 9 [false, false] [false, false] (.child 10 [false, false] [false, false] (.leaf [false, false]) .stop) .stop) .stop) .stop)) .stop) .stop)) (.child 8 [false, false] [false, false] (.child 4 [false, false] [false, false] (.child 5 [false, false] [false, false] (.child 6 [false, false] [false, false] (.child 7 [false, false] [false, false] (.child 9 [false, false] [false, false] (.child 10 [false, false] [false, false] (.leaf [false, false]) .stop) .stop) (.child 9 [false, false] [false, false] (.child 7 [false, false] [false, false] (.child 10 [false, false] [false, false] (.leaf [false, false]) .stop) .stop) .stop)) (.child 7 [false, false] [false, false] (.child 6 [false, false] [false, false] (.child 9 [false, false] [false, false] (.child 10 [false, false] [false, false] (.leaf [false, false]) .stop) .stop) .stop) .stop)) .stop) .stop) .stop)) (.child 8 [false, false] [true, false] (.child 3 [true, false] [false, false] (.child 4 [false, false] [false, false] (.child 5 [false, false] [false, false] (.child 6 [false, false] [false, false] (.child 7 [false, false] [false, false] (.child 9 [false, false] [false, false] (.child 10 [false, false] [false, false] (.leaf [false, false]) .stop) .stop) (.child 9 [false, false] [false, false] (.child 7 [false, false] [false, false] (.child 10 [false, false] [false, false] (.leaf [false, false]) .stop) .stop) .stop)) (.child 7 [false, false] [false, false] (.child 6 [false, false] [false, false] (.child 9 [false, false] [false, false] (.child 10 [false, false] [false, false] (.leaf [false, false]) .stop) .stop) .stop) .stop)) .stop) .stop) .stop) .stop)) (.child 8 [false, false] [true, true] (.child 1 [false, true] [true, false] (.child 3 [true, false] [false, false] (.child 4 [false, false] [false, false] (.child 5 [false, false] [false, false] (.child 6 [false, false] [false, false] (.child 7 [false, false] [false, false] (.child 9 [false, false] [false, false] (.child 10 [false, false] [false, false] (.leaf [false, false]) .stop) .stop) (.child 9 [false, false] [false, false] (.child 7 [false, false] [false, false] (.child 10 [false, false] [false, false] (.leaf [false, false]) .stop) .stop) .stop)) (.child 7 [false, false] [false, false] (.child 6 [false, false] [false, false] (.child 9 [false, false] [false, false] (.child 10 [false, false] [false, false] (.leaf [false, false]) .stop) .stop) .stop) .stop)) .stop) .stop) .stop) .stop) .stop)) (by kernel_rfl) ?_
    simp
    rw [Tr_child]
    refine ⟨?_, ?_⟩
    · skip
      simp
      try intros
      refine ACall.pure (toRep_c a0 (by omega)) (by simp [Rep.row, u0, u1, u2]) ?_
      simp [Rep.res]
      try intros
      rw [Tr_child]
      refine ⟨?_, ?_⟩
      · skip
        simp
        try intros
        refine ACall.pure (toEntry_c a1 (by omega)) (by simp [Entry.row, u3]) ?_
        simp [Entry.res]
        try intros
        rw [Tr_child]
        refine ⟨?_, ?_⟩
        · skip
          simp
          try intros
          refine ACall.pure (hi) (by simp [Rep.row, Entry.row]) ?_
          simp [Rep.res]
          try intros
          rw [Tr_child]
          refine ⟨?_, ?_⟩
          · skip
            simp
            try intros
            rw [Tr_child]
            refine ⟨?_, ?_⟩
            · skip
              simp
              try intros
              rw [Tr_child]
              refine ⟨?_, ?_⟩
              · skip
                simp
                try intros
              · skip
                simp
                try intros
                rw [Tr_child]
                refine ⟨?_, ?_⟩
                · skip
                  simp
                  try intros
                · skip
                  simp
                  try intros
            · skip
              rw [Tr_child]
              refine ⟨?_, ?_⟩
              · skip
                simp
                try intros
                rw [Tr_child]
                refine ⟨?_, ?_⟩
                · skip
                  simp
                  try intros
                · skip
                  simp
                  try intros
              · skip
                simp
                try intros
                rw [Tr_child]
                refine ⟨?_, ?_⟩
                · skip
                  simp
                  try intros
                  rw [Tr_child]
                  refine ⟨?_, ?_⟩
                  · skip
                    simp
                    try intros
                  · skip
                    simp
                    try intros
                · skip
                  simp
                  try intros
          · skip
            simp
            try intros
            rw [Tr_child]
            refine ⟨?_, ?_⟩
            · skip
              simp
              try intros
              rw [Tr_child]
              refine ⟨?_, ?_⟩
              · skip
                simp
                try intros
              · skip
                simp
                try intros
            · skip
              simp
              try intros
        · skip
          simp
          try intros
          refine ACall.pure (hi) (by simp [Rep.row, Entry.row]) ?_
          simp [Rep.res]
          try intros
          rw [Tr_child]
          refine ⟨?_, ?_⟩
          · skip
            simp
            try intros
            rw [Tr_child]
            refine ⟨?_, ?_⟩
            · skip
              simp
              try intros
            · skip
              simp
              try intros
          · skip
            simp
            try intros
      · skip
        simp
        try intros
        refine ACall.pure (toEntry_c a1 (by omega)) (by simp [Entry.row, u3]) ?_
        simp [Entry.res]
        try intros
        refine ACall.pure (hi) (by simp [Rep.row, Entry.row]) ?_
        simp [Rep.res]
        try intros
        rw [Tr_child]
        refine ⟨?_, ?_⟩
        · skip
          simp
          try intros
          rw [Tr_child]
          refine ⟨?_, ?_⟩
          · skip
            simp
            try intros
          · skip
            simp
            try intros
        · skip
          simp
          try intros
    · skip
      simp
      try intros
      refine ACall.pure (toRep_c a0 (by omega)) (by simp [Rep.row, u0, u1, u2]) ?_
      simp [Rep.res]
      try intros
      refine ACall.pure (toEntry_c a1 (by omega)) (by simp [Entry.row, u3]) ?_
      simp [Entry.res]
      try intros
      refine ACall.pure (hi) (by simp [Rep.row, Entry.row]) ?_
      simp [Rep.res]
      try intros
      rw [Tr_child]
      refine ⟨?_, ?_⟩
      · skip
        simp
        try intros
        rw [Tr_child]
        refine ⟨?_, ?_⟩
        · skip
          simp
          try intros
        · skip
          simp
          try intros
      · skip
        simp
        try intros
  rintro ⟨H1587, H1589, H1590, b15⟩
  simp
  refine ACall.pure (eqRep_c r0 r0 (by omega)) (by simp [Rep.row]) ?_
  simp
  refine ACall.pure (heldRep_c r0 1 (by omega) (by omega) (by omega)) (by simp [markL_length, Rep.row, Rep.markT]) ?_
  simp [hc3, zc3]

set_option maxRecDepth 100000 in
theorem fnExactRepTake_lifted (os : Os) (started : os.Started) (H : Type) (enc : TypeId × Value → H) :
    ReturnsInHanded {} Try.checked os 6 .any (Rows.fnExactRepTakeSpec.pre6 enc Try.prog Try.f6 Rows.fnExactRepTakeRow.domain false) (Rows.fnExactRepTakeSpec.post enc Try.prog Try.f6 false true false false) := by
  refine returnsInHanded_of_change (C := Try.checked) own started (by kernel_rfl) Try.func6
    (ChangeSpec.witness6 (enc := enc) (C := Try.checked) false ⟨#[], #[.agg #[.int .i64 0, .int .i64 0, .int .i64 0, .slice none 0 0, .bool false, .slice none 0 0, .slice none 0 0], .agg #[.int .i64 0, .int .i64 0, .slice none 0 0]], []⟩ 12 (by kernel_rfl) (by kernel_rfl) (by kernel_rfl) (by kernel_rfl)) ?_
  intro W base args ds gs before hval hW _ _
  refine law_post (D := 10) laid rfl rfl Try.underlying4 (by kernel_rfl) (by kernel_rfl) (fun ds h => ?_) hval hW (fun vds ho => ?_)
  · match ds, h with
    | [d0, d1], _ => rfl
  · have ho0 : Opens Try.prog 10 W [25, 67] args.toList vds := ho
    obtain ⟨v0, _, rfl, h0, _, ho1⟩ := ho0.cons
    obtain ⟨v1, _, rfl, h1, _, ho2⟩ := ho1.cons
    obtain rfl := ho2.nil
    obtain ⟨x0, rfl, y0⟩ := fitsV_struct Try.underlying25 (by rw [cells25]; decide) h0
    obtain ⟨a0, rfl, e0⟩ := fits_Rep y0
    obtain ⟨x1, rfl, y1⟩ := fitsV_struct Try.underlying67 (by rw [cells67]; decide) h1
    obtain ⟨a1, rfl, e1⟩ := fits_Entry y1
    exact lawRepTake_c a0 e0 a1 e1

theorem fnExactRepTake_holds : Rows.FnExactRepTakeSaid :=
  OpenClaim.holds_of_wide 6 Try.f6 rfl rfl rfl rfl rfl rfl rfl ⟨rfl, rfl, rfl, rfl, rfl⟩ rfl rfl rfl rfl rfl (by kernel_rfl) Try.func6 (by kernel_rfl)
    (of_decide_eq_true (by kernel_rfl)) (by unfold Func.isWrapper; first | (rw [if_pos (by decide +kernel)]; kernel_rfl) | (rw [if_neg (by decide +kernel)]; exact ⟨rfl, rfl⟩))
    (fun os started H enc _ => fnExactRepTake_lifted os started H enc)
#print axioms fnExactRepTake_holds
end Go.Proofs.Ytljhopjmmcmioaa
