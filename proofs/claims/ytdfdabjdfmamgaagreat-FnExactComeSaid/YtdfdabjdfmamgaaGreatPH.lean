import Derived.Test.YtdfdabjdfmamgaaGreatPD
import Derived.Test.YtdfdabjdfmamgaaGreatPG
import Derived.Test.YtdfdabjdfmamgaaGreatPC
namespace Go.Proofs.YtdfdabjdfmamgaaGreat
open Go.AM
set_option maxRecDepth 20000
set_option maxHeartbeats 6400000

theorem copyCall_c (c : Call) (hl : nCall c ≤ 2 ^ 30) : PureC Tryz.prog 137 [.agg c.row] (.one (.agg c.res)) := by
  refine PureC.intro' tt_ok Tryz.func137 (by kernel_rfl) rfl rfl rfl (Nat.le_of_ble_eq_true rfl) (fun w0 base => ?_)
  unfold nCall at hl
  simp [Call.row]
  intro b1 b2
  refine ACall.pure (copyOp_c c.o (by omega)) (by simp) ?_
  simp
  intro H1
  refine ACall.pure (copyInts_c c.text (by omega)) (by simp) ?_
  simp [Call.res]
theorem copyAnswer_c (a : Answer) (hl : nAnswer a ≤ 2 ^ 30) : PureC Tryz.prog 293 [.agg a.row] (.one (.agg a.res)) := by
  refine PureC.intro' tt_ok Tryz.func293 (by kernel_rfl) rfl rfl rfl (Nat.le_of_ble_eq_true rfl) (fun w0 base => ?_)
  unfold nAnswer at hl
  simp [Answer.row]
  intro b1 b2
  refine ACall.pure (copyInts_c a.text (by omega)) (by simp) ?_
  simp
  intro H1
  refine ACall.pure (copyEntries_c a.list (by omega)) (by simp) ?_
  simp [Answer.res]
theorem l12Call_c (c : Call) (hl : nCall c ≤ 2 ^ 30) : PureC Tryz.prog 133 [.agg c.row] (.one (.agg c.res)) := by
  refine PureC.intro' tt_ok Tryz.func133 (by kernel_rfl) rfl rfl rfl (Nat.le_of_ble_eq_true rfl) (fun w0 base => ?_)
  unfold nCall at hl
  have h8 : c.text.length * 8 ≤ 140737488355328 := by omega
  simp [Call.row]
  intro b1 b2
  refine ACall.pure (l02Copy_c c.o (by omega)) (by simp) ?_
  simp [h8]
  intros
  simp [Call.res]
theorem l12Answer_c (a : Answer) (hl : nAnswer a ≤ 2 ^ 30) : PureC Tryz.prog 289 [.agg a.row] (.one (.agg a.res)) := by
  refine PureC.intro' tt_ok Tryz.func289 (by kernel_rfl) rfl rfl rfl (Nat.le_of_ble_eq_true rfl) (fun w0 base => ?_)
  unfold nAnswer at hl
  have h8 : a.text.length * 8 ≤ 140737488355328 := by omega
  simp [Answer.row]
  intro b1 b2
  simp [h8]
  intros
  refine ACall.pure (l08Entries_c a.list (by omega)) (by simp) ?_
  simp [Answer.res]
theorem l14Task_c (t : Task) (hl : nTask t ≤ 2 ^ 30) : PureC Tryz.prog 219 [.agg t.row] (.one (.agg t.res)) := by
  refine PureC.intro' tt_ok Tryz.func219 (by kernel_rfl) rfl rfl rfl (Nat.le_of_ble_eq_true rfl) (fun w0 base => ?_)
  obtain ⟨n1, n2⟩ := nTask_call hl
  simp [Task.row]
  intro b1 b2
  refine ACall.pure (l12Call_c t.c n1) (by simp [Call.row]) ?_
  simp [Call.res]
  intro H1 H2
  refine ACall.pure (l12Answer_c t.a n2) (by simp [Answer.row]) ?_
  simp [Answer.res]
  intros
  simp [Task.res]
theorem copyTasks_c (l : List Task) (hl : nL nTask l ≤ 2 ^ 30) : PureC Tryz.prog 227 [.c (.s (l.map Task.row))] (.one (.c (.s (l.map Task.row)) 15)) := by
  refine PureC.intro' tt_ok Tryz.func227 (by kernel_rfl) rfl rfl rfl (Nat.le_of_ble_eq_true rfl) (fun w0 base => ?_)
  have hle := nL_len hl
  simp
  refine LoopT.introG eok (fun x : Nat × Hd => x.1 ≤ l.length) (fun x => ⟨26, 0, [(8, .v (.int .i64 x.1)), (7, .v (.int .i64 l.length)), (6, .ro (l.map Task.row)), (3, .sl 5000 x.2 15 0 x.1)], [(5000, .rows x.2 15 ((l.take x.1).map Task.row) true)]⟩) (fun x => l.length - x.1) (0, none) (by simp) (by simp) (fun x hx => Ent.refl ?_)
  obtain ⟨i, H⟩ := x
  simp only at hx ⊢
  by_cases hlt : i < l.length
  · obtain ⟨n1, n2⟩ := nTask_call (nL_at hl hlt)
    simp [hlt, Task.row]
    intro b5
    refine ACall.pure (copyCall_c l[i].c n1) (by simp [Call.row]) ?_
    simp [Call.res]
    intro H1 H2
    refine ACall.pure (copyAnswer_c l[i].a n2) (by simp [Answer.row]) ?_
    simp [Answer.res]
    intro H3 H4
    have e1 : min i l.length = i := by omega
    simp [e1]
    intro b6
    refine ⟨by omega, fun H2 => Ent.refl ⟨i + 1, by omega, by omega, H2, ?_⟩⟩
    simp
    exact ⟨i64_suc (by omega), take_snoc (f := Task.row) hlt⟩
  · have e : l.length = i := by omega
    simp [hlt]
    rw [List.take_of_length_le (by simp; omega)]
    simp [cut, e]
theorem copyWorld_c (w : Wld) (hl : nWorld w ≤ 2 ^ 30) : PureC Tryz.prog 136 [.agg w.row] (.one (.agg w.res)) := by
  refine PureC.intro' tt_ok Tryz.func136 (by kernel_rfl) rfl rfl rfl (Nat.le_of_ble_eq_true rfl) (fun w0 base => ?_)
  obtain ⟨nh, n2, n3, n4⟩ := nWorld_parts hl
  obtain ⟨hh, lk, qs, tasks, step⟩ := w
  have hle := nL_len n4
  have hlq := nL_len n3
  simp only at hle hlq n2 n3 n4 nh
  simp [Wld.row]
  intro b1 b2
  refine DrawT.cutS (fun x : Hd × Hd × Hd × Hd × Nat => [(3, .p 48 x.2.2.2.2 0)]) (fun x => [(48, .vars x.2.2.2.2 71 [.v (.bool hh.shut), .sl 129 x.1 5 0 hh.docs.length, .sl 130 x.2.1 6 0 hh.subs.length, .v (.int .i64 hh.last), .sl 176 x.2.2.1 1 0 lk.length, .nil, .sl 224 x.2.2.2.1 15 0 tasks.length, .v (.int .i64 step)]), (129, .rows x.1 5 (hh.docs.map Doc.row) true), (130, .rows x.2.1 6 (hh.subs.map Sub.row) true), (176, .rows x.2.2.1 1 (lk.map intR) true), (224, .rows x.2.2.2.1 15 (tasks.map Task.row) true)]) [1, 2] ?_ ?_
  · refine DrawT.introS eok mix [0, 1, 3, 4, 6, 7, 9, 10] [2, 5, 8, 11, 12, 13] (.child 2 [false, false, false, false, false, false, true, false] [true, true, true, true, true, true, false, true] (.child 5 [false, false, false, false, true, false, false, false] [true, true, true, true, false, true, false, true] (.child 8 [false, false, true, false, false, false, false, false] [true, true, false, true, false, true, false, true] (.child 11 [true, false, false, false, false, false, false, false] [false, true, false, true, false, true, false, true] (.child 12 [false, false, false, false, false, false, false, false] [false, true, false, true, false, true, false, true] (.child 13 [false, true, false, true, false, true, false, true] [false, false, false, false, false, false, false, false] (.leaf [false, false, false, false, false, false, false, false]) .stop) .stop) (.child 12 [false, false, false, false, false, false, false, false] [true, true, false, true, false, true, false, true] (.child 11 [true, false, false, false, false, false, false, false] [false, true, false, true, false, true, false, true] (.child 13 [false, true, false, true, false, true, false, true] [false, false, false, false, false, false, false, false] (.leaf [false, false, false, false, false, false, false, false]) .stop) .stop) .stop)) (.child 12 [false, false, false, false, false, false, false, false] [true, true, true, true, false, true, false, true] (.child 8 [false, false, true, false, false, false, false, false] [true, true, false, true, false, true, false, true] (.child 11 [true, false, false, false, false, false, false, false] [false, true, false, true, false, true, false, true] (.child 13 [false, true, false, true, false, true, false, true] [false, false, false, false, false, false, false, false] (.leaf [false, false, false, false, false, false, false, false]) .stop) .stop) .stop) .stop)) (.child 12 [false, false, false, false, false, false, false, false] [true, true, true, true, true, true, false, true] (.child 5 [false, false, false, false, true, false, false, false] [true, true, true, true, false, true, false, true] (.child 8 [false, false, true, false, false, false, false, false] [true, true, false, true, false, true, false, true] (.child 11 [true, false, false, false, false, false, false, false] [false, true, false, true, false, true, false, true] (.child 13 [false, true, false, true, false, true, false, true] [false, false, false, false, false, false, false, false] (.leaf [false, false, false, false, false, false, false, false]) .stop) .stop) .stop) .stop) .stop)) (.child 12 [false, false, false, false, false, false, false, false] [true, true, true, true, true, true, true, true] (.child 2 [false, false, false, false, false, false, true, false] [true, true, true, true, true, true, false, true] (.child 5 [false, false, false, false, true, false, false, false] [true, true, true, true, false, true, false, true] (.child 8 [false, false, true, false, false, false, false, false] [true, true, false, true, false, true, false, true] (.child 11 [true, false, false, false, false, false, false, false] [false, true, false, true, false, true, false, true] (.child 13 [false, true, false, true, false, true, false, true] [false, false, false, false, false, false, false, false] (.leaf [false, false, false, false, false, false, false, false]) .stop) .stop) .stop) .stop) .stop) .stop)) (by kernel_rfl) ?_
    simp
    try intros
    rw [Tr_child]
    refine ⟨?_, ?_⟩
    · skip
      simp
      try intros
      refine ACall.pure (copyHub_c hh nh) (by simp [Hub.row]) ?_
      simp [Hub.res]
      try intros
      rw [Tr_child]
      refine ⟨?_, ?_⟩
      · skip
        simp
        try intros
        refine ACall.pure (copyInts_c lk (by omega)) (by simp) ?_
        simp
        try intros
        rw [Tr_child]
        refine ⟨?_, ?_⟩
        · skip
          simp
          try intros
          refine ACall.pure (copyTasks_c tasks n4) (by simp) ?_
          simp
          try intros
          rw [Tr_child]
          refine ⟨?_, ?_⟩
          · skip
            simp
            try intros
          · skip
            simp
            try intros
        · skip
          simp
          try intros
          refine ACall.pure (copyTasks_c tasks n4) (by simp) ?_
          simp
          try intros
      · skip
        simp
        try intros
        refine ACall.pure (copyInts_c lk (by omega)) (by simp) ?_
        simp
        try intros
        refine ACall.pure (copyTasks_c tasks n4) (by simp) ?_
        simp
        try intros
    · skip
      simp
      try intros
      refine ACall.pure (copyHub_c hh nh) (by simp [Hub.row]) ?_
      simp [Hub.res]
      try intros
      refine ACall.pure (copyInts_c lk (by omega)) (by simp) ?_
      simp
      try intros
      refine ACall.pure (copyTasks_c tasks n4) (by simp) ?_
      simp
      try intros
  rintro ⟨H1, H2, H3, H4, b3⟩
  simp
  refine LoopT.introG eok (fun x : Nat × Hd => x.1 ≤ qs.length) (fun x => ⟨38, 0, [(21, .v (.int .i64 x.1)), (20, .v (.int .i64 qs.length)), (19, .ro (qs.map Queue.row)), (3, .p 48 b3 0), (2, .p 32 b2 0)],
    [(48, .vars b3 71 [.v (.bool hh.shut), .sl 129 H1 5 0 hh.docs.length, .sl 130 H2 6 0 hh.subs.length, .v (.int .i64 hh.last), .sl 176 H3 1 0 lk.length, .sl 5000 x.2 2 0 x.1, .sl 224 H4 15 0 tasks.length, .v (.int .i64 step)]),
     (32, .vars b2 71 [.v (.bool false), .nil, .nil, .v (.int .i64 0), .nil, .nil, .nil, .v (.int .i64 0)]),
     (129, .rows H1 5 (hh.docs.map Doc.row) true), (130, .rows H2 6 (hh.subs.map Sub.row) true), (176, .rows H3 1 (lk.map intR) true), (224, .rows H4 15 (tasks.map Task.row) true), (5000, .rows x.2 2 ((qs.take x.1).map Queue.row) true)]⟩) (fun x => qs.length - x.1) (0, none) (by simp) (by simp) (fun x hi => Ent.refl ?_)
  obtain ⟨i, H⟩ := x
  simp only at hi ⊢
  by_cases hlt : i < qs.length
  · have hm := nL_at n3 hlt
    unfold nQueue at hm
    have e1 : min i qs.length = i := by omega
    simp [hlt, Queue.row]
    intro b5
    refine DrawT.introS eok mix [0, 1, 2, 3, 4, 5, 10] [6, 7, 8, 9, 11] (.child 6 [false, true, false, false, false, false, false] [true, false, true, true, true, true, true] (.child 7 [false, false, false, true, false, false, false] [true, false, true, false, true, true, true] (.child 8 [false, false, false, false, false, false, false] [true, false, true, false, true, true, true] (.child 9 [false, false, false, false, false, true, false] [true, false, true, false, true, false, true] (.child 11 [true, false, true, false, true, false, true] [false, false, false, false, false, false, false] (.leaf [false, false, false, false, false, false, false]) .stop) .stop) .stop) .stop) .stop) (by kernel_rfl) ?_
    simp
    try intros
    refine ACall.pure (copyInts_c qs[i].list (by omega)) (by simp) ?_
    simp
    try intros
    simp [e1]
    refine ⟨by omega, fun H' => Ent.refl ⟨i + 1, by omega, by omega, H', ?_⟩⟩
    simp
    exact ⟨i64_suc (by omega), take_snoc (f := Queue.row) hlt⟩
  have hm : i = qs.length := by omega
  subst hm
  simp [Wld.res]
theorem l14Copy_c (w : Wld) (hl : nWorld w ≤ 2 ^ 30) : PureC Tryz.prog 132 [.agg w.row] (.one (.agg w.res)) := by
  refine PureC.intro' tt_ok Tryz.func132 (by kernel_rfl) rfl rfl rfl (Nat.le_of_ble_eq_true rfl) (fun w0 base => ?_)
  obtain ⟨nh, n2, n3, n4⟩ := nWorld_parts hl
  obtain ⟨hh, lk, qs, tasks, step⟩ := w
  have hle := nL_len n4
  have hlq := nL_len n3
  simp only at hle hlq n2 n3 n4 nh
  have h8 : lk.length * 8 ≤ 140737488355328 := by omega
  simp [Wld.row]
  intro b1 b2
  refine DrawT.cutS (fun x : Hd × Hd × Hd × Nat => [(3, .p 48 x.2.2.2 0)]) (fun x => [(48, .vars x.2.2.2 71 [.v (.bool hh.shut), .sl 161 x.1 5 0 hh.docs.length, .sl 162 x.2.1 6 0 hh.subs.length, .v (.int .i64 hh.last), .sl 176 x.2.2.1 1 0 lk.length, .nil, .nil, .v (.int .i64 step)]), (161, .rows x.1 5 (hh.docs.map Doc.row) true), (162, .rows x.2.1 6 (hh.subs.map Sub.row) true), (176, .rows x.2.2.1 1 (lk.map intR) true)]) [1, 2] ?_ ?_
  · refine DrawT.introS eok mix [0, 1, 4, 5, 7, 8] [2, 3, 6, 9, 10, 11] (.child 2 [false, false, false, false, true, false] [true, true, true, true, false, true] (.child 3 [false, false, false, false, false, false] [true, true, true, true, false, true] (.child 6 [false, false, true, false, false, false] [true, true, false, true, false, true] (.child 9 [true, false, false, false, false, false] [false, true, false, true, false, true] (.child 10 [false, false, false, false, false, false] [false, true, false, true, false, true] (.child 11 [false, true, false, true, false, true] [false, false, false, false, false, false] (.leaf [false, false, false, false, false, false]) .stop) .stop) (.child 10 [false, false, false, false, false, false] [true, true, false, true, false, true] (.child 9 [true, false, false, false, false, false] [false, true, false, true, false, true] (.child 11 [false, true, false, true, false, true] [false, false, false, false, false, false] (.leaf [false, false, false, false, false, false]) .stop) .stop) .stop)) (.child 10 [false, false, false, false, false, false] [true, true, true, true, false, true] (.child 6 [false, false, true, false, false, false] [true, true, false, true, false, true] (.child 9 [true, false, false, false, false, false] [false, true, false, true, false, true] (.child 11 [false, true, false, true, false, true] [false, false, false, false, false, false] (.leaf [false, false, false, false, false, false]) .stop) .stop) .stop) .stop)) (.child 10 [false, false, false, false, false, false] [true, true, true, true, false, true] (.child 3 [false, false, false, false, false, false] [true, true, true, true, false, true] (.child 6 [false, false, true, false, false, false] [true, true, false, true, false, true] (.child 9 [true, false, false, false, false, false] [false, true, false, true, false, true] (.child 11 [false, true, false, true, false, true] [false, false, false, false, false, false] (.leaf [false, false, false, false, false, false]) .stop) .stop) .stop) .stop) .stop)) (.child 3 [false, false, false, false, false, false] [true, true, true, true, true, true] (.child 2 [false, false, false, false, true, false] [true, true, true, true, false, true] (.child 6 [false, false, true, false, false, false] [true, true, false, true, false, true] (.child 9 [true, false, false, false, false, false] [false, true, false, true, false, true] (.child 10 [false, false, false, false, false, false] [false, true, false, true, false, true] (.child 11 [false, true, false, true, false, true] [false, false, false, false, false, false] (.leaf [false, false, false, false, false, false]) .stop) .stop) (.child 10 [false, false, false, false, false, false] [true, true, false, true, false, true] (.child 9 [true, false, false, false, false, false] [false, true, false, true, false, true] (.child 11 [false, true, false, true, false, true] [false, false, false, false, false, false] (.leaf [false, false, false, false, false, false]) .stop) .stop) .stop)) (.child 10 [false, false, false, false, false, false] [true, true, true, true, false, true] (.child 6 [false, false, true, false, false, false] [true, true, false, true, false, true] (.child 9 [true, false, false, false, false, false] [false, true, false, true, false, true] (.child 11 [false, true, false, true, false, true] [false, false, false, false, false, false] (.leaf [false, false, false, false, false, false]) .stop) .stop) .stop) .stop)) (.child 10 [false, false, false, false, false, false] [true, true, true, true, true, true] (.child 2 [false, false, false, false, true, false] [true, true, true, true, false, true] (.child 6 [false, false, true, false, false, false] [true, true, false, true, false, true] (.child 9 [true, false, false, false, false, false] [false, true, false, true, false, true] (.child 11 [false, true, false, true, false, true] [false, false, false, false, false, false] (.leaf [false, false, false, false, false, false]) .stop) .stop) .stop) .stop) .stop)) (.child 10 [false, false, false, false, false, false] [true, true, true, true, true, true] (.child 2 [false, false, false, false, true, false] [true, true, true, true, false, true] (.child 3 [false, false, false, false, false, false] [true, true, true, true, false, true] (.child 6 [false, false, true, false, false, false] [true, true, false, true, false, true] (.child 9 [true, false, false, false, false, false] [false, true, false, true, false, true] (.child 11 [false, true, false, true, false, true] [false, false, false, false, false, false] (.leaf [false, false, false, false, false, false]) .stop) .stop) .stop) .stop) (.child 3 [false, false, false, false, false, false] [true, true, true, true, true, true] (.child 2 [false, false, false, false, true, false] [true, true, true, true, false, true] (.child 6 [false, false, true, false, false, false] [true, true, false, true, false, true] (.child 9 [true, false, false, false, false, false] [false, true, false, true, false, true] (.child 11 [false, true, false, true, false, true] [false, false, false, false, false, false] (.leaf [false, false, false, false, false, false]) .stop) .stop) .stop) .stop) .stop)) .stop))) (by kernel_rfl) ?_
    simp
    try intros
    rw [Tr_child]
    refine ⟨?_, ?_⟩
    · skip
      simp
      try intros
      refine ACall.pure (l11Copy_c hh nh) (by simp [Hub.row]) ?_
      simp [Hub.res]
      try intros
      rw [Tr_child]
      refine ⟨?_, ?_⟩
      · skip
        simp
        try intros
        rw [Tr_child]
        refine ⟨?_, ?_⟩
        · skip
          simp [h8]
          try intros
          rw [Tr_child]
          refine ⟨?_, ?_⟩
          · skip
            simp
            try intros
          · skip
            simp
            try intros
        · skip
          simp [h8]
          try intros
      · skip
        simp [h8]
        try intros
    · skip
      rw [Tr_child]
      refine ⟨?_, ?_⟩
      · skip
        simp
        try intros
        rw [Tr_child]
        refine ⟨?_, ?_⟩
        · skip
          simp
          try intros
          refine ACall.pure (l11Copy_c hh nh) (by simp [Hub.row]) ?_
          simp [Hub.res]
          try intros
          rw [Tr_child]
          refine ⟨?_, ?_⟩
          · skip
            simp [h8]
            try intros
            rw [Tr_child]
            refine ⟨?_, ?_⟩
            · skip
              simp
              try intros
            · skip
              simp
              try intros
          · skip
            simp [h8]
            try intros
        · skip
          simp
          try intros
          refine ACall.pure (l11Copy_c hh nh) (by simp [Hub.row]) ?_
          simp [Hub.res, h8]
          try intros
      · skip
        simp
        try intros
        rw [Tr_child]
        refine ⟨?_, ?_⟩
        · skip
          simp [h8]
          try intros
          refine ACall.pure (l11Copy_c hh nh) (by simp [Hub.row]) ?_
          simp [Hub.res]
          try intros
        · skip
          simp
          try intros
          refine ACall.pure (l11Copy_c hh nh) (by simp [Hub.row]) ?_
          simp [Hub.res, h8]
          try intros
  rintro ⟨H1, H2, H3, b3⟩
  simp
  refine LoopT.introG eok (fun x : Nat × Hd => x.1 ≤ qs.length) (fun x => ⟨54, 0, [(21, .v (.int .i64 x.1)), (20, .v (.int .i64 qs.length)), (19, .ro (qs.map Queue.row)), (1, .p 16 b1 0), (3, .p 48 b3 0), (2, .p 32 b2 0)],
    [(48, .vars b3 71 [.v (.bool hh.shut), .sl 161 H1 5 0 hh.docs.length, .sl 162 H2 6 0 hh.subs.length, .v (.int .i64 hh.last), .sl 176 H3 1 0 lk.length, .sl 5000 x.2 2 0 x.1, .nil, .v (.int .i64 step)]),
     (32, .vars b2 71 [.v (.bool false), .nil, .nil, .v (.int .i64 0), .nil, .nil, .nil, .v (.int .i64 0)]),
     (16, .vars b1 71 [.v (.bool hh.shut), .ro (hh.docs.map Doc.row), .ro (hh.subs.map Sub.row), .v (.int .i64 hh.last), .ro (lk.map intR), .ro (qs.map Queue.row), .ro (tasks.map Task.row), .v (.int .i64 step)]),
     (161, .rows H1 5 (hh.docs.map Doc.row) true), (162, .rows H2 6 (hh.subs.map Sub.row) true), (176, .rows H3 1 (lk.map intR) true), (5000, .rows x.2 2 ((qs.take x.1).map Queue.row) true)]⟩) (fun x => qs.length - x.1) (0, none) (by simp) (by simp) (fun x hi => Ent.refl ?_)
  obtain ⟨i, H⟩ := x
  simp only at hi ⊢
  by_cases hlt : i < qs.length
  · have hm := nL_at n3 hlt
    unfold nQueue at hm
    have e1 : min i qs.length = i := by omega
    have q8 : qs[i].list.length * 8 ≤ 140737488355328 := by omega
    simp [hlt, Queue.row]
    intro b5
    refine DrawT.introS eok mix [0, 1, 2, 3, 5, 6, 11] [4, 7, 8, 9, 10, 12] (.child 4 [false, false, false, false, false, false, false] [true, true, true, true, true, true, true] (.child 7 [false, true, false, false, false, false, false] [true, false, true, true, true, true, true] (.child 8 [false, false, false, true, false, false, false] [true, false, true, false, true, true, true] (.child 9 [false, false, false, false, false, false, false] [true, false, true, false, true, true, true] (.child 10 [false, false, false, false, false, true, false] [true, false, true, false, true, false, true] (.child 12 [true, false, true, false, true, false, true] [false, false, false, false, false, false, false] (.leaf [false, false, false, false, false, false, false]) .stop) .stop) .stop) .stop) .stop) .stop) (by kernel_rfl) ?_
    simp [q8]
    try intros
    simp [e1]
    refine ⟨by omega, fun H' => Ent.refl ⟨i + 1, by omega, by omega, H', ?_⟩⟩
    simp
    exact ⟨i64_suc (by omega), take_snoc (f := Queue.row) hlt⟩
  have hm : i = qs.length := by omega
  subst hm
  simp
  refine LoopT.introG eok (fun x : Nat × Hd => x.1 ≤ tasks.length) (fun x => ⟨54, 0, [(41, .v (.int .i64 x.1)), (40, .v (.int .i64 tasks.length)), (39, .ro (tasks.map Task.row)), (3, .p 48 b3 0), (2, .p 32 b2 0)],
    [(48, .vars b3 71 [.v (.bool hh.shut), .sl 161 H1 5 0 hh.docs.length, .sl 162 H2 6 0 hh.subs.length, .v (.int .i64 hh.last), .sl 176 H3 1 0 lk.length, .sl 5000 H 2 0 qs.length, .sl 5001 x.2 15 0 x.1, .v (.int .i64 step)]),
     (32, .vars b2 71 [.v (.bool false), .nil, .nil, .v (.int .i64 0), .nil, .nil, .nil, .v (.int .i64 0)]),
     (161, .rows H1 5 (hh.docs.map Doc.row) true), (162, .rows H2 6 (hh.subs.map Sub.row) true), (176, .rows H3 1 (lk.map intR) true), (5000, .rows H 2 (qs.map Queue.row) true), (5001, .rows x.2 15 ((tasks.take x.1).map Task.row) true)]⟩) (fun x => tasks.length - x.1) (0, none) (by simp) (by simp) (fun x hi => Ent.refl ?_)
  obtain ⟨i, H'⟩ := x
  simp only at hi ⊢
  by_cases hlt : i < tasks.length
  · have hm := nL_at n4 hlt
    have e1 : min i tasks.length = i := by omega
    simp [hlt, Task.row]
    intro b7
    refine DrawT.introS eok mix [0, 1, 2, 6] [3, 4, 5, 7] (.child 3 [false, true, false, false] [true, false, true, true] (.child 4 [false, false, false, false] [true, false, true, true] (.child 5 [false, false, true, false] [true, false, false, true] (.child 7 [true, false, false, true] [false, false, false, false] (.leaf [false, false, false, false]) .stop) .stop) .stop) .stop) (by kernel_rfl) ?_
    simp
    try intros
    refine ACall.pure (l14Task_c tasks[i] hm) (by simp [Task.row]) ?_
    simp [Task.res]
    try intros
    simp [e1]
    refine ⟨by omega, fun H'' => Ent.refl ⟨i + 1, by omega, by omega, H'', ?_⟩⟩
    simp
    exact ⟨i64_suc (by omega), take_snoc (f := Task.row) hlt⟩
  have hm : i = tasks.length := by omega
  subst hm
  simp [Wld.res]
end Go.Proofs.YtdfdabjdfmamgaaGreat

namespace Go.Proofs.YtdfdabjdfmamgaaGreat
open Go.AM
set_option maxRecDepth 20000
def Ring.zero : Ring := ⟨0, 0, false, []⟩
def Hub.zero : Hub := ⟨false, [], [], 0⟩
def Wld.zero : Wld := ⟨Hub.zero, [], [], [], 0⟩
def newTask (c : Call) (step : Int) : Task := ⟨c, 0, step, -1, -1, Answer.zero⟩
open Classical in
noncomputable def fCome (w : Wld) (c : Call) : Wld × Bool := if (worldOk w ∧ callOk c) ∧ ¬ w.tasks.length = 10 ∧ ¬ w.step = 1000000 then (⟨w.h, w.locks, w.queues, w.tasks ++ [newTask c w.step], w.step + 1⟩, true) else (Wld.zero, false)
theorem fCome_b (w : Wld) (_ : w.fits) (hw : nWorld w ≤ 2 ^ 20) (c : Call) (_ : c.fits) (hc : nCall c ≤ 2 ^ 20) : nWorld (fCome w c).1 ≤ 2 ^ 36 := by
  unfold fCome
  split
  · unfold nWorld at hw ⊢
    simp only at hw ⊢
    rw [nL_append]
    have : nL nTask [newTask c w.step] = nCall c + 1 := by simp [nL, sumN, nTask, newTask, nAnswer, Answer.zero]; omega
    omega
  · simp [Wld.zero, Hub.zero, nWorld, nHub, nL, sumN]
end Go.Proofs.YtdfdabjdfmamgaaGreat

namespace Go.Proofs.YtdfdabjdfmamgaaGreat
open Go.AM
set_option maxRecDepth 20000
set_option maxHeartbeats 3200000

theorem fCome_yes {w : Wld} {c : Call} (h : (worldOk w ∧ callOk c) ∧ ¬ w.tasks.length = 10 ∧ ¬ w.step = 1000000) : fCome w c = (⟨w.h, w.locks, w.queues, w.tasks ++ [newTask c w.step], w.step + 1⟩, true) := by unfold fCome; rw [if_pos h]
theorem fCome_no {w : Wld} {c : Call} (h : ¬ ((worldOk w ∧ callOk c) ∧ ¬ w.tasks.length = 10 ∧ ¬ w.step = 1000000)) : fCome w c = (Wld.zero, false) := by unfold fCome; rw [if_neg h]
theorem implCome_i (w : Wld) (hl : nWorld w ≤ 2 ^ 30) (c : Call) (hc : nCall c ≤ 2 ^ 30) : PureC Tryz.prog 52 [.agg w.row, .agg c.row] (.tup [.agg (fCome w c).1.res, .c (.v (.bool (fCome w c).2)) 1]) := by
  refine PureC.intro' tt_ok Tryz.func52 (by kernel_rfl) rfl rfl rfl (Nat.le_of_ble_eq_true rfl) (fun w0 base => ?_)
  have hno := @fCome_no w c
  have hyes := @fCome_yes w c
  have hle := nL_len (nWorld_parts hl).2.2.2
  simp [Wld.row, Call.row]
  intro b2 b3 b4
  refine ACall.pure (implWorldOk_i w hl) (by simp [Wld.row]) ?_
  by_cases c1 : worldOk w
  rotate_left
  · simp [dc_neg c1, hno (fun h => c1 h.1.1), Wld.res, Wld.zero, Hub.zero]
  simp [c1]
  refine ACall.pure (implCallOk_c c (by omega)) (by simp [Call.row]) ?_
  by_cases c2 : callOk c
  rotate_left
  · simp [dc_neg c2, hno (fun h => c2 h.1.2), Wld.res, Wld.zero, Hub.zero]
  simp [c2]
  by_cases c3 : w.tasks.length = 10
  · have c3' : (w.tasks.length : Int) = 10 := by omega
    simp [c3', hno (fun h => h.2.1 c3), Wld.res, Wld.zero, Hub.zero]
  have c3' : ¬ (w.tasks.length : Int) = 10 := by omega
  simp [c3']
  by_cases c4 : w.step = 1000000
  · simp [c4, hno (fun h => h.2.2 c4), Wld.res, Wld.zero, Hub.zero]
  have hst := c1.2.2.2.2.1
  have ew : Go.IntKind.i64.wrap (w.step + 1) = w.step + 1 := Go.IntWalk.i64_in _ (by omega)
  have e := hyes ⟨⟨c1, c2⟩, c3, c4⟩
  simp [c4]
  refine ACall.pure (copyWorld_c w hl) (by simp [Wld.row]) ?_
  simp [Wld.res]
  intro H1 H2 H3 H4 H5 b6
  refine DrawT.introS eok mix [0, 1, 2, 4, 5, 9] [3, 6, 7, 8, 10] (.child 3 [false, false, false, true, false, false] [true, true, true, false, true, true] (.child 6 [false, true, false, false, false, false] [true, false, true, false, true, true] (.child 7 [false, false, false, false, false, false] [true, false, true, false, true, true] (.child 8 [false, false, false, false, true, false] [true, false, true, false, false, true] (.child 10 [true, false, true, false, false, true] [false, false, false, false, false, false] (.leaf [false, false, false, false, false, false]) .stop) .stop) .stop) .stop) .stop) (by kernel_rfl) ?_
  simp
  try intros
  refine ACall.pure (copyCall_c c hc) (by simp [Call.row]) ?_
  simp [Call.res]
  try intros
  refine ⟨by omega, ?_⟩
  rw [e]
  simp [ew, newTask, Answer.zero, Task.row]
  rintro row (⟨a, -, rfl⟩ | rfl) <;> rfl

theorem specCome_i (w : Wld) (hl : nWorld w ≤ 2 ^ 30) (c : Call) (hc : nCall c ≤ 2 ^ 30) : PureC Tryz.prog 50 [.agg w.row, .agg c.row] (.tup [.agg (fCome w c).1.res, .c (.v (.bool (fCome w c).2)) 1]) := by
  refine PureC.intro' tt_ok Tryz.func50 (by kernel_rfl) rfl rfl rfl (Nat.le_of_ble_eq_true rfl) (fun w0 base => ?_)
  have hno := @fCome_no w c
  have hyes := @fCome_yes w c
  have hle := nL_len (nWorld_parts hl).2.2.2
  simp [Wld.row, Call.row]
  intro b2 b3 b4
  refine ACall.pure (specWorldOk_i w hl) (by simp [Wld.row]) ?_
  by_cases c1 : worldOk w
  rotate_left
  · simp [dc_neg c1, hno (fun h => c1 h.1.1), Wld.res, Wld.zero, Hub.zero]
  simp [c1]
  refine ACall.pure (specCallOk_c c (by omega)) (by simp [Call.row]) ?_
  by_cases c2 : callOk c
  rotate_left
  · simp [dc_neg c2, hno (fun h => c2 h.1.2), Wld.res, Wld.zero, Hub.zero]
  simp [c2]
  by_cases c3 : w.tasks.length = 10
  · have c3' : (w.tasks.length : Int) = 10 := by omega
    simp [c3', hno (fun h => h.2.1 c3), Wld.res, Wld.zero, Hub.zero]
  have c3' : ¬ (w.tasks.length : Int) = 10 := by omega
  simp [c3']
  by_cases c4 : w.step = 1000000
  · simp [c4, hno (fun h => h.2.2 c4), Wld.res, Wld.zero, Hub.zero]
  have hst := c1.2.2.2.2.1
  have ew : Go.IntKind.i64.wrap (w.step + 1) = w.step + 1 := Go.IntWalk.i64_in _ (by omega)
  have e := hyes ⟨⟨c1, c2⟩, c3, c4⟩
  simp [c4]
  refine ACall.pure (l14Copy_c w hl) (by simp [Wld.row]) ?_
  simp [Wld.res]
  intro H1 H2 H3 H4 H5 b6
  refine DrawT.introS eok mix [0, 1, 2, 4, 5, 9] [3, 6, 7, 8, 10] (.child 3 [false, false, false, true, false, false] [true, true, true, false, true, true] (.child 6 [false, true, false, false, false, false] [true, false, true, false, true, true] (.child 7 [false, false, false, false, false, false] [true, false, true, false, true, true] (.child 8 [false, false, false, false, true, false] [true, false, true, false, false, true] (.child 10 [true, false, true, false, false, true] [false, false, false, false, false, false] (.leaf [false, false, false, false, false, false]) .stop) .stop) .stop) .stop) .stop) (by kernel_rfl) ?_
  simp
  try intros
  refine ACall.pure (l12Call_c c hc) (by simp [Call.row]) ?_
  simp [Call.res]
  try intros
  refine ⟨by omega, ?_⟩
  rw [e]
  simp [ew, newTask, Answer.zero, Task.row]
  rintro row (⟨a, -, rfl⟩ | rfl) <;> rfl

theorem implCome_c (w : Wld) (_ : w.fits) (h : nWorld w ≤ 2 ^ 20) (c : Call) (_ : c.fits) (hc : nCall c ≤ 2 ^ 20) : PureC Tryz.prog 52 [.agg w.row, .agg c.row] (.tup [.agg (fCome w c).1.res, .c (.v (.bool (fCome w c).2)) 1]) := implCome_i w (by omega) c (by omega)
theorem specCome_c (w : Wld) (_ : w.fits) (h : nWorld w ≤ 2 ^ 20) (c : Call) (_ : c.fits) (hc : nCall c ≤ 2 ^ 20) : PureC Tryz.prog 50 [.agg w.row, .agg c.row] (.tup [.agg (fCome w c).1.res, .c (.v (.bool (fCome w c).2)) 1]) := specCome_i w (by omega) c (by omega)
end Go.Proofs.YtdfdabjdfmamgaaGreat

