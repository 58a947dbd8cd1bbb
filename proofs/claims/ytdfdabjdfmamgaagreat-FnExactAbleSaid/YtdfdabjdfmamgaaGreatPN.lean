import Derived.Test.YtdfdabjdfmamgaaGreatPM
namespace Go.Proofs.YtdfdabjdfmamgaaGreat
open Go.AM
set_option maxRecDepth 20000
set_option maxHeartbeats 3200000
theorem specAble_i (w : Wld) (hl : nWorld w ≤ 2 ^ 26) : PureC Tryz.prog 74 [.agg w.row] (.one (.c (.s ((fAble w).map intR)) 1)) := by
  refine PureC.intro' tt_ok Tryz.func74 (by kernel_rfl) rfl rfl rfl (Nat.le_of_ble_eq_true rfl) (fun w0 base => ?_); have hle := nL_len (nWorld_parts hl).2.2.2; simp [Wld.row]; intro b1 b3
  refine LoopT.introG eok (fun x : Nat × Hd => x.1 ≤ w.tasks.length) (fun x => ⟨27, 0, [(11, .v (.int .i64 x.1)), (10, .v (.int .i64 w.tasks.length)), (1, .p 16 b1 0), (3, .sl 112 x.2 1 0 (outTo w x.1).length)],
    [(16, .vars b1 71 [.v (.bool w.h.shut), .ro (w.h.docs.map Doc.row), .ro (w.h.subs.map Sub.row), .v (.int .i64 w.h.last), .ro (w.locks.map intR), .ro (w.queues.map Queue.row), .ro (w.tasks.map Task.row), .v (.int .i64 w.step)]),
     (112, .rows x.2 1 ((outTo w x.1).map intR) true)]⟩) (fun x => w.tasks.length - x.1) (0, some (b3, 0, 0)) (by simp) (by simp [outTo_zero]) (fun x hx => Ent.refl ?_)
  obtain ⟨i, H⟩ := x; simp only at hx ⊢; have hol := outTo_len w i; have e1 : Go.IntKind.i64.wrap ((i : Int) + 1) = ((i + 1 : Nat) : Int) := i64_suc (by omega); by_cases hlt : i < w.tasks.length
  · have hp := specPick_i w hl i
    have hyes := @outTo_yes w i hlt; have hno := @outTo_no w i hlt; generalize fPick w i = R at hp hyes hno; obtain ⟨X, ok⟩ := R; simp only at hp hyes hno; simp [hlt]; refine ACall.pure hp (by simp [Wld.row]) ?_; simp [Wld.res]; intros
    cases ok with
    | true =>
      have ho := hyes rfl; simp; intro b5; refine ⟨by omega, fun H2 => Ent.refl ⟨i + 1, by omega, by omega, H2, ?_⟩⟩; simp [ho, e1, intR]
    | false =>
      have ho := hno rfl; simp; refine Ent.refl ⟨i + 1, by omega, by omega, H, ?_⟩; simp [ho, e1]
  · have e : i = w.tasks.length := by omega
    subst e; rw [outTo_end]; simp
theorem implAbleOne_c (w : Wld) (hl : nWorld w ≤ 2 ^ 26) (c : worldOk w) (k : Nat) (hk : k < w.tasks.length) : PureC Tryz.prog 165 [.agg w.row, .c (vi k)] (.one (.c (vb (¬ w.step = 1000000 ∧ ableAt w w.tasks[k])) 1)) := by
  refine PureC.intro' tt_ok Tryz.func165 (by kernel_rfl) rfl rfl rfl (Nat.le_of_ble_eq_true rfl) (fun w0 base => ?_); have hle := nL_len (nWorld_parts hl).2.2.2; obtain ⟨t, ht⟩ : ∃ t, w.tasks[k] = t := ⟨_, rfl⟩; have htk := c.1 _ (List.getElem_mem hk); rw [ht] at htk ⊢; have hdsz := htk.1.2.1; have hpc := htk.2.2.1; have hs1 := (stripe_eq t.c.doc c.2.2.1.1).2; have hlk := c.2.2.1; simp [Wld.row]; intro b2; by_cases c2 : w.step = 1000000
  · simp [c2]
  simp [c2]; refine ACall.pure (within_c k 0 ((w.tasks.length : Int) - 1)) (by simp; exact (Go.IntWalk.i64_in _ (by omega)).symm) ?_; have c3 : 0 ≤ (k : Int) ∧ (k : Int) ≤ (w.tasks.length : Int) - 1 := by omega
  simp [c3, hk, ht, Task.row]; intro b5; by_cases p0 : t.pc = 0
  rotate_left
  · by_cases p2 : t.pc = 2
    · simp [p2, ableAt]
    by_cases p4 : t.pc = 4
    · simp [p4, ableAt]
    simp [p0, p2, p4, ableAt]
  simp [p0]; refine ACall.pure (implOnDoc_c t.c.kind) (by simp) ?_; by_cases d : onDoc t.c.kind
  rotate_left
  · simp [p0, ableAt, d]
  simp [d]; refine DrawT.quiet eok mix (by kernel_rfl) ?_; simp; refine ⟨_, _, implStripe_c t.c.doc (by omega) w.locks.length (by omega) (by omega), by simp, ?_⟩; simp [hs1, ableAt, p0, d]
theorem implAble_i (w : Wld) (hl : nWorld w ≤ 2 ^ 26) : PureC Tryz.prog 75 [.agg w.row] (.one (.c (.s ((fAble w).map intR)) 1)) := by
  refine PureC.intro' tt_ok Tryz.func75 (by kernel_rfl) rfl rfl rfl (Nat.le_of_ble_eq_true rfl) (fun w0 base => ?_); have hle := nL_len (nWorld_parts hl).2.2.2; simp [Wld.row]; intro b1; refine ACall.pure (implWorldOk_i w (by omega)) (by simp [Wld.row]) ?_; by_cases c1 : worldOk w
  rotate_left
  · simp [dc_neg c1, fAble_no (fun h => c1 h.1)]
  simp [c1]
  refine LoopT.introG eok (fun x : Nat × Hd => x.1 ≤ w.tasks.length) (fun x => ⟨23, 0, [(11, .v (.int .i64 x.1)), (10, .v (.int .i64 w.tasks.length)), (1, .p 16 b1 0), (3, .sl 5000 x.2 1 0 (outTo w x.1).length)],
    [(16, .vars b1 71 [.v (.bool w.h.shut), .ro (w.h.docs.map Doc.row), .ro (w.h.subs.map Sub.row), .v (.int .i64 w.h.last), .ro (w.locks.map intR), .ro (w.queues.map Queue.row), .ro (w.tasks.map Task.row), .v (.int .i64 w.step)]),
     (5000, .rows x.2 1 ((outTo w x.1).map intR) true)]⟩) (fun x => w.tasks.length - x.1) (0, none) (by simp) (by simp [outTo_zero]) (fun x hx => Ent.refl ?_)
  obtain ⟨i, H⟩ := x; simp only at hx ⊢; have hol := outTo_len w i; have e1 : Go.IntKind.i64.wrap ((i : Int) + 1) = ((i + 1 : Nat) : Int) := i64_suc (by omega); by_cases hlt : i < w.tasks.length
  · have hy : ¬ w.step = 1000000 ∧ ableAt w w.tasks[i] → outTo w (i + 1) = outTo w i ++ [(i : Int)] := fun a => outTo_yes hlt ((fPick_able c1 a.1 hlt).2 a.2)
    have hn : ¬ (¬ w.step = 1000000 ∧ ableAt w w.tasks[i]) → outTo w (i + 1) = outTo w i := by
      intro a; refine outTo_no hlt ?_; by_cases c2 : w.step = 1000000
      · rw [fPick_no (fun h => h.2.1 c2)]
      · cases h : (fPick w i).2 with
        | false => rfl
        | true => exact absurd ⟨c2, (fPick_able c1 c2 hlt).1 h⟩ a
    simp [hlt]; refine ACall.pure (implAbleOne_c w hl c1 i hlt) (by simp [Wld.row]) ?_; by_cases a : ¬ w.step = 1000000 ∧ ableAt w w.tasks[i]
    · have ho := hy a
      simp [a]; intro b5; refine ⟨by omega, fun H2 => Ent.refl ⟨i + 1, by omega, by omega, H2, ?_⟩⟩; simp [ho, e1, intR]
    · have ho := hn a
      simp [dc_neg a]; refine Ent.refl ⟨i + 1, by omega, by omega, H, ?_⟩; simp [ho, e1]
  · have e : i = w.tasks.length := by omega
    subst e; rw [outTo_end]; simp
theorem implAble_c (w : Wld) (_ : w.fits) (h : nWorld w ≤ 2 ^ 20) : PureC Tryz.prog 75 [.agg w.row] (.one (.c (.s ((fAble w).map intR)) 1)) := implAble_i w (by omega)
theorem specAble_c (w : Wld) (_ : w.fits) (h : nWorld w ≤ 2 ^ 20) : PureC Tryz.prog 74 [.agg w.row] (.one (.c (.s ((fAble w).map intR)) 1)) := specAble_i w (by omega)
end Go.Proofs.YtdfdabjdfmamgaaGreat

