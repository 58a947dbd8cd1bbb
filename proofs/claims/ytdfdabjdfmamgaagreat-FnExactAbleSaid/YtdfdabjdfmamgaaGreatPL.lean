import Derived.Test.YtdfdabjdfmamgaaGreatPK
import Derived.Test.YtdfdabjdfmamgaaGreatPG
namespace Go.Proofs.YtdfdabjdfmamgaaGreat
open Go.AM
set_option maxRecDepth 20000
set_option maxHeartbeats 6400000
theorem implQueues_c (w : Wld) (hl : nWorld w ≤ 2 ^ 30) : PureC Tryz.prog 110 [.agg w.row] (.one (.c (vb (queuesOk w)) 1)) := by
  refine PureC.intro' tt_ok Tryz.func110 (by kernel_rfl) rfl rfl rfl (Nat.le_of_ble_eq_true rfl) (fun w0 base => ?_); obtain ⟨nh, n2, n3, n4⟩ := nWorld_parts hl; obtain ⟨hh, lk, qs, tasks, step⟩ := w; have hle := nL_len n4; have hlq := nL_len n3; simp only at hle hlq n2 n3 n4 nh; have ew : Go.IntKind.i64.wrap ((tasks.length : Int) - 1) = (tasks.length : Int) - 1 := Go.IntWalk.i64_in _ (by omega); simp [Wld.row]; intro b1
  refine LoopT.introG eok (fun x : Nat × List Int × Hd => x.1 ≤ qs.length ∧ queuesRun ⟨hh, lk, qs, tasks, step⟩ x.1 = some x.2.1 ∧ x.2.1.length ≤ 2 * x.1) (fun x => ⟨111, 0, [(13, .v (.int .i64 x.1)), (12, .v (.int .i64 qs.length)), (11, .ro (qs.map Queue.row)), (1, .p 16 b1 0), (3, .sl 5000 x.2.2 1 0 x.2.1.length)],
    [(16, .vars b1 71 [.v (.bool hh.shut), .ro (hh.docs.map Doc.row), .ro (hh.subs.map Sub.row), .v (.int .i64 hh.last), .ro (lk.map intR), .ro (qs.map Queue.row), .ro (tasks.map Task.row), .v (.int .i64 step)]),
     (5000, .rows x.2.2 1 (x.2.1.map intR) true)]⟩) (fun x => qs.length - x.1) (0, [], none) (by simp [queuesRun]) (by simp) (fun x hi => Ent.refl ?_)
  obtain ⟨i, all, H⟩ := x; obtain ⟨hi, hr, hal⟩ := hi; simp only at hi hr hal ⊢; by_cases hlt : i < qs.length
  · obtain ⟨q, hq⟩ : ∃ q, qs[i] = q := ⟨_, rfl⟩
    have hbad : ¬ queueAt hh qs i → ¬ queuesOk ⟨hh, lk, qs, tasks, step⟩ := fun h => queuesOk_no (w := ⟨hh, lk, qs, tasks, step⟩) hlt (queuesRun_bad (w := ⟨hh, lk, qs, tasks, step⟩) hlt h)
    simp [hlt, hq, Queue.row]; intro b5; refine DrawT.quiet eok mix (by kernel_rfl) ?_; simp; have hprev : 0 = i ∨ 0 < i := by omega
    obtain ⟨prev, hcase⟩ : ∃ prev : Prop, prev = ∀ h : 0 < i, sLt qs[i - 1].doc q.doc := ⟨_, rfl⟩; have hat : ∀ (_ : 1 ≤ q.list.length ∧ q.list.length ≤ 2) (_ : 0 ≤ docIdx hh.docs q.doc) (_ : ∀ h : 0 < i, sLt qs[i - 1].doc q.doc), queueAt hh qs i := fun s2 s3 s1 => fun _ => by rw [hq]; exact ⟨s1, s2, s3⟩
    cases i with
    | zero =>
    replace hat := fun s2 s3 => hat s2 s3 (fun h => absurd h (by omega))
    simp; refine ⟨_, _, within_c q.list.length 1 2, by simp, ?_⟩; by_cases s2 : 1 ≤ q.list.length ∧ q.list.length ≤ 2
    rotate_left
    · have s2' : ¬ (1 ≤ (q.list.length : Int) ∧ (q.list.length : Int) ≤ 2) := by omega
      have h := hbad (fun h => s2 (by have := (h hlt).2.1; rwa [hq] at this)); simp [dc_neg s2', dc_neg h]
    have s2' : 1 ≤ (q.list.length : Int) ∧ (q.list.length : Int) ≤ 2 := by omega
    simp [s2']; refine ⟨_, _, implHubDoc_c hh (by omega) q.doc, by simp [Hub.row], ?_⟩; by_cases s3 : 0 ≤ docIdx hh.docs q.doc
    rotate_left
    · have h := hbad (fun h => s3 (by have := (h hlt).2.2; rwa [hq] at this))
      have s3' : docIdx hh.docs q.doc < 0 := by omega
      simp [s3', dc_neg h]
    have s3' : ¬ docIdx hh.docs q.doc < 0 := by omega
    have hsuc := queuesRun_suc (w := ⟨hh, lk, qs, tasks, step⟩) hlt hr (hat s2 s3); have hbad2 : queueRun tasks q.doc all q.list = none → ¬ queuesOk ⟨hh, lk, qs, tasks, step⟩ := fun h => queuesOk_no (w := ⟨hh, lk, qs, tasks, step⟩) hlt (by rw [hsuc]; simp only; rw [hq]; exact h)
    simp only [hq] at hsuc; simp [s3']
    refine LoopT.introG eok (fun x : Nat × List Int × Hd => x.1 ≤ q.list.length ∧ queueRun tasks q.doc all (q.list.take x.1) = some x.2.1) (fun x => ⟨111, 0, [(50, .v (.int .i64 x.1)), (49, .v (.int .i64 q.list.length)), (48, .ro (q.list.map intR)), (5, .p 80 b5 0), (13, .v (.int .i64 0)), (12, .v (.int .i64 qs.length)), (11, .ro (qs.map Queue.row)), (1, .p 16 b1 0), (3, .sl 5000 x.2.2 1 0 x.2.1.length)],
      [(16, .vars b1 71 [.v (.bool hh.shut), .ro (hh.docs.map Doc.row), .ro (hh.subs.map Sub.row), .v (.int .i64 hh.last), .ro (lk.map intR), .ro (qs.map Queue.row), .ro (tasks.map Task.row), .v (.int .i64 step)]), (80, .vars b5 167 [.v (.string q.doc), .ro (q.list.map intR)]),
       (5000, .rows x.2.2 1 (x.2.1.map intR) true)]⟩) (fun x => q.list.length - x.1) (0, all, H) (by simp [queueRun]) (by simp) (fun x hi => Ent.refl ?_)
    obtain ⟨j, m, G⟩ := x; obtain ⟨hj, hm⟩ := hi; simp only at hj hm ⊢
    have hml : m.length ≤ 2 * qs.length := by
      have := queueRun_len _ _ _ hm; simp at this; omega
    by_cases hjt : j < q.list.length
    rotate_left
    · have hje : j = q.list.length := by omega
      subst hje; rw [List.take_length] at hm; simp; refine Ent.refl ⟨1, m, ⟨by omega, by rw [hsuc, hm], ?_⟩, by omega, G, ?_⟩
      · have := queueRun_len _ _ _ hm
        omega
      · simp
        exact i64_suc (n := 0) (by omega)
    obtain ⟨o1, o2⟩ := queueRun_one hjt hm; obtain ⟨x, hx⟩ : ∃ x, q.list[j] = x := ⟨_, rfl⟩; rw [hx] at o1 o2; simp [hjt, hx]; refine DrawT.quiet eok mix (by kernel_rfl) ?_; simp [ew]; refine ⟨_, _, within_c x 0 ((tasks.length : Int) - 1), by simp, ?_⟩; by_cases c1 : 0 ≤ x ∧ x ≤ (tasks.length : Int) - 1
    rotate_left
    · have h := hbad2 (o2 (fun h => by obtain ⟨⟨k, hk, e, -⟩, -⟩ := h; exact c1 (by omega)))
      simp [dc_neg c1, dc_neg h]
    obtain ⟨k, rfl⟩ : ∃ k : Nat, x = k := ⟨x.toNat, by omega⟩; have hk : k < tasks.length := by omega
    obtain ⟨t, ht⟩ : ∃ t, tasks[k] = t := ⟨_, rfl⟩
    have hmay : mayWait tasks q.doc k ↔ t.pc = 2 ∧ t.c.doc = q.doc := by
      constructor
      · rintro ⟨k', hk', e, h1, h2⟩
        have : k = k' := by omega
        subst this; rw [ht] at h1 h2; exact ⟨h1, h2⟩
      · rintro ⟨h1, h2⟩
        exact ⟨k, hk, rfl, by rw [ht]; exact h1, by rw [ht]; exact h2⟩
    simp [c1, hk, ht, Task.row]; by_cases c2 : t.pc = 2
    rotate_left
    · have h := hbad2 (o2 (fun h => c2 (hmay.1 h.1).1))
      simp [c2, dc_neg h]
    simp [c2, hk, ht, Task.row]; by_cases c3 : t.c.doc = q.doc
    rotate_left
    · have h := hbad2 (o2 (fun h => c3 (hmay.1 h.1).2))
      simp [c3, dc_neg h]
    simp [c3]; refine ⟨_, _, indexInt_c m (by omega) k, by simp, ?_⟩; by_cases c4 : (k : Int) ∈ m
    · have h := hbad2 (o2 (fun h => h.2 c4))
      simp [c4, dc_neg h]
    simp [dc_neg c4]; intro b40; refine ⟨by omega, fun G' => Ent.refl ⟨j + 1, m ++ [(k : Int)], ⟨by omega, o1 ⟨hmay.2 ⟨c2, c3⟩, c4⟩⟩, by omega, G', ?_⟩⟩; simp; exact i64_suc (by omega)
    | succ p =>
    have hp1 : p < qs.length := by omega
    have ek : Go.IntKind.i64.wrap (p : Int) = p := i64_nat (by omega); have hp0 : (0 : Int) < (p : Int) + 1 := by omega
    obtain ⟨y, hy⟩ : ∃ y, qs[p] = y := ⟨_, rfl⟩; simp [ek, hp0, hp1, hy, Queue.row]; by_cases s1 : sLt y.doc q.doc
    rotate_left
    · have h := hbad (fun h => s1 (by have := (h hlt).1 (by omega); rw [hq] at this; simp only [Nat.add_sub_cancel] at this; rwa [hy] at this))
      simp [dc_neg s1, dc_neg h]
    replace hat := fun s2 s3 => hat s2 s3 (fun _ => by simp only [Nat.add_sub_cancel]; rwa [hy])
    simp [s1]; refine ⟨_, _, within_c q.list.length 1 2, by simp, ?_⟩; by_cases s2 : 1 ≤ q.list.length ∧ q.list.length ≤ 2
    rotate_left
    · have s2' : ¬ (1 ≤ (q.list.length : Int) ∧ (q.list.length : Int) ≤ 2) := by omega
      have h := hbad (fun h => s2 (by have := (h hlt).2.1; rwa [hq] at this)); simp [dc_neg s2', dc_neg h]
    have s2' : 1 ≤ (q.list.length : Int) ∧ (q.list.length : Int) ≤ 2 := by omega
    simp [s2']; refine ⟨_, _, implHubDoc_c hh (by omega) q.doc, by simp [Hub.row], ?_⟩; by_cases s3 : 0 ≤ docIdx hh.docs q.doc
    rotate_left
    · have h := hbad (fun h => s3 (by have := (h hlt).2.2; rwa [hq] at this))
      have s3' : docIdx hh.docs q.doc < 0 := by omega
      simp [s3', dc_neg h]
    have s3' : ¬ docIdx hh.docs q.doc < 0 := by omega
    have hsuc := queuesRun_suc (w := ⟨hh, lk, qs, tasks, step⟩) hlt hr (hat s2 s3); have hbad2 : queueRun tasks q.doc all q.list = none → ¬ queuesOk ⟨hh, lk, qs, tasks, step⟩ := fun h => queuesOk_no (w := ⟨hh, lk, qs, tasks, step⟩) hlt (by rw [hsuc]; simp only; rw [hq]; exact h)
    simp only [hq] at hsuc; simp [s3']
    refine LoopT.introG eok (fun x : Nat × List Int × Hd => x.1 ≤ q.list.length ∧ queueRun tasks q.doc all (q.list.take x.1) = some x.2.1) (fun x => ⟨111, 0, [(50, .v (.int .i64 x.1)), (49, .v (.int .i64 q.list.length)), (48, .ro (q.list.map intR)), (5, .p 80 b5 0), (13, .v (.int .i64 ((p : Int) + 1))), (12, .v (.int .i64 qs.length)), (11, .ro (qs.map Queue.row)), (1, .p 16 b1 0), (3, .sl 5000 x.2.2 1 0 x.2.1.length)],
      [(16, .vars b1 71 [.v (.bool hh.shut), .ro (hh.docs.map Doc.row), .ro (hh.subs.map Sub.row), .v (.int .i64 hh.last), .ro (lk.map intR), .ro (qs.map Queue.row), .ro (tasks.map Task.row), .v (.int .i64 step)]), (80, .vars b5 167 [.v (.string q.doc), .ro (q.list.map intR)]),
       (5000, .rows x.2.2 1 (x.2.1.map intR) true)]⟩) (fun x => q.list.length - x.1) (0, all, H) (by simp [queueRun]) (by simp) (fun x hi => Ent.refl ?_)
    obtain ⟨j, m, G⟩ := x; obtain ⟨hj, hm⟩ := hi; simp only at hj hm ⊢
    have hml : m.length ≤ 2 * qs.length := by
      have := queueRun_len _ _ _ hm; simp at this; omega
    by_cases hjt : j < q.list.length
    rotate_left
    · have hje : j = q.list.length := by omega
      subst hje; rw [List.take_length] at hm; simp; refine Ent.refl ⟨p + 2, m, ⟨by omega, by rw [hsuc, hm], ?_⟩, by omega, G, ?_⟩
      · have := queueRun_len _ _ _ hm
        omega
      · simp
        exact (by rw [Go.IntWalk.i64_in _ (by omega)]; omega)
    obtain ⟨o1, o2⟩ := queueRun_one hjt hm; obtain ⟨x, hx⟩ : ∃ x, q.list[j] = x := ⟨_, rfl⟩; rw [hx] at o1 o2; simp [hjt, hx]; refine DrawT.quiet eok mix (by kernel_rfl) ?_; simp [ew]; refine ⟨_, _, within_c x 0 ((tasks.length : Int) - 1), by simp, ?_⟩; by_cases c1 : 0 ≤ x ∧ x ≤ (tasks.length : Int) - 1
    rotate_left
    · have h := hbad2 (o2 (fun h => by obtain ⟨⟨k, hk, e, -⟩, -⟩ := h; exact c1 (by omega)))
      simp [dc_neg c1, dc_neg h]
    obtain ⟨k, rfl⟩ : ∃ k : Nat, x = k := ⟨x.toNat, by omega⟩; have hk : k < tasks.length := by omega
    obtain ⟨t, ht⟩ : ∃ t, tasks[k] = t := ⟨_, rfl⟩
    have hmay : mayWait tasks q.doc k ↔ t.pc = 2 ∧ t.c.doc = q.doc := by
      constructor
      · rintro ⟨k', hk', e, h1, h2⟩
        have : k = k' := by omega
        subst this; rw [ht] at h1 h2; exact ⟨h1, h2⟩
      · rintro ⟨h1, h2⟩
        exact ⟨k, hk, rfl, by rw [ht]; exact h1, by rw [ht]; exact h2⟩
    simp [c1, hk, ht, Task.row]; by_cases c2 : t.pc = 2
    rotate_left
    · have h := hbad2 (o2 (fun h => c2 (hmay.1 h.1).1))
      simp [c2, dc_neg h]
    simp [c2, hk, ht, Task.row]; by_cases c3 : t.c.doc = q.doc
    rotate_left
    · have h := hbad2 (o2 (fun h => c3 (hmay.1 h.1).2))
      simp [c3, dc_neg h]
    simp [c3]; refine ⟨_, _, indexInt_c m (by omega) k, by simp, ?_⟩; by_cases c4 : (k : Int) ∈ m
    · have h := hbad2 (o2 (fun h => h.2 c4))
      simp [c4, dc_neg h]
    simp [dc_neg c4]; intro b40; refine ⟨by omega, fun G' => Ent.refl ⟨j + 1, m ++ [(k : Int)], ⟨by omega, o1 ⟨hmay.2 ⟨c2, c3⟩, c4⟩⟩, by omega, G', ?_⟩⟩; simp; exact i64_suc (by omega)
  have hie : i = qs.length := by omega
  subst hie; simp
  refine LoopT.introG eok (fun k : Nat => k ≤ tasks.length ∧ ∀ j, j < k → ∀ hj : j < tasks.length, tasks[j].pc = 2 → (j : Int) ∈ all) (fun k => ⟨111, 0, [(96, .v (.int .i64 k)), (95, .v (.int .i64 tasks.length)), (94, .ro (tasks.map Task.row)), (3, .sl 5000 H 1 0 all.length)],
    [(5000, .rows H 1 (all.map intR) true)]⟩) (fun k => tasks.length - k) 0 (by simp) (by simp) (fun k hk => Ent.refl ?_)
  by_cases hlt : k < tasks.length
  · obtain ⟨t, ht⟩ : ∃ t, tasks[k] = t := ⟨_, rfl⟩
    simp [hlt, ht, Task.row]; intro b9; by_cases c1 : t.pc = 2
    rotate_left
    · simp [c1]
      exact Ent.refl ⟨k + 1, ⟨by omega, upto_suc (P := fun j => ∀ hj : j < tasks.length, tasks[j].pc = 2 → (j : Int) ∈ all) hk.2 (fun _ h => absurd h (by rw [ht]; exact c1))⟩, by omega, by simp; exact i64_suc (by omega)⟩
    simp [c1]; refine ACall.pure (indexInt_c all (by omega) k) (by simp) ?_; by_cases c2 : (k : Int) ∈ all
    rotate_left
    · have h : ¬ queuesOk ⟨hh, lk, qs, tasks, step⟩ := by
        rintro ⟨all', e, h⟩
        simp only at e h; rw [hr] at e; obtain rfl := Option.some.inj e; exact c2 (h k hlt (by rw [ht]; exact c1))
      simp [dc_neg c2, dc_neg h]
    simp [c2]; exact Ent.refl ⟨k + 1, ⟨by omega, upto_suc (P := fun j => ∀ hj : j < tasks.length, tasks[j].pc = 2 → (j : Int) ∈ all) hk.2 (fun _ _ => c2)⟩, by omega, by simp; exact i64_suc (by omega)⟩
  have h : queuesOk ⟨hh, lk, qs, tasks, step⟩ := ⟨all, hr, fun j hj => hk.2 j (by simp only at hj; omega) hj⟩; simp [hlt, h]
theorem specQueues_c (w : Wld) (hl : nWorld w ≤ 2 ^ 30) : PureC Tryz.prog 102 [.agg w.row] (.one (.c (vb (queuesOk w)) 1)) := by
  refine PureC.intro' tt_ok Tryz.func102 (by kernel_rfl) rfl rfl rfl (Nat.le_of_ble_eq_true rfl) (fun w0 base => ?_); obtain ⟨nh, n2, n3, n4⟩ := nWorld_parts hl; obtain ⟨hh, lk, qs, tasks, step⟩ := w; have hle := nL_len n4; have hlq := nL_len n3; simp only at hle hlq n2 n3 n4 nh; have ew : Go.IntKind.i64.wrap ((tasks.length : Int) - 1) = (tasks.length : Int) - 1 := Go.IntWalk.i64_in _ (by omega); simp [Wld.row]; intro b1 b10
  refine LoopT.introG eok (fun x : Nat × List Int × Hd => x.1 ≤ qs.length ∧ queuesRun ⟨hh, lk, qs, tasks, step⟩ x.1 = some x.2.1 ∧ x.2.1.length ≤ 2 * x.1) (fun x => ⟨112, 0, [(14, .v (.int .i64 x.1)), (13, .v (.int .i64 qs.length)), (12, .ro (qs.map Queue.row)), (1, .p 16 b1 0), (3, .sl 160 x.2.2 1 0 x.2.1.length)],
    [(16, .vars b1 71 [.v (.bool hh.shut), .ro (hh.docs.map Doc.row), .ro (hh.subs.map Sub.row), .v (.int .i64 hh.last), .ro (lk.map intR), .ro (qs.map Queue.row), .ro (tasks.map Task.row), .v (.int .i64 step)]),
     (160, .rows x.2.2 1 (x.2.1.map intR) true)]⟩) (fun x => qs.length - x.1) (0, [], some (b10, 0, 0)) (by simp [queuesRun]) (by simp) (fun x hi => Ent.refl ?_)
  obtain ⟨i, all, H⟩ := x; obtain ⟨hi, hr, hal⟩ := hi; simp only at hi hr hal ⊢; by_cases hlt : i < qs.length
  · obtain ⟨q, hq⟩ : ∃ q, qs[i] = q := ⟨_, rfl⟩
    have hbad : ¬ queueAt hh qs i → ¬ queuesOk ⟨hh, lk, qs, tasks, step⟩ := fun h => queuesOk_no (w := ⟨hh, lk, qs, tasks, step⟩) hlt (queuesRun_bad (w := ⟨hh, lk, qs, tasks, step⟩) hlt h)
    simp [hlt, hq, Queue.row]; intro b5; refine DrawT.quiet eok mix (by kernel_rfl) ?_; simp; have hprev : 0 = i ∨ 0 < i := by omega
    obtain ⟨prev, hcase⟩ : ∃ prev : Prop, prev = ∀ h : 0 < i, sLt qs[i - 1].doc q.doc := ⟨_, rfl⟩; have hat : ∀ (_ : 1 ≤ q.list.length ∧ q.list.length ≤ 2) (_ : 0 ≤ docIdx hh.docs q.doc) (_ : ∀ h : 0 < i, sLt qs[i - 1].doc q.doc), queueAt hh qs i := fun s2 s3 s1 => fun _ => by rw [hq]; exact ⟨s1, s2, s3⟩
    cases i with
    | zero =>
    replace hat := fun s2 s3 => hat s2 s3 (fun h => absurd h (by omega))
    simp; refine ⟨_, _, l01In_c q.list.length 1 2, by simp, ?_⟩; by_cases s2 : 1 ≤ q.list.length ∧ q.list.length ≤ 2
    rotate_left
    · have s2' : ¬ (1 ≤ (q.list.length : Int) ∧ (q.list.length : Int) ≤ 2) := by omega
      have h := hbad (fun h => s2 (by have := (h hlt).2.1; rwa [hq] at this)); simp [dc_neg s2', dc_neg h]
    have s2' : 1 ≤ (q.list.length : Int) ∧ (q.list.length : Int) ≤ 2 := by omega
    simp [s2']; refine ⟨_, _, specHubDoc_c hh (by omega) q.doc, by simp [Hub.row], ?_⟩; by_cases s3 : 0 ≤ docIdx hh.docs q.doc
    rotate_left
    · have h := hbad (fun h => s3 (by have := (h hlt).2.2; rwa [hq] at this))
      have s3' : docIdx hh.docs q.doc < 0 := by omega
      simp [s3', dc_neg h]
    have s3' : ¬ docIdx hh.docs q.doc < 0 := by omega
    have hsuc := queuesRun_suc (w := ⟨hh, lk, qs, tasks, step⟩) hlt hr (hat s2 s3); have hbad2 : queueRun tasks q.doc all q.list = none → ¬ queuesOk ⟨hh, lk, qs, tasks, step⟩ := fun h => queuesOk_no (w := ⟨hh, lk, qs, tasks, step⟩) hlt (by rw [hsuc]; simp only; rw [hq]; exact h)
    simp only [hq] at hsuc; simp [s3']
    refine LoopT.introG eok (fun x : Nat × List Int × Hd => x.1 ≤ q.list.length ∧ queueRun tasks q.doc all (q.list.take x.1) = some x.2.1) (fun x => ⟨112, 0, [(51, .v (.int .i64 x.1)), (50, .v (.int .i64 q.list.length)), (49, .ro (q.list.map intR)), (5, .p 80 b5 0), (14, .v (.int .i64 0)), (13, .v (.int .i64 qs.length)), (12, .ro (qs.map Queue.row)), (1, .p 16 b1 0), (3, .sl 160 x.2.2 1 0 x.2.1.length)],
      [(16, .vars b1 71 [.v (.bool hh.shut), .ro (hh.docs.map Doc.row), .ro (hh.subs.map Sub.row), .v (.int .i64 hh.last), .ro (lk.map intR), .ro (qs.map Queue.row), .ro (tasks.map Task.row), .v (.int .i64 step)]), (80, .vars b5 167 [.v (.string q.doc), .ro (q.list.map intR)]),
       (160, .rows x.2.2 1 (x.2.1.map intR) true)]⟩) (fun x => q.list.length - x.1) (0, all, H) (by simp [queueRun]) (by simp) (fun x hi => Ent.refl ?_)
    obtain ⟨j, m, G⟩ := x; obtain ⟨hj, hm⟩ := hi; simp only at hj hm ⊢
    have hml : m.length ≤ 2 * qs.length := by
      have := queueRun_len _ _ _ hm; simp at this; omega
    by_cases hjt : j < q.list.length
    rotate_left
    · have hje : j = q.list.length := by omega
      subst hje; rw [List.take_length] at hm; simp; refine Ent.refl ⟨1, m, ⟨by omega, by rw [hsuc, hm], ?_⟩, by omega, G, ?_⟩
      · have := queueRun_len _ _ _ hm
        omega
      · simp
        exact i64_suc (n := 0) (by omega)
    obtain ⟨o1, o2⟩ := queueRun_one hjt hm; obtain ⟨x, hx⟩ : ∃ x, q.list[j] = x := ⟨_, rfl⟩; rw [hx] at o1 o2; simp [hjt, hx]; refine DrawT.quiet eok mix (by kernel_rfl) ?_; simp [ew]; refine ⟨_, _, l01In_c x 0 ((tasks.length : Int) - 1), by simp, ?_⟩; by_cases c1 : 0 ≤ x ∧ x ≤ (tasks.length : Int) - 1
    rotate_left
    · have h := hbad2 (o2 (fun h => by obtain ⟨⟨k, hk, e, -⟩, -⟩ := h; exact c1 (by omega)))
      simp [dc_neg c1, dc_neg h]
    obtain ⟨k, rfl⟩ : ∃ k : Nat, x = k := ⟨x.toNat, by omega⟩; have hk : k < tasks.length := by omega
    obtain ⟨t, ht⟩ : ∃ t, tasks[k] = t := ⟨_, rfl⟩
    have hmay : mayWait tasks q.doc k ↔ t.pc = 2 ∧ t.c.doc = q.doc := by
      constructor
      · rintro ⟨k', hk', e, h1, h2⟩
        have : k = k' := by omega
        subst this; rw [ht] at h1 h2; exact ⟨h1, h2⟩
      · rintro ⟨h1, h2⟩
        exact ⟨k, hk, rfl, by rw [ht]; exact h1, by rw [ht]; exact h2⟩
    simp [c1, hk, ht, Task.row]; by_cases c2 : t.pc = 2
    rotate_left
    · have h := hbad2 (o2 (fun h => c2 (hmay.1 h.1).1))
      simp [c2, dc_neg h]
    simp [c2, hk, ht, Task.row]; by_cases c3 : t.c.doc = q.doc
    rotate_left
    · have h := hbad2 (o2 (fun h => c3 (hmay.1 h.1).2))
      simp [c3, dc_neg h]
    simp [c3]; refine ⟨_, _, specHas_c m (by omega) k, by simp, ?_⟩; by_cases c4 : (k : Int) ∈ m
    · have h := hbad2 (o2 (fun h => h.2 c4))
      simp [c4, dc_neg h]
    simp [dc_neg c4]; intro b40; refine ⟨by omega, fun G' => Ent.refl ⟨j + 1, m ++ [(k : Int)], ⟨by omega, o1 ⟨hmay.2 ⟨c2, c3⟩, c4⟩⟩, by omega, G', ?_⟩⟩; simp; exact i64_suc (by omega)
    | succ p =>
    have hp1 : p < qs.length := by omega
    have ek : Go.IntKind.i64.wrap (p : Int) = p := i64_nat (by omega); have hp0 : (0 : Int) < (p : Int) + 1 := by omega
    obtain ⟨y, hy⟩ : ∃ y, qs[p] = y := ⟨_, rfl⟩; simp [ek, hp0, hp1, hy, Queue.row]; by_cases s1 : sLt y.doc q.doc
    rotate_left
    · have h := hbad (fun h => s1 (by have := (h hlt).1 (by omega); rw [hq] at this; simp only [Nat.add_sub_cancel] at this; rwa [hy] at this))
      simp [dc_neg s1, dc_neg h]
    replace hat := fun s2 s3 => hat s2 s3 (fun _ => by simp only [Nat.add_sub_cancel]; rwa [hy])
    simp [s1]; refine ⟨_, _, l01In_c q.list.length 1 2, by simp, ?_⟩; by_cases s2 : 1 ≤ q.list.length ∧ q.list.length ≤ 2
    rotate_left
    · have s2' : ¬ (1 ≤ (q.list.length : Int) ∧ (q.list.length : Int) ≤ 2) := by omega
      have h := hbad (fun h => s2 (by have := (h hlt).2.1; rwa [hq] at this)); simp [dc_neg s2', dc_neg h]
    have s2' : 1 ≤ (q.list.length : Int) ∧ (q.list.length : Int) ≤ 2 := by omega
    simp [s2']; refine ⟨_, _, specHubDoc_c hh (by omega) q.doc, by simp [Hub.row], ?_⟩; by_cases s3 : 0 ≤ docIdx hh.docs q.doc
    rotate_left
    · have h := hbad (fun h => s3 (by have := (h hlt).2.2; rwa [hq] at this))
      have s3' : docIdx hh.docs q.doc < 0 := by omega
      simp [s3', dc_neg h]
    have s3' : ¬ docIdx hh.docs q.doc < 0 := by omega
    have hsuc := queuesRun_suc (w := ⟨hh, lk, qs, tasks, step⟩) hlt hr (hat s2 s3); have hbad2 : queueRun tasks q.doc all q.list = none → ¬ queuesOk ⟨hh, lk, qs, tasks, step⟩ := fun h => queuesOk_no (w := ⟨hh, lk, qs, tasks, step⟩) hlt (by rw [hsuc]; simp only; rw [hq]; exact h)
    simp only [hq] at hsuc; simp [s3']
    refine LoopT.introG eok (fun x : Nat × List Int × Hd => x.1 ≤ q.list.length ∧ queueRun tasks q.doc all (q.list.take x.1) = some x.2.1) (fun x => ⟨112, 0, [(51, .v (.int .i64 x.1)), (50, .v (.int .i64 q.list.length)), (49, .ro (q.list.map intR)), (5, .p 80 b5 0), (14, .v (.int .i64 ((p : Int) + 1))), (13, .v (.int .i64 qs.length)), (12, .ro (qs.map Queue.row)), (1, .p 16 b1 0), (3, .sl 160 x.2.2 1 0 x.2.1.length)],
      [(16, .vars b1 71 [.v (.bool hh.shut), .ro (hh.docs.map Doc.row), .ro (hh.subs.map Sub.row), .v (.int .i64 hh.last), .ro (lk.map intR), .ro (qs.map Queue.row), .ro (tasks.map Task.row), .v (.int .i64 step)]), (80, .vars b5 167 [.v (.string q.doc), .ro (q.list.map intR)]),
       (160, .rows x.2.2 1 (x.2.1.map intR) true)]⟩) (fun x => q.list.length - x.1) (0, all, H) (by simp [queueRun]) (by simp) (fun x hi => Ent.refl ?_)
    obtain ⟨j, m, G⟩ := x; obtain ⟨hj, hm⟩ := hi; simp only at hj hm ⊢
    have hml : m.length ≤ 2 * qs.length := by
      have := queueRun_len _ _ _ hm; simp at this; omega
    by_cases hjt : j < q.list.length
    rotate_left
    · have hje : j = q.list.length := by omega
      subst hje; rw [List.take_length] at hm; simp; refine Ent.refl ⟨p + 2, m, ⟨by omega, by rw [hsuc, hm], ?_⟩, by omega, G, ?_⟩
      · have := queueRun_len _ _ _ hm
        omega
      · simp
        exact (by rw [Go.IntWalk.i64_in _ (by omega)]; omega)
    obtain ⟨o1, o2⟩ := queueRun_one hjt hm; obtain ⟨x, hx⟩ : ∃ x, q.list[j] = x := ⟨_, rfl⟩; rw [hx] at o1 o2; simp [hjt, hx]; refine DrawT.quiet eok mix (by kernel_rfl) ?_; simp [ew]; refine ⟨_, _, l01In_c x 0 ((tasks.length : Int) - 1), by simp, ?_⟩; by_cases c1 : 0 ≤ x ∧ x ≤ (tasks.length : Int) - 1
    rotate_left
    · have h := hbad2 (o2 (fun h => by obtain ⟨⟨k, hk, e, -⟩, -⟩ := h; exact c1 (by omega)))
      simp [dc_neg c1, dc_neg h]
    obtain ⟨k, rfl⟩ : ∃ k : Nat, x = k := ⟨x.toNat, by omega⟩; have hk : k < tasks.length := by omega
    obtain ⟨t, ht⟩ : ∃ t, tasks[k] = t := ⟨_, rfl⟩
    have hmay : mayWait tasks q.doc k ↔ t.pc = 2 ∧ t.c.doc = q.doc := by
      constructor
      · rintro ⟨k', hk', e, h1, h2⟩
        have : k = k' := by omega
        subst this; rw [ht] at h1 h2; exact ⟨h1, h2⟩
      · rintro ⟨h1, h2⟩
        exact ⟨k, hk, rfl, by rw [ht]; exact h1, by rw [ht]; exact h2⟩
    simp [c1, hk, ht, Task.row]; by_cases c2 : t.pc = 2
    rotate_left
    · have h := hbad2 (o2 (fun h => c2 (hmay.1 h.1).1))
      simp [c2, dc_neg h]
    simp [c2, hk, ht, Task.row]; by_cases c3 : t.c.doc = q.doc
    rotate_left
    · have h := hbad2 (o2 (fun h => c3 (hmay.1 h.1).2))
      simp [c3, dc_neg h]
    simp [c3]; refine ⟨_, _, specHas_c m (by omega) k, by simp, ?_⟩; by_cases c4 : (k : Int) ∈ m
    · have h := hbad2 (o2 (fun h => h.2 c4))
      simp [c4, dc_neg h]
    simp [dc_neg c4]; intro b40; refine ⟨by omega, fun G' => Ent.refl ⟨j + 1, m ++ [(k : Int)], ⟨by omega, o1 ⟨hmay.2 ⟨c2, c3⟩, c4⟩⟩, by omega, G', ?_⟩⟩; simp; exact i64_suc (by omega)
  have hie : i = qs.length := by omega
  subst hie; simp
  refine LoopT.introG eok (fun k : Nat => k ≤ tasks.length ∧ ∀ j, j < k → ∀ hj : j < tasks.length, tasks[j].pc = 2 → (j : Int) ∈ all) (fun k => ⟨112, 0, [(97, .v (.int .i64 k)), (96, .v (.int .i64 tasks.length)), (95, .ro (tasks.map Task.row)), (3, .sl 160 H 1 0 all.length)],
    [(160, .rows H 1 (all.map intR) true)]⟩) (fun k => tasks.length - k) 0 (by simp) (by simp) (fun k hk => Ent.refl ?_)
  by_cases hlt : k < tasks.length
  · obtain ⟨t, ht⟩ : ∃ t, tasks[k] = t := ⟨_, rfl⟩
    simp [hlt, ht, Task.row]; intro b9; by_cases c1 : t.pc = 2
    rotate_left
    · simp [c1]
      exact Ent.refl ⟨k + 1, ⟨by omega, upto_suc (P := fun j => ∀ hj : j < tasks.length, tasks[j].pc = 2 → (j : Int) ∈ all) hk.2 (fun _ h => absurd h (by rw [ht]; exact c1))⟩, by omega, by simp; exact i64_suc (by omega)⟩
    simp [c1]; refine ACall.pure (specHas_c all (by omega) k) (by simp) ?_; by_cases c2 : (k : Int) ∈ all
    rotate_left
    · have h : ¬ queuesOk ⟨hh, lk, qs, tasks, step⟩ := by
        rintro ⟨all', e, h⟩
        simp only at e h; rw [hr] at e; obtain rfl := Option.some.inj e; exact c2 (h k hlt (by rw [ht]; exact c1))
      simp [dc_neg c2, dc_neg h]
    simp [c2]; exact Ent.refl ⟨k + 1, ⟨by omega, upto_suc (P := fun j => ∀ hj : j < tasks.length, tasks[j].pc = 2 → (j : Int) ∈ all) hk.2 (fun _ _ => c2)⟩, by omega, by simp; exact i64_suc (by omega)⟩
  have h : queuesOk ⟨hh, lk, qs, tasks, step⟩ := ⟨all, hr, fun j hj => hk.2 j (by simp only at hj; omega) hj⟩; simp [hlt, h]
end Go.Proofs.YtdfdabjdfmamgaaGreat

namespace Go.Proofs.YtdfdabjdfmamgaaGreat
open Go.AM
set_option maxRecDepth 20000
set_option maxHeartbeats 6400000
def initL (n i : Nat) : List Int := List.replicate i (-1) ++ List.replicate (n - i) 0
theorem initL_zero (n : Nat) : List.replicate n [CD.v (.int .i64 0)] = (initL n 0).map intR := by
  unfold initL; simp [intR]
theorem initL_full (n : Nat) : initL n n = List.replicate n (-1) := by unfold initL; simp
theorem initL_len {n i : Nat} (h : i ≤ n) : (initL n i).length = n := by unfold initL; simp; omega
theorem initL_set {n i : Nat} (h : i < n) : (initL n i).set i (-1) = initL n (i + 1) := by
  unfold initL; refine List.ext_getElem (by simp; omega) (fun j h1 h2 => ?_); simp only [List.getElem_set, List.getElem_append, List.length_replicate, List.getElem_replicate]
  repeat' split
  all_goals omega
theorem set_int {l : List Int} {i : Nat} {x : Int} : (l.map intR).set i [.v (.int .i64 x)] = (l.set i x).map intR := by rw [List.map_set]
theorem worldOk_taken {w : Wld} (h : ¬ ∀ t ∈ w.tasks, taskOk t) : ¬ worldOk w := fun h' => h h'.1
theorem implWorldOk_i (w : Wld) (hl : nWorld w ≤ 2 ^ 30) : PureC Tryz.prog 32 [.agg w.row] (.one (.c (vb (worldOk w)) 1)) := by
  refine PureC.intro' tt_ok Tryz.func32 (by kernel_rfl) rfl rfl rfl (Nat.le_of_ble_eq_true rfl) (fun w0 base => ?_); have hSt := implStepsOk_c w (by have := nL_len (nWorld_parts hl).2.2.2; omega); have hQu := implQueues_c w hl; obtain ⟨nh, n2, n3, n4⟩ := nWorld_parts hl; obtain ⟨hh, lk, qs, tasks, step⟩ := w; have hle := nL_len n4; simp only at hle n2 n4 nh hSt; simp [Wld.row]; intro b1; refine ACall.pure (implHubOk_c hh (by omega)) (by simp [Hub.row]) ?_; by_cases c1 : hubOk hh
  rotate_left
  · have h : ¬ worldOk ⟨hh, lk, qs, tasks, step⟩ := fun h => c1 h.2.1
    simp [dc_neg c1, dc_neg h]
  simp [c1]; refine ACall.pure (within_c lk.length 1 4) (by simp) ?_; by_cases c2 : 1 ≤ lk.length ∧ lk.length ≤ 4
  rotate_left
  · have h : ¬ worldOk ⟨hh, lk, qs, tasks, step⟩ := fun h => c2 h.2.2.1
    have c2' : ¬ (1 ≤ (lk.length : Int) ∧ (lk.length : Int) ≤ 4) := by omega
    simp [dc_neg c2', dc_neg h]
  have c2' : 1 ≤ (lk.length : Int) ∧ (lk.length : Int) ≤ 4 := by omega
  simp [c2']; by_cases c3 : tasks.length ≤ 10
  rotate_left
  · have h : ¬ worldOk ⟨hh, lk, qs, tasks, step⟩ := fun h => c3 h.2.2.2.1
    have c3' : 10 < (tasks.length : Int) := by omega
    simp [c3', dc_neg h]
  have c3' : ¬ 10 < (tasks.length : Int) := by omega
  simp [c3']; refine ACall.pure (within_c step 0 1000000) (by simp) ?_; by_cases c4 : 0 ≤ step ∧ step ≤ 1000000
  rotate_left
  · have h : ¬ worldOk ⟨hh, lk, qs, tasks, step⟩ := fun h => c4 h.2.2.2.2.1
    simp [dc_neg c4, dc_neg h]
  simp [c4]; refine ⟨by omega, fun b => ?_⟩
  refine LoopT.introG eok (fun i : Nat => i ≤ lk.length) (fun i => ⟨88, 0, [(37, .v (.int .i64 i)), (36, .v (.int .i64 lk.length)), (4, .sl 544 (some (b, 0, lk.length)) 1 0 lk.length), (3, .v (.int .i64 lk.length)), (1, .p 16 b1 0)],
    [(16, .vars b1 71 [.v (.bool hh.shut), .ro (hh.docs.map Doc.row), .ro (hh.subs.map Sub.row), .v (.int .i64 hh.last), .ro (lk.map intR), .ro (qs.map Queue.row), .ro (tasks.map Task.row), .v (.int .i64 step)]),
     (544, .rows (some (b, 0, lk.length)) 1 ((initL lk.length i).map intR) true)]⟩) (fun i => lk.length - i) 0 (by simp) (by simp [initL_zero]) (fun i hi => Ent.refl ?_)
  by_cases hlt : i < lk.length
  · have hL := initL_len (n := lk.length) (i := i) (by omega)
    have hli : i < (initL lk.length i).length := by omega
    simp [hlt, hL, set_int, initL_set hlt]; refine Ent.refl ⟨i + 1, by omega, by omega, ?_⟩; simp; exact i64_suc (by omega)
  have hie : i = lk.length := by omega
  subst hie; rw [initL_full]; simp [-List.map_replicate]
  refine LoopT.introG eok (fun x : Nat × List Int => x.1 ≤ tasks.length ∧ (∀ t ∈ tasks.take x.1, taskOk t) ∧ heldBy tasks lk.length x.1 x.2) (fun x => ⟨88, 0, [(47, .v (.int .i64 x.1)), (46, .v (.int .i64 tasks.length)), (45, .ro (tasks.map Task.row)), (4, .sl 544 (some (b, 0, lk.length)) 1 0 lk.length), (3, .v (.int .i64 lk.length)), (1, .p 16 b1 0)],
    [(16, .vars b1 71 [.v (.bool hh.shut), .ro (hh.docs.map Doc.row), .ro (hh.subs.map Sub.row), .v (.int .i64 hh.last), .ro (lk.map intR), .ro (qs.map Queue.row), .ro (tasks.map Task.row), .v (.int .i64 step)]),
     (544, .rows (some (b, 0, lk.length)) 1 (x.2.map intR) true)]⟩) (fun x => tasks.length - x.1) (0, List.replicate lk.length (-1)) ⟨by simp, by simp, held_zero _ _⟩ (by simp [-List.map_replicate]) (fun x hi => Ent.refl ?_)
  obtain ⟨i, held⟩ := x; obtain ⟨hi, htk, hh'⟩ := hi; simp only at hi htk hh' ⊢; have hhl := hh'.1; by_cases hlt : i < tasks.length
  · obtain ⟨t, ht⟩ : ∃ t, tasks[i] = t := ⟨_, rfl⟩
    have hm := nL_at n4 hlt; rw [ht] at hm; have hmem : t ∈ tasks := by rw [← ht]; exact List.getElem_mem hlt
    simp [hlt, ht, Task.row]; intro b7; refine ACall.pure (implTaskOk_c t (by omega)) (by simp [Task.row]) ?_; by_cases d1 : taskOk t
    rotate_left
    · have h : ¬ worldOk ⟨hh, lk, qs, tasks, step⟩ := worldOk_taken (fun h => d1 (h t hmem))
      simp [dc_neg d1, dc_neg h]
    have htk' := all_suc hlt htk (by rw [ht]; exact d1); simp [d1]; by_cases d2 : t.pc = 1
    rotate_left
    · simp [d2]
      refine Ent.refl ⟨i + 1, held, ⟨by omega, htk', held_skip hh' hlt (by rw [ht]; exact d2)⟩, by omega, ?_⟩; simp; exact i64_suc (by omega)
    simp [d2]; refine ACall.pure (implStripe_c t.c.doc (by have := nTask_doc hm; omega) lk.length c2.1 (by omega)) (by simp) ?_; obtain ⟨s, hs⟩ : ∃ s, stripe t.c.doc lk.length = s := ⟨_, rfl⟩; have hsl : s < lk.length := by rw [← hs]; exact (stripe_eq t.c.doc c2.1).2
    have hsh : s < held.length := by omega
    simp [hs, hsl, hsh]; by_cases d3 : held[s] = -1
    rotate_left
    · have h : ¬ worldOk ⟨hh, lk, qs, tasks, step⟩ := fun h => by
        refine held_two (locks := lk) hh' hlt (by rw [ht]; exact d2) (by rw [ht, hs]; exact hsh) ?_ h.2.2.2.2.2.2.1.2; simp only [ht, hs]; exact d3
      simp [d3, dc_neg h]
    simp [d3, hsl, hhl]; refine Ent.refl ⟨i + 1, held.set s i, ⟨by omega, htk', held_set hh' hlt (by rw [ht]; exact d2) (by rw [ht]; exact hs) hsh d3⟩, by omega, ?_⟩; simp; exact i64_suc (by omega)
  have hie : i = tasks.length := by omega
  subst hie; rw [List.take_length] at htk; have he := held_end c2.1 hh'; simp; refine ACall.pure (slEqInt_c held lk (by omega)) (by simp [hhl]) ?_; have hW : worldOk ⟨hh, lk, qs, tasks, step⟩ ↔ stepsOk ⟨hh, lk, qs, tasks, step⟩ ∧ held = lk ∧ queuesOk ⟨hh, lk, qs, tasks, step⟩ := ⟨fun h => ⟨h.2.2.2.2.2.1, he.2 h.2.2.2.2.2.2.1, h.2.2.2.2.2.2.2⟩, fun h => ⟨htk, c1, c2, c3, c4, h.1, he.1 h.2.1, h.2.2⟩⟩; by_cases d1 : held = lk
  rotate_left
  · have h : ¬ worldOk ⟨hh, lk, qs, tasks, step⟩ := fun h => d1 (hW.1 h).2.1
    simp [d1, dc_neg h]
  simp [d1]; refine ACall.pure hSt (by simp) ?_; by_cases d2 : stepsOk ⟨hh, lk, qs, tasks, step⟩
  rotate_left
  · have h : ¬ worldOk ⟨hh, lk, qs, tasks, step⟩ := fun h => d2 (hW.1 h).1
    simp [dc_neg d2, dc_neg h]
  simp [d2]; refine ACall.pure hQu (by simp [Wld.row]) ?_; have e : vb (queuesOk ⟨hh, lk, qs, tasks, step⟩) = vb (worldOk ⟨hh, lk, qs, tasks, step⟩) := vb_iff ⟨fun h => hW.2 ⟨d2, d1, h⟩, fun h => (hW.1 h).2.2⟩; rw [e]; simp
theorem specWorldOk_i (w : Wld) (hl : nWorld w ≤ 2 ^ 30) : PureC Tryz.prog 30 [.agg w.row] (.one (.c (vb (worldOk w)) 1)) := by
  refine PureC.intro' tt_ok Tryz.func30 (by kernel_rfl) rfl rfl rfl (Nat.le_of_ble_eq_true rfl) (fun w0 base => ?_); have hSt := specSteps_c w hl; have hLo := specLocks_c w hl; have hQu := specQueues_c w hl; obtain ⟨nh, n2, n3, n4⟩ := nWorld_parts hl; obtain ⟨hh, lk, qs, tasks, step⟩ := w; have hle := nL_len n4; simp only at hle n2 n4 nh hLo; simp [Wld.row]; intro b1
  refine LoopT.introG eok (fun i : Nat => i ≤ tasks.length ∧ ∀ t ∈ tasks.take i, taskOk t) (fun i => ⟨48, 0, [(8, .v (.int .i64 i)), (7, .v (.int .i64 tasks.length)), (6, .ro (tasks.map Task.row)), (1, .p 16 b1 0)],
    [(16, .vars b1 71 [.v (.bool hh.shut), .ro (hh.docs.map Doc.row), .ro (hh.subs.map Sub.row), .v (.int .i64 hh.last), .ro (lk.map intR), .ro (qs.map Queue.row), .ro (tasks.map Task.row), .v (.int .i64 step)])]⟩) (fun i => tasks.length - i) 0 (by simp) (by simp) (fun i hi => Ent.refl ?_)
  obtain ⟨hi, htk⟩ := hi; by_cases hlt : i < tasks.length
  · obtain ⟨t, ht⟩ : ∃ t, tasks[i] = t := ⟨_, rfl⟩
    have hm := nL_at n4 hlt; rw [ht] at hm; have hmem : t ∈ tasks := by rw [← ht]; exact List.getElem_mem hlt
    simp [hlt, ht, Task.row]; intro b7; refine ACall.pure (specTaskOk_c t (by omega)) (by simp [Task.row]) ?_; by_cases d1 : taskOk t
    rotate_left
    · have h : ¬ worldOk ⟨hh, lk, qs, tasks, step⟩ := worldOk_taken (fun h => d1 (h t hmem))
      simp [dc_neg d1, dc_neg h]
    simp [d1]; exact Ent.refl ⟨i + 1, ⟨by omega, all_suc hlt htk (by rw [ht]; exact d1)⟩, by omega, by simp; exact i64_suc (by omega)⟩
  have hie : i = tasks.length := by omega
  subst hie; rw [List.take_length] at htk; simp; refine ACall.pure (specHubOk_c hh (by omega)) (by simp [Hub.row]) ?_; by_cases c1 : hubOk hh
  rotate_left
  · have h : ¬ worldOk ⟨hh, lk, qs, tasks, step⟩ := fun h => c1 h.2.1
    simp [dc_neg c1, dc_neg h]
  simp [c1]; refine ACall.pure (l01In_c lk.length 1 4) (by simp) ?_; by_cases c2 : 1 ≤ lk.length ∧ lk.length ≤ 4
  rotate_left
  · have h : ¬ worldOk ⟨hh, lk, qs, tasks, step⟩ := fun h => c2 h.2.2.1
    have c2' : ¬ (1 ≤ (lk.length : Int) ∧ (lk.length : Int) ≤ 4) := by omega
    simp [dc_neg c2', dc_neg h]
  have c2' : 1 ≤ (lk.length : Int) ∧ (lk.length : Int) ≤ 4 := by omega
  simp [c2']; by_cases c3 : tasks.length ≤ 10
  rotate_left
  · have h : ¬ worldOk ⟨hh, lk, qs, tasks, step⟩ := fun h => c3 h.2.2.2.1
    have c3' : ¬ (tasks.length : Int) ≤ 10 := by omega
    simp [c3', dc_neg h]
  have c3' : (tasks.length : Int) ≤ 10 := by omega
  simp [c3']; refine ACall.pure (l01In_c step 0 1000000) (by simp) ?_; by_cases c4 : 0 ≤ step ∧ step ≤ 1000000
  rotate_left
  · have h : ¬ worldOk ⟨hh, lk, qs, tasks, step⟩ := fun h => c4 h.2.2.2.2.1
    simp [dc_neg c4, dc_neg h]
  simp [c4]; refine ACall.pure hSt (by simp [Wld.row]) ?_; by_cases d2 : stepsOk ⟨hh, lk, qs, tasks, step⟩
  rotate_left
  · have h : ¬ worldOk ⟨hh, lk, qs, tasks, step⟩ := fun h => d2 h.2.2.2.2.2.1
    simp [dc_neg d2, dc_neg h]
  simp [d2]; refine ACall.pure (hLo c2.1) (by simp [Wld.row]) ?_; by_cases d3 : locksOk ⟨hh, lk, qs, tasks, step⟩
  rotate_left
  · have h : ¬ worldOk ⟨hh, lk, qs, tasks, step⟩ := fun h => d3 h.2.2.2.2.2.2.1
    simp [dc_neg d3, dc_neg h]
  simp [d3]; refine ACall.pure hQu (by simp [Wld.row]) ?_; have e : vb (queuesOk ⟨hh, lk, qs, tasks, step⟩) = vb (worldOk ⟨hh, lk, qs, tasks, step⟩) := vb_iff ⟨fun h => ⟨htk, c1, c2, c3, c4, d2, d3, h⟩, fun h => h.2.2.2.2.2.2.2⟩; rw [e]; simp
end Go.Proofs.YtdfdabjdfmamgaaGreat

namespace Go.Proofs.YtdfdabjdfmamgaaGreat
open Go.AM
set_option maxRecDepth 20000
set_option maxHeartbeats 6400000
theorem l12Call_c (c : Call) (hl : nCall c ≤ 2 ^ 30) : PureC Tryz.prog 133 [.agg c.row] (.one (.agg c.res)) := by
  refine PureC.intro' tt_ok Tryz.func133 (by kernel_rfl) rfl rfl rfl (Nat.le_of_ble_eq_true rfl) (fun w0 base => ?_); unfold nCall at hl; have h8 : c.text.length * 8 ≤ 140737488355328 := by omega
  simp [Call.row]; intro b1 b2; refine ACall.pure (l02Copy_c c.o (by omega)) (by simp) ?_; simp [h8]; intros; simp [Call.res]
theorem l12Answer_c (a : Answer) (hl : nAnswer a ≤ 2 ^ 30) : PureC Tryz.prog 289 [.agg a.row] (.one (.agg a.res)) := by
  refine PureC.intro' tt_ok Tryz.func289 (by kernel_rfl) rfl rfl rfl (Nat.le_of_ble_eq_true rfl) (fun w0 base => ?_); unfold nAnswer at hl; have h8 : a.text.length * 8 ≤ 140737488355328 := by omega
  simp [Answer.row]; intro b1 b2; simp [h8]; intros; refine ACall.pure (l08Entries_c a.list (by omega)) (by simp) ?_; simp [Answer.res]
theorem l14Task_c (t : Task) (hl : nTask t ≤ 2 ^ 30) : PureC Tryz.prog 219 [.agg t.row] (.one (.agg t.res)) := by
  refine PureC.intro' tt_ok Tryz.func219 (by kernel_rfl) rfl rfl rfl (Nat.le_of_ble_eq_true rfl) (fun w0 base => ?_); obtain ⟨n1, n2⟩ := nTask_call hl; simp [Task.row]; intro b1 b2; refine ACall.pure (l12Call_c t.c n1) (by simp [Call.row]) ?_; simp [Call.res]; intro H1 H2; refine ACall.pure (l12Answer_c t.a n2) (by simp [Answer.row]) ?_; simp [Answer.res]; intros; simp [Task.res]
theorem l14Copy_c (w : Wld) (hl : nWorld w ≤ 2 ^ 30) : PureC Tryz.prog 132 [.agg w.row] (.one (.agg w.res)) := by
  refine PureC.intro' tt_ok Tryz.func132 (by kernel_rfl) rfl rfl rfl (Nat.le_of_ble_eq_true rfl) (fun w0 base => ?_); obtain ⟨nh, n2, n3, n4⟩ := nWorld_parts hl; obtain ⟨hh, lk, qs, tasks, step⟩ := w; have hle := nL_len n4; have hlq := nL_len n3; simp only at hle hlq n2 n3 n4 nh; have h8 : lk.length * 8 ≤ 140737488355328 := by omega
  simp [Wld.row]; intro b1 b2; refine DrawT.cutS (fun x : Hd × Hd × Hd × Nat => [(3, .p 48 x.2.2.2 0)]) (fun x => [(48, .vars x.2.2.2 71 [.v (.bool hh.shut), .sl 161 x.1 5 0 hh.docs.length, .sl 162 x.2.1 6 0 hh.subs.length, .v (.int .i64 hh.last), .sl 176 x.2.2.1 1 0 lk.length, .nil, .nil, .v (.int .i64 step)]), (161, .rows x.1 5 (hh.docs.map Doc.row) true), (162, .rows x.2.1 6 (hh.subs.map Sub.row) true), (176, .rows x.2.2.1 1 (lk.map intR) true)]) [1, 2] ?_ ?_
  · refine DrawT.introS eok mix [0, 1, 4, 5, 7, 8] [2, 3, 6, 9, 10, 11] (.child 2 [false, false, false, false, true, false] [true, true, true, true, false, true] (.child 3 [false, false, false, false, false, false] [true, true, true, true, false, true] (.child 6 [false, false, true, false, false, false] [true, true, false, true, false, true] (.child 9 [true, false, false, false, false, false] [false, true, false, true, false, true] (.child 10 [false, false, false, false, false, false] [false, true, false, true, false, true] (.child 11 [false, true, false, true, false, true] [false, false, false, false, false, false] (.leaf [false, false, false, false, false, false]) .stop) .stop) (.child 10 [false, false, false, false, false, false] [true, true, false, true, false, true] (.child 9 [true, false, false, false, false, false] [false, true, false, true, false, true] (.child 11 [false, true, false, true, false, true] [false, false, false, false, false, false] (.leaf [false, false, false, false, false, false]) .stop) .stop) .stop)) (.child 10 [false, false, false, false, false, false] [true, true, true, true, false, true] (.child 6 [false, false, true, false, false, false] [true, true, false, true, false, true] (.child 9 [true, false, false, false, false, false] [false, true, false, true, false, true] (.child 11 [false, true, false, true, false, true] [false, false, false, false, false, false] (.leaf [false, false, false, false, false, false]) .stop) .stop) .stop) .stop)) (.child 10 [false, false, false, false, false, false] [true, true, true, true, false, true] (.child 3 [false, false, false, false, false, false] [true, true, true, true, false, true] (.child 6 [false, false, true, false, false, false] [true, true, false, true, false, true] (.child 9 [true, false, false, false, false, false] [false, true, false, true, false, true] (.child 11 [false, true, false, true, false, true] [false, false, false, false, false, false] (.leaf [false, false, false, false, false, false]) .stop) .stop) .stop) .stop) .stop)) (.child 3 [false, false, false, false, false, false] [true, true, true, true, true, true] (.child 2 [false, false, false, false, true, false] [true, true, true, true, false, true] (.child 6 [false, false, true, false, false, false] [true, true, false, true, false, true] (.child 9 [true, false, false, false, false, false] [false, true, false, true, false, true] (.child 10 [false, false, false, false, false, false] [false, true, false, true, false, true] (.child 11 [false, true, false, true, false, true] [false, false, false, false, false, false] (.leaf [false, false, false, false, false, false]) .stop) .stop) (.child 10 [false, false, false, false, false, false] [true, true, false, true, false, true] (.child 9 [true, false, false, false, false, false] [false, true, false, true, false, true] (.child 11 [false, true, false, true, false, true] [false, false, false, false, false, false] (.leaf [false, false, false, false, false, false]) .stop) .stop) .stop)) (.child 10 [false, false, false, false, false, false] [true, true, true, true, false, true] (.child 6 [false, false, true, false, false, false] [true, true, false, true, false, true] (.child 9 [true, false, false, false, false, false] [false, true, false, true, false, true] (.child 11 [false, true, false, true, false, true] [false, false, false, false, false, false] (.leaf [false, false, false, false, false, false]) .stop) .stop) .stop) .stop)) (.child 10 [false, false, false, false, false, false] [true, true, true, true, true, true] (.child 2 [false, false, false, false, true, false] [true, true, true, true, false, true] (.child 6 [false, false, true, false, false, false] [true, true, false, true, false, true] (.child 9 [true, false, false, false, false, false] [false, true, false, true, false, true] (.child 11 [false, true, false, true, false, true] [false, false, false, false, false, false] (.leaf [false, false, false, false, false, false]) .stop) .stop) .stop) .stop) .stop)) (.child 10 [false, false, false, false, false, false] [true, true, true, true, true, true] (.child 2 [false, false, false, false, true, false] [true, true, true, true, false, true] (.child 3 [false, false, false, false, false, false] [true, true, true, true, false, true] (.child 6 [false, false, true, false, false, false] [true, true, false, true, false, true] (.child 9 [true, false, false, false, false, false] [false, true, false, true, false, true] (.child 11 [false, true, false, true, false, true] [false, false, false, false, false, false] (.leaf [false, false, false, false, false, false]) .stop) .stop) .stop) .stop) (.child 3 [false, false, false, false, false, false] [true, true, true, true, true, true] (.child 2 [false, false, false, false, true, false] [true, true, true, true, false, true] (.child 6 [false, false, true, false, false, false] [true, true, false, true, false, true] (.child 9 [true, false, false, false, false, false] [false, true, false, true, false, true] (.child 11 [false, true, false, true, false, true] [false, false, false, false, false, false] (.leaf [false, false, false, false, false, false]) .stop) .stop) .stop) .stop) .stop)) .stop))) (by kernel_rfl) ?_
    simp
    try intros
    rw [Tr_child]; refine ⟨?_, ?_⟩
    · skip
      simp
      try intros
      refine ACall.pure (l11Copy_c hh nh) (by simp [Hub.row]) ?_; simp [Hub.res]
      try intros
      rw [Tr_child]; refine ⟨?_, ?_⟩
      · skip
        simp
        try intros
        rw [Tr_child]; refine ⟨?_, ?_⟩
        · skip
          simp [h8]
          try intros
          rw [Tr_child]; refine ⟨?_, ?_⟩
          · skip
            simp
            try intros
          · skip
            simp
            try intros
        · skip
          simp [h8]
          try intros
      · skip
        simp [h8]
        try intros
    · skip
      rw [Tr_child]; refine ⟨?_, ?_⟩
      · skip
        simp
        try intros
        rw [Tr_child]; refine ⟨?_, ?_⟩
        · skip
          simp
          try intros
          refine ACall.pure (l11Copy_c hh nh) (by simp [Hub.row]) ?_; simp [Hub.res]
          try intros
          rw [Tr_child]; refine ⟨?_, ?_⟩
          · skip
            simp [h8]
            try intros
            rw [Tr_child]; refine ⟨?_, ?_⟩
            · skip
              simp
              try intros
            · skip
              simp
              try intros
          · skip
            simp [h8]
            try intros
        · skip
          simp
          try intros
          refine ACall.pure (l11Copy_c hh nh) (by simp [Hub.row]) ?_; simp [Hub.res, h8]
          try intros
      · skip
        simp
        try intros
        rw [Tr_child]; refine ⟨?_, ?_⟩
        · skip
          simp [h8]
          try intros
          refine ACall.pure (l11Copy_c hh nh) (by simp [Hub.row]) ?_; simp [Hub.res]
          try intros
        · skip
          simp
          try intros
          refine ACall.pure (l11Copy_c hh nh) (by simp [Hub.row]) ?_; simp [Hub.res, h8]
          try intros
  rintro ⟨H1, H2, H3, b3⟩
  simp
  refine LoopT.introG eok (fun x : Nat × Hd => x.1 ≤ qs.length) (fun x => ⟨54, 0, [(21, .v (.int .i64 x.1)), (20, .v (.int .i64 qs.length)), (19, .ro (qs.map Queue.row)), (1, .p 16 b1 0), (3, .p 48 b3 0), (2, .p 32 b2 0)],
    [(48, .vars b3 71 [.v (.bool hh.shut), .sl 161 H1 5 0 hh.docs.length, .sl 162 H2 6 0 hh.subs.length, .v (.int .i64 hh.last), .sl 176 H3 1 0 lk.length, .sl 5000 x.2 2 0 x.1, .nil, .v (.int .i64 step)]),
     (32, .vars b2 71 [.v (.bool false), .nil, .nil, .v (.int .i64 0), .nil, .nil, .nil, .v (.int .i64 0)]),
     (16, .vars b1 71 [.v (.bool hh.shut), .ro (hh.docs.map Doc.row), .ro (hh.subs.map Sub.row), .v (.int .i64 hh.last), .ro (lk.map intR), .ro (qs.map Queue.row), .ro (tasks.map Task.row), .v (.int .i64 step)]),
     (161, .rows H1 5 (hh.docs.map Doc.row) true), (162, .rows H2 6 (hh.subs.map Sub.row) true), (176, .rows H3 1 (lk.map intR) true), (5000, .rows x.2 2 ((qs.take x.1).map Queue.row) true)]⟩) (fun x => qs.length - x.1) (0, none) (by simp) (by simp) (fun x hi => Ent.refl ?_)
  obtain ⟨i, H⟩ := x; simp only at hi ⊢; by_cases hlt : i < qs.length
  · have hm := nL_at n3 hlt
    unfold nQueue at hm; have e1 : min i qs.length = i := by omega
    have q8 : qs[i].list.length * 8 ≤ 140737488355328 := by omega
    simp [hlt, Queue.row]; intro b5; refine DrawT.introS eok mix [0, 1, 2, 3, 5, 6, 11] [4, 7, 8, 9, 10, 12] (.child 4 [false, false, false, false, false, false, false] [true, true, true, true, true, true, true] (.child 7 [false, true, false, false, false, false, false] [true, false, true, true, true, true, true] (.child 8 [false, false, false, true, false, false, false] [true, false, true, false, true, true, true] (.child 9 [false, false, false, false, false, false, false] [true, false, true, false, true, true, true] (.child 10 [false, false, false, false, false, true, false] [true, false, true, false, true, false, true] (.child 12 [true, false, true, false, true, false, true] [false, false, false, false, false, false, false] (.leaf [false, false, false, false, false, false, false]) .stop) .stop) .stop) .stop) .stop) .stop) (by kernel_rfl) ?_; simp [q8]
    try intros
    simp [e1]; refine ⟨by omega, fun H' => Ent.refl ⟨i + 1, by omega, by omega, H', ?_⟩⟩; simp; exact ⟨i64_suc (by omega), take_snoc (f := Queue.row) hlt⟩
  have hm : i = qs.length := by omega
  subst hm; simp
  refine LoopT.introG eok (fun x : Nat × Hd => x.1 ≤ tasks.length) (fun x => ⟨54, 0, [(41, .v (.int .i64 x.1)), (40, .v (.int .i64 tasks.length)), (39, .ro (tasks.map Task.row)), (3, .p 48 b3 0), (2, .p 32 b2 0)],
    [(48, .vars b3 71 [.v (.bool hh.shut), .sl 161 H1 5 0 hh.docs.length, .sl 162 H2 6 0 hh.subs.length, .v (.int .i64 hh.last), .sl 176 H3 1 0 lk.length, .sl 5000 H 2 0 qs.length, .sl 5001 x.2 15 0 x.1, .v (.int .i64 step)]),
     (32, .vars b2 71 [.v (.bool false), .nil, .nil, .v (.int .i64 0), .nil, .nil, .nil, .v (.int .i64 0)]),
     (161, .rows H1 5 (hh.docs.map Doc.row) true), (162, .rows H2 6 (hh.subs.map Sub.row) true), (176, .rows H3 1 (lk.map intR) true), (5000, .rows H 2 (qs.map Queue.row) true), (5001, .rows x.2 15 ((tasks.take x.1).map Task.row) true)]⟩) (fun x => tasks.length - x.1) (0, none) (by simp) (by simp) (fun x hi => Ent.refl ?_)
  obtain ⟨i, H'⟩ := x; simp only at hi ⊢; by_cases hlt : i < tasks.length
  · have hm := nL_at n4 hlt
    have e1 : min i tasks.length = i := by omega
    simp [hlt, Task.row]; intro b7; refine DrawT.introS eok mix [0, 1, 2, 6] [3, 4, 5, 7] (.child 3 [false, true, false, false] [true, false, true, true] (.child 4 [false, false, false, false] [true, false, true, true] (.child 5 [false, false, true, false] [true, false, false, true] (.child 7 [true, false, false, true] [false, false, false, false] (.leaf [false, false, false, false]) .stop) .stop) .stop) .stop) (by kernel_rfl) ?_; simp
    try intros
    refine ACall.pure (l14Task_c tasks[i] hm) (by simp [Task.row]) ?_; simp [Task.res]
    try intros
    simp [e1]; refine ⟨by omega, fun H'' => Ent.refl ⟨i + 1, by omega, by omega, H'', ?_⟩⟩; simp; exact ⟨i64_suc (by omega), take_snoc (f := Task.row) hlt⟩
  have hm : i = tasks.length := by omega
  subst hm; simp [Wld.res]
end Go.Proofs.YtdfdabjdfmamgaaGreat

