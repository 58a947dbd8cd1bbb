import Derived.Test.YtdfdabjdfmamgaaGreatPK
namespace Go.Proofs.YtdfdabjdfmamgaaGreat
open Go.AM
set_option maxRecDepth 20000
set_option maxHeartbeats 12800000
theorem fSettle_yes {n : Net} (h : netOk n) : fSettle n = (rounds n 6, dc (netRest (rounds n 6))) := by unfold fSettle; rw [if_pos h]
theorem fSettle_no {n : Net} (h : ¬ netOk n) : fSettle n = (Net.zero, false) := by unfold fSettle; rw [if_neg h]
theorem turnA_yes {n : Net} {i : Nat} (h : hasAt n i = true) : turnA n i = (fNetDo n ⟨4, i, 0, []⟩).1 := by unfold turnA; rw [if_pos h]
theorem turnA_no {n : Net} {i : Nat} (h : hasAt n i = false) : turnA n i = n := by unfold turnA; rw [if_neg (by rw [h]; simp)]
theorem turn_yes {n : Net} {i : Nat} (h : (turnC n i).2 = 3) : turn n i = (fNetDo (turnC n i).1 ⟨6, i, 0, []⟩).1 := by unfold turn; rw [if_pos h]
theorem turn_no {n : Net} {i : Nat} (h : ¬ (turnC n i).2 = 3) : turn n i = (turnC n i).1 := by unfold turn; rw [if_neg h]
theorem ev_n (k w n : Int) : nEvent ⟨k, w, n, []⟩ ≤ 2 ^ 40 := by simp [nEvent, nL, sumN]
theorem implSettle_i (n : Net) (hl : nNet n ≤ 2 ^ 26) : PureC Tryz.prog 64 [.agg n.row] (.tup [.agg (fSettle n).1.res, .c (.v (.bool (fSettle n).2)) 1]) := by
  refine PureC.intro' tt_ok Tryz.func64 (by kernel_rfl) rfl rfl rfl (Nat.le_of_ble_eq_true rfl) (fun w0 base => ?_)
  obtain ⟨d, reps⟩ := n
  simp [Net.row]
  intro b1 b2
  refine ACall.pure (implNetOk_i ⟨d, reps⟩ (by omega)) (by simp [Net.row]) ?_
  by_cases c1 : netOk ⟨d, reps⟩
  rotate_left
  · simp [dc_neg c1, fSettle_no c1, Net.res, Net.zero, Doc.zero]
  have hS := fSettle_yes c1
  have hlen : reps.length ≤ 4 := c1.2.1.2
  simp [c1]
  refine ACall.pure (copyNet_c ⟨d, reps⟩ (by omega)) (by simp [Net.row]) ?_
  simp [Net.res]
  intro H2 H3 H4 H5 b4
  refine LoopT.introG eok (fun x : (Nat × Nat) × Hd × Hd × Hd × Hd => (x.1.2 = 224 ∨ x.1.2 = 784 ∨ x.1.2 = 944) ∧ x.1.1 ≤ 6) (fun x => ⟨66, 0, [(5, .v (.int .i64 x.1.1)), (2, .p 32 b2 0), (4, .p 64 b4 0)],
    [(64, .vars b4 38 [.v (.string (rounds ⟨d, reps⟩ x.1.1).d.name), .v (.int .i64 (rounds ⟨d, reps⟩ x.1.1).d.fr), .sl (x.1.2 + 2) x.2.1 1 0 (rounds ⟨d, reps⟩ x.1.1).d.text.length, .sl (x.1.2 + 3) x.2.2.1 3 0 (rounds ⟨d, reps⟩ x.1.1).d.list.length, .sl (x.1.2 + 4) x.2.2.2.1 3 0 (rounds ⟨d, reps⟩ x.1.1).d.seen.length, .sl (x.1.2 + 5) x.2.2.2.2 7 0 (rounds ⟨d, reps⟩ x.1.1).reps.length]),
     (32, .vars b2 38 [.v (.string ⟨#[]⟩), .v (.int .i64 0), .nil, .nil, .nil, .nil]),
     (x.1.2 + 2, .rows x.2.1 1 ((rounds ⟨d, reps⟩ x.1.1).d.text.map intR) true), (x.1.2 + 3, .rows x.2.2.1 3 ((rounds ⟨d, reps⟩ x.1.1).d.list.map Entry.row) true), (x.1.2 + 4, .rows x.2.2.2.1 3 ((rounds ⟨d, reps⟩ x.1.1).d.seen.map Seen.row) true), (x.1.2 + 5, .rows x.2.2.2.2 7 ((rounds ⟨d, reps⟩ x.1.1).reps.map Rep.row) true)]⟩) (fun x => 6 - x.1.1) ((0, 224), H2, H3, H4, H5) (by simp) (by simp [rounds]) (fun x hx => Ent.refl ?_)
  obtain ⟨⟨r, k⟩, G2, G3, G4, G5⟩ := x
  obtain ⟨hk, hr⟩ := hx
  simp only at hk hr ⊢
  have hn := rounds_n (n := ⟨d, reps⟩) (B := 2 ^ 26) (by omega) hl r
  have hln := rounds_len ⟨d, reps⟩ r
  simp only at hln
  by_cases hlt : r < 6
  rotate_left
  · have : r = 6 := by omega
    subst this
    generalize rounds ⟨d, reps⟩ 6 = N at hn hln hS ⊢
    obtain ⟨⟨nm, fr, tx, ls, sn⟩, rp⟩ := N
    simp only at hln hS
    rcases hk with rfl | rfl | rfl
    all_goals
      simp
      refine DrawT.introS eok mix [0, 1] [2, 3, 4] (.child 2 [true, false] [false, true] (.child 3 [false, true] [false, false] (.child 4 [false, false] [false, false] (.leaf [false, false]) .stop) .stop) .stop) (by kernel_rfl) ?_
      simp
      try intros
      refine ACall.pure (implNetRest_i ⟨⟨nm, fr, tx, ls, sn⟩, rp⟩ (by omega)) (by simp [Net.row]) ?_
      simp
      try intros
      simp [hS]
  have hrlt : (r : Int) < 6 := by omega
  have hsuc : rounds ⟨d, reps⟩ (r + 1) = roundTo (rounds ⟨d, reps⟩ r) reps.length := rfl
  have ew : Go.IntKind.i64.wrap ((r : Int) + 1) = ((r + 1 : Nat) : Int) := i64_suc (by omega)
  generalize rounds ⟨d, reps⟩ r = N at hn hln hsuc ⊢
  simp [hrlt]
  refine LoopT.introG eok (fun x : (Nat × Nat) × Hd × Hd × Hd × Hd => (x.1.2 = 224 ∨ x.1.2 = 784 ∨ x.1.2 = 944) ∧ x.1.1 ≤ reps.length) (fun x => ⟨66, 0, [(22, .v (.int .i64 x.1.1)), (21, .v (.int .i64 reps.length)), (5, .v (.int .i64 r)), (2, .p 32 b2 0), (4, .p 64 b4 0)],
    [(64, .vars b4 38 [.v (.string (roundTo N x.1.1).d.name), .v (.int .i64 (roundTo N x.1.1).d.fr), .sl (x.1.2 + 2) x.2.1 1 0 (roundTo N x.1.1).d.text.length, .sl (x.1.2 + 3) x.2.2.1 3 0 (roundTo N x.1.1).d.list.length, .sl (x.1.2 + 4) x.2.2.2.1 3 0 (roundTo N x.1.1).d.seen.length, .sl (x.1.2 + 5) x.2.2.2.2 7 0 (roundTo N x.1.1).reps.length]),
     (32, .vars b2 38 [.v (.string ⟨#[]⟩), .v (.int .i64 0), .nil, .nil, .nil, .nil]),
     (x.1.2 + 2, .rows x.2.1 1 ((roundTo N x.1.1).d.text.map intR) true), (x.1.2 + 3, .rows x.2.2.1 3 ((roundTo N x.1.1).d.list.map Entry.row) true), (x.1.2 + 4, .rows x.2.2.2.1 3 ((roundTo N x.1.1).d.seen.map Seen.row) true), (x.1.2 + 5, .rows x.2.2.2.2 7 ((roundTo N x.1.1).reps.map Rep.row) true)]⟩) (fun x => reps.length - x.1.1) ((0, k), G2, G3, G4, G5) ⟨hk, by simp⟩ (by rcases hk with rfl | rfl | rfl <;> simp [roundTo, hln]) (fun x hx => Ent.refl ?_)
  obtain ⟨⟨i, k'⟩, U2, U3, U4, U5⟩ := x
  obtain ⟨hk', hi⟩ := hx
  simp only at hk' hi ⊢
  have hm := roundTo_n (n := N) (B := 2 ^ 26) (by omega) hn i
  have hml := roundTo_len N i
  rw [hln] at hml
  have ti := turn_n (n := roundTo N i) (i := i) (B := 2 ^ 26) (by omega) hm
  by_cases hlt2 : i < reps.length
  rotate_left
  · have : i = reps.length := by omega
    subst this
    simp
    refine Ent.refl ⟨r + 1, k', ⟨hk', by omega⟩, by omega, U2, U3, U4, U5, ?_⟩
    rw [hsuc]
    rcases hk' with rfl | rfl | rfl <;> simp <;> exact ew
  have hsuc2 : roundTo N (i + 1) = turn (roundTo N i) i := rfl
  have ewi : Go.IntKind.i64.wrap ((i : Int) + 1) = ((i + 1 : Nat) : Int) := i64_suc (by omega)
  have hti : turnB (roundTo N i) i = (fNetDo (turnA (roundTo N i) i) ⟨2, i, 0, []⟩).1 := rfl
  have htc : turnC (roundTo N i) i = fNetDo (turnB (roundTo N i) i) ⟨5, i, 8, []⟩ := rfl
  have hty := @turn_yes (roundTo N i) i
  have htn := @turn_no (roundTo N i) i
  have hay := @turnA_yes (roundTo N i) i
  have han := @turnA_no (roundTo N i) i
  have hha : ∀ rr, (roundTo N i).reps[i]? = some rr → hasAt (roundTo N i) i = rr.has := fun rr h => by unfold hasAt; rw [h]
  generalize turn (roundTo N i) i = Z at hsuc2 hty htn ti
  generalize turnC (roundTo N i) i = C at htc hty htn ti
  generalize turnB (roundTo N i) i = B at hti htc ti
  generalize turnA (roundTo N i) i = A at hti hay han ti
  generalize roundTo N i = M at hm hml hay han hha ti ⊢
  obtain ⟨⟨nm, fr, tx, ls, sn⟩, rp⟩ := M
  obtain ⟨tA, tB, tC, tZ⟩ := ti
  simp only at hml hha
  have hrp : i < rp.length := by omega
  obtain ⟨rr, hrr⟩ : ∃ rr, rp[i] = rr := ⟨_, rfl⟩
  replace hha := hha rr (by rw [List.getElem?_eq_getElem hrp, hrr])
  have cB := implNetDo_i A (by omega) ⟨2, i, 0, []⟩ (ev_n _ _ _)
  rw [show fNetDo A ⟨2, i, 0, []⟩ = (B, (fNetDo A ⟨2, i, 0, []⟩).2) from by rw [hti]] at cB
  generalize (fNetDo A ⟨2, i, 0, []⟩).2 = codeB at cB
  have cC := implNetDo_i B (by omega) ⟨5, i, 8, []⟩ (ev_n _ _ _)
  rw [← htc] at cC
  obtain ⟨C1, code⟩ := C
  have cZ := implNetDo_i C1 (by simp only at tC; omega) ⟨6, i, 0, []⟩ (ev_n _ _ _)
  simp only at hty htn cC
  clear hti htc
  obtain ⟨⟨n2, f2, t2, l2, s2⟩, r2⟩ := B
  obtain ⟨⟨n3, f3, t3, l3, s3⟩, r3⟩ := C1
  simp only at cB cC
  cases hh : rr.has with
  | true =>
    have hA := hay (hha.trans hh)
    have cA := implNetDo_i ⟨⟨nm, fr, tx, ls, sn⟩, rp⟩ (by omega) ⟨4, i, 0, []⟩ (ev_n _ _ _)
    rw [show fNetDo ⟨⟨nm, fr, tx, ls, sn⟩, rp⟩ ⟨4, i, 0, []⟩ = (A, (fNetDo ⟨⟨nm, fr, tx, ls, sn⟩, rp⟩ ⟨4, i, 0, []⟩).2) from by rw [hA]] at cA
    generalize (fNetDo ⟨⟨nm, fr, tx, ls, sn⟩, rp⟩ ⟨4, i, 0, []⟩).2 = codeA at cA
    clear hay han hA
    obtain ⟨⟨n1, f1, t1, l1, s1⟩, r1⟩ := A
    simp only at cA
    rcases hk' with rfl | rfl | rfl
    all_goals
      simp [hlt2, hrp, hrr, Rep.row, hh]
      refine ACall.pure cA (by simp [Net.row, Event.row]) ?_
      simp [Net.res]
      intro O2 O3 O4 O5
      refine ACall.pure cB (by simp [Net.row, Event.row]) ?_
      simp [Net.res]
      intro P2 P3 P4 P5
      refine ACall.pure cC (by simp [Net.row, Event.row]) ?_
      simp [Net.res]
      intro Q2 Q3 Q4 Q5 b7
      by_cases hz : code = 3
      · have hZ := hty hz
        rw [show fNetDo ⟨⟨n3, f3, t3, l3, s3⟩, r3⟩ ⟨6, i, 0, []⟩ = (Z, (fNetDo ⟨⟨n3, f3, t3, l3, s3⟩, r3⟩ ⟨6, i, 0, []⟩).2) from by rw [hZ]] at cZ
        generalize (fNetDo ⟨⟨n3, f3, t3, l3, s3⟩, r3⟩ ⟨6, i, 0, []⟩).2 = codeZ at cZ
        simp [hz]
        refine ACall.pure cZ (by simp [Net.row, Event.row]) ?_
        simp [Net.res]
        intro R2 R3 R4 R5
        refine Ent.refl ⟨i + 1, 944, ⟨by simp, by omega⟩, by omega, R2, R3, R4, R5, ?_⟩
        rw [hsuc2]
        simp
        exact ewi
      · have hZ := htn hz
        subst hZ
        simp [hz]
        refine Ent.refl ⟨i + 1, 784, ⟨by simp, by omega⟩, by omega, Q2, Q3, Q4, Q5, ?_⟩
        rw [hsuc2]
        simp
        exact ewi
  | false =>
    have hA := han (hha.trans hh)
    subst hA
    clear hay han
    rcases hk' with rfl | rfl | rfl
    all_goals
      simp [hlt2, hrp, hrr, Rep.row, hh]
      refine ACall.pure cB (by simp [Net.row, Event.row]) ?_
      simp [Net.res]
      intro P2 P3 P4 P5
      refine ACall.pure cC (by simp [Net.row, Event.row]) ?_
      simp [Net.res]
      intro Q2 Q3 Q4 Q5 b7
      by_cases hz : code = 3
      · have hZ := hty hz
        rw [show fNetDo ⟨⟨n3, f3, t3, l3, s3⟩, r3⟩ ⟨6, i, 0, []⟩ = (Z, (fNetDo ⟨⟨n3, f3, t3, l3, s3⟩, r3⟩ ⟨6, i, 0, []⟩).2) from by rw [hZ]] at cZ
        generalize (fNetDo ⟨⟨n3, f3, t3, l3, s3⟩, r3⟩ ⟨6, i, 0, []⟩).2 = codeZ at cZ
        simp [hz]
        refine ACall.pure cZ (by simp [Net.row, Event.row]) ?_
        simp [Net.res]
        intro R2 R3 R4 R5
        refine Ent.refl ⟨i + 1, 944, ⟨by simp, by omega⟩, by omega, R2, R3, R4, R5, ?_⟩
        rw [hsuc2]
        simp
        exact ewi
      · have hZ := htn hz
        subst hZ
        simp [hz]
        refine Ent.refl ⟨i + 1, 784, ⟨by simp, by omega⟩, by omega, Q2, Q3, Q4, Q5, ?_⟩
        rw [hsuc2]
        simp
        exact ewi
theorem specSettle_i (n : Net) (hl : nNet n ≤ 2 ^ 26) : PureC Tryz.prog 63 [.agg n.row] (.tup [.agg (fSettle n).1.res, .c (.v (.bool (fSettle n).2)) 1]) := by
  refine PureC.intro' tt_ok Tryz.func63 (by kernel_rfl) rfl rfl rfl (Nat.le_of_ble_eq_true rfl) (fun w0 base => ?_)
  obtain ⟨d, reps⟩ := n
  simp [Net.row]
  intro b1 b2
  refine ACall.pure (specNetOk_i ⟨d, reps⟩ (by omega)) (by simp [Net.row]) ?_
  by_cases c1 : netOk ⟨d, reps⟩
  rotate_left
  · simp [dc_neg c1, fSettle_no c1, Net.res, Net.zero, Doc.zero]
  have hS := fSettle_yes c1
  have hlen : reps.length ≤ 4 := c1.2.1.2
  simp [c1]
  refine ACall.pure (l18Copy_c ⟨d, reps⟩ (by omega)) (by simp [Net.row]) ?_
  simp [Net.res]
  intro H2 H3 H4 H5 b4
  refine LoopT.introG eok (fun x : (Nat × Nat) × Hd × Hd × Hd × Hd => (x.1.2 = 224 ∨ x.1.2 = 784 ∨ x.1.2 = 944) ∧ x.1.1 ≤ 6) (fun x => ⟨66, 0, [(5, .v (.int .i64 x.1.1)), (2, .p 32 b2 0), (4, .p 64 b4 0), (1, .p 16 b1 0)],
    [(64, .vars b4 38 [.v (.string (rounds ⟨d, reps⟩ x.1.1).d.name), .v (.int .i64 (rounds ⟨d, reps⟩ x.1.1).d.fr), .sl (x.1.2 + 2) x.2.1 1 0 (rounds ⟨d, reps⟩ x.1.1).d.text.length, .sl (x.1.2 + 3) x.2.2.1 3 0 (rounds ⟨d, reps⟩ x.1.1).d.list.length, .sl (x.1.2 + 4) x.2.2.2.1 3 0 (rounds ⟨d, reps⟩ x.1.1).d.seen.length, .sl (x.1.2 + 5) x.2.2.2.2 7 0 (rounds ⟨d, reps⟩ x.1.1).reps.length]),
     (32, .vars b2 38 [.v (.string ⟨#[]⟩), .v (.int .i64 0), .nil, .nil, .nil, .nil]),
     (16, .vars b1 38 [.v (.string d.name), .v (.int .i64 d.fr), .ro (d.text.map intR), .ro (d.list.map Entry.row), .ro (d.seen.map Seen.row), .ro (reps.map Rep.row)]), (x.1.2 + 2, .rows x.2.1 1 ((rounds ⟨d, reps⟩ x.1.1).d.text.map intR) true), (x.1.2 + 3, .rows x.2.2.1 3 ((rounds ⟨d, reps⟩ x.1.1).d.list.map Entry.row) true), (x.1.2 + 4, .rows x.2.2.2.1 3 ((rounds ⟨d, reps⟩ x.1.1).d.seen.map Seen.row) true), (x.1.2 + 5, .rows x.2.2.2.2 7 ((rounds ⟨d, reps⟩ x.1.1).reps.map Rep.row) true)]⟩) (fun x => 6 - x.1.1) ((0, 224), H2, H3, H4, H5) (by simp) (by simp [rounds]) (fun x hx => Ent.refl ?_)
  obtain ⟨⟨r, k⟩, G2, G3, G4, G5⟩ := x
  obtain ⟨hk, hr⟩ := hx
  simp only at hk hr ⊢
  have hn := rounds_n (n := ⟨d, reps⟩) (B := 2 ^ 26) (by omega) hl r
  have hln := rounds_len ⟨d, reps⟩ r
  simp only at hln
  by_cases hlt : r < 6
  rotate_left
  · have : r = 6 := by omega
    subst this
    generalize rounds ⟨d, reps⟩ 6 = N at hn hln hS ⊢
    obtain ⟨⟨nm, fr, tx, ls, sn⟩, rp⟩ := N
    simp only at hln hS
    rcases hk with rfl | rfl | rfl
    all_goals
      simp
      refine DrawT.introS eok mix [0, 1] [2, 3, 4] (.child 2 [true, false] [false, true] (.child 3 [false, true] [false, false] (.child 4 [false, false] [false, false] (.leaf [false, false]) .stop) .stop) .stop) (by kernel_rfl) ?_
      simp
      try intros
      refine ACall.pure (specNetRest_i ⟨⟨nm, fr, tx, ls, sn⟩, rp⟩ (by omega)) (by simp [Net.row]) ?_
      simp
      try intros
      simp [hS]
  have hrlt : (r : Int) < 6 := by omega
  have hsuc : rounds ⟨d, reps⟩ (r + 1) = roundTo (rounds ⟨d, reps⟩ r) reps.length := rfl
  have ew : Go.IntKind.i64.wrap ((r : Int) + 1) = ((r + 1 : Nat) : Int) := i64_suc (by omega)
  generalize rounds ⟨d, reps⟩ r = N at hn hln hsuc ⊢
  simp [hrlt]
  refine LoopT.introG eok (fun x : (Nat × Nat) × Hd × Hd × Hd × Hd => (x.1.2 = 224 ∨ x.1.2 = 784 ∨ x.1.2 = 944) ∧ x.1.1 ≤ reps.length) (fun x => ⟨66, 0, [(22, .v (.int .i64 x.1.1)), (21, .v (.int .i64 reps.length)), (5, .v (.int .i64 r)), (2, .p 32 b2 0), (4, .p 64 b4 0), (1, .p 16 b1 0)],
    [(64, .vars b4 38 [.v (.string (roundTo N x.1.1).d.name), .v (.int .i64 (roundTo N x.1.1).d.fr), .sl (x.1.2 + 2) x.2.1 1 0 (roundTo N x.1.1).d.text.length, .sl (x.1.2 + 3) x.2.2.1 3 0 (roundTo N x.1.1).d.list.length, .sl (x.1.2 + 4) x.2.2.2.1 3 0 (roundTo N x.1.1).d.seen.length, .sl (x.1.2 + 5) x.2.2.2.2 7 0 (roundTo N x.1.1).reps.length]),
     (32, .vars b2 38 [.v (.string ⟨#[]⟩), .v (.int .i64 0), .nil, .nil, .nil, .nil]),
     (16, .vars b1 38 [.v (.string d.name), .v (.int .i64 d.fr), .ro (d.text.map intR), .ro (d.list.map Entry.row), .ro (d.seen.map Seen.row), .ro (reps.map Rep.row)]), (x.1.2 + 2, .rows x.2.1 1 ((roundTo N x.1.1).d.text.map intR) true), (x.1.2 + 3, .rows x.2.2.1 3 ((roundTo N x.1.1).d.list.map Entry.row) true), (x.1.2 + 4, .rows x.2.2.2.1 3 ((roundTo N x.1.1).d.seen.map Seen.row) true), (x.1.2 + 5, .rows x.2.2.2.2 7 ((roundTo N x.1.1).reps.map Rep.row) true)]⟩) (fun x => reps.length - x.1.1) ((0, k), G2, G3, G4, G5) ⟨hk, by simp⟩ (by rcases hk with rfl | rfl | rfl <;> simp [roundTo, hln]) (fun x hx => Ent.refl ?_)
  obtain ⟨⟨i, k'⟩, U2, U3, U4, U5⟩ := x
  obtain ⟨hk', hi⟩ := hx
  simp only at hk' hi ⊢
  have hm := roundTo_n (n := N) (B := 2 ^ 26) (by omega) hn i
  have hml := roundTo_len N i
  rw [hln] at hml
  have ti := turn_n (n := roundTo N i) (i := i) (B := 2 ^ 26) (by omega) hm
  by_cases hlt2 : i < reps.length
  rotate_left
  · have : i = reps.length := by omega
    subst this
    simp
    refine Ent.refl ⟨r + 1, k', ⟨hk', by omega⟩, by omega, U2, U3, U4, U5, ?_⟩
    rw [hsuc]
    rcases hk' with rfl | rfl | rfl <;> simp <;> exact ew
  have hsuc2 : roundTo N (i + 1) = turn (roundTo N i) i := rfl
  have ewi : Go.IntKind.i64.wrap ((i : Int) + 1) = ((i + 1 : Nat) : Int) := i64_suc (by omega)
  have hti : turnB (roundTo N i) i = (fNetDo (turnA (roundTo N i) i) ⟨2, i, 0, []⟩).1 := rfl
  have htc : turnC (roundTo N i) i = fNetDo (turnB (roundTo N i) i) ⟨5, i, 8, []⟩ := rfl
  have hty := @turn_yes (roundTo N i) i
  have htn := @turn_no (roundTo N i) i
  have hay := @turnA_yes (roundTo N i) i
  have han := @turnA_no (roundTo N i) i
  have hha : ∀ rr, (roundTo N i).reps[i]? = some rr → hasAt (roundTo N i) i = rr.has := fun rr h => by unfold hasAt; rw [h]
  generalize turn (roundTo N i) i = Z at hsuc2 hty htn ti
  generalize turnC (roundTo N i) i = C at htc hty htn ti
  generalize turnB (roundTo N i) i = B at hti htc ti
  generalize turnA (roundTo N i) i = A at hti hay han ti
  generalize roundTo N i = M at hm hml hay han hha ti ⊢
  obtain ⟨⟨nm, fr, tx, ls, sn⟩, rp⟩ := M
  obtain ⟨tA, tB, tC, tZ⟩ := ti
  simp only at hml hha
  have hrp : i < rp.length := by omega
  obtain ⟨rr, hrr⟩ : ∃ rr, rp[i] = rr := ⟨_, rfl⟩
  replace hha := hha rr (by rw [List.getElem?_eq_getElem hrp, hrr])
  have cB := specNetDo_i A (by omega) ⟨2, i, 0, []⟩ (ev_n _ _ _)
  rw [show fNetDo A ⟨2, i, 0, []⟩ = (B, (fNetDo A ⟨2, i, 0, []⟩).2) from by rw [hti]] at cB
  generalize (fNetDo A ⟨2, i, 0, []⟩).2 = codeB at cB
  have cC := specNetDo_i B (by omega) ⟨5, i, 8, []⟩ (ev_n _ _ _)
  rw [← htc] at cC
  obtain ⟨C1, code⟩ := C
  have cZ := specNetDo_i C1 (by simp only at tC; omega) ⟨6, i, 0, []⟩ (ev_n _ _ _)
  simp only at hty htn cC
  clear hti htc
  obtain ⟨⟨n2, f2, t2, l2, s2⟩, r2⟩ := B
  obtain ⟨⟨n3, f3, t3, l3, s3⟩, r3⟩ := C1
  simp only at cB cC
  cases hh : rr.has with
  | true =>
    have hA := hay (hha.trans hh)
    have cA := specNetDo_i ⟨⟨nm, fr, tx, ls, sn⟩, rp⟩ (by omega) ⟨4, i, 0, []⟩ (ev_n _ _ _)
    rw [show fNetDo ⟨⟨nm, fr, tx, ls, sn⟩, rp⟩ ⟨4, i, 0, []⟩ = (A, (fNetDo ⟨⟨nm, fr, tx, ls, sn⟩, rp⟩ ⟨4, i, 0, []⟩).2) from by rw [hA]] at cA
    generalize (fNetDo ⟨⟨nm, fr, tx, ls, sn⟩, rp⟩ ⟨4, i, 0, []⟩).2 = codeA at cA
    clear hay han hA
    obtain ⟨⟨n1, f1, t1, l1, s1⟩, r1⟩ := A
    simp only at cA
    rcases hk' with rfl | rfl | rfl
    all_goals
      simp [hlt2, hrp, hrr, Rep.row, hh]
      refine ACall.pure cA (by simp [Net.row, Event.row]) ?_
      simp [Net.res]
      intro O2 O3 O4 O5
      refine ACall.pure cB (by simp [Net.row, Event.row]) ?_
      simp [Net.res]
      intro P2 P3 P4 P5
      refine ACall.pure cC (by simp [Net.row, Event.row]) ?_
      simp [Net.res]
      intro Q2 Q3 Q4 Q5 b7
      by_cases hz : code = 3
      · have hZ := hty hz
        rw [show fNetDo ⟨⟨n3, f3, t3, l3, s3⟩, r3⟩ ⟨6, i, 0, []⟩ = (Z, (fNetDo ⟨⟨n3, f3, t3, l3, s3⟩, r3⟩ ⟨6, i, 0, []⟩).2) from by rw [hZ]] at cZ
        generalize (fNetDo ⟨⟨n3, f3, t3, l3, s3⟩, r3⟩ ⟨6, i, 0, []⟩).2 = codeZ at cZ
        simp [hz]
        refine ACall.pure cZ (by simp [Net.row, Event.row]) ?_
        simp [Net.res]
        intro R2 R3 R4 R5
        refine Ent.refl ⟨i + 1, 944, ⟨by simp, by omega⟩, by omega, R2, R3, R4, R5, ?_⟩
        rw [hsuc2]
        simp
        exact ewi
      · have hZ := htn hz
        subst hZ
        simp [hz]
        refine Ent.refl ⟨i + 1, 784, ⟨by simp, by omega⟩, by omega, Q2, Q3, Q4, Q5, ?_⟩
        rw [hsuc2]
        simp
        exact ewi
  | false =>
    have hA := han (hha.trans hh)
    subst hA
    clear hay han
    rcases hk' with rfl | rfl | rfl
    all_goals
      simp [hlt2, hrp, hrr, Rep.row, hh]
      refine ACall.pure cB (by simp [Net.row, Event.row]) ?_
      simp [Net.res]
      intro P2 P3 P4 P5
      refine ACall.pure cC (by simp [Net.row, Event.row]) ?_
      simp [Net.res]
      intro Q2 Q3 Q4 Q5 b7
      by_cases hz : code = 3
      · have hZ := hty hz
        rw [show fNetDo ⟨⟨n3, f3, t3, l3, s3⟩, r3⟩ ⟨6, i, 0, []⟩ = (Z, (fNetDo ⟨⟨n3, f3, t3, l3, s3⟩, r3⟩ ⟨6, i, 0, []⟩).2) from by rw [hZ]] at cZ
        generalize (fNetDo ⟨⟨n3, f3, t3, l3, s3⟩, r3⟩ ⟨6, i, 0, []⟩).2 = codeZ at cZ
        simp [hz]
        refine ACall.pure cZ (by simp [Net.row, Event.row]) ?_
        simp [Net.res]
        intro R2 R3 R4 R5
        refine Ent.refl ⟨i + 1, 944, ⟨by simp, by omega⟩, by omega, R2, R3, R4, R5, ?_⟩
        rw [hsuc2]
        simp
        exact ewi
      · have hZ := htn hz
        subst hZ
        simp [hz]
        refine Ent.refl ⟨i + 1, 784, ⟨by simp, by omega⟩, by omega, Q2, Q3, Q4, Q5, ?_⟩
        rw [hsuc2]
        simp
        exact ewi
theorem implSettle_c (n : Net) (_ : n.fits) (h : nNet n ≤ 2 ^ 20) : PureC Tryz.prog 64 [.agg n.row] (.tup [.agg (fSettle n).1.res, .c (.v (.bool (fSettle n).2)) 1]) := implSettle_i n (by omega)
theorem specSettle_c (n : Net) (_ : n.fits) (h : nNet n ≤ 2 ^ 20) : PureC Tryz.prog 63 [.agg n.row] (.tup [.agg (fSettle n).1.res, .c (.v (.bool (fSettle n).2)) 1]) := specSettle_i n (by omega)
end Go.Proofs.YtdfdabjdfmamgaaGreat

