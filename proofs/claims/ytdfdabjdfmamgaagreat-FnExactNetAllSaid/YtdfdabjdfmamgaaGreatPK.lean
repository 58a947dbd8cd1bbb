import Derived.Test.YtdfdabjdfmamgaaGreatPJ
import Derived.Test.YtdfdabjdfmamgaaGreatNA
namespace Go.Proofs.YtdfdabjdfmamgaaGreat
open Go.AM
set_option maxRecDepth 20000
set_option maxHeartbeats 3200000

theorem copyNet_c (n : Net) (hl : nNet n ≤ 2 ^ 30) : PureC Tryz.prog 149 [.agg n.row] (.one (.agg n.res)) := by
  refine PureC.intro' tt_ok Tryz.func149 (by kernel_rfl) rfl rfl rfl (Nat.le_of_ble_eq_true rfl) (fun w0 base => ?_)
  obtain ⟨d, l⟩ := n
  unfold nNet at hl
  simp only at hl
  have hle := nL_len (f := nRep) (B := 2 ^ 30) (l := l) (by omega)
  simp [Net.row]
  intro b1 b2
  refine ACall.pure (copyDoc_c d (by omega)) (by simp [Doc.row]) ?_
  simp [Doc.res]
  intro H2 H3 H4 b3
  refine LoopT.introG eok (fun x : Nat × Hd => x.1 ≤ l.length) (fun x => ⟨26, 0, [(13, .v (.int .i64 x.1)), (12, .v (.int .i64 l.length)), (11, .ro (l.map Rep.row)), (3, .p 48 b3 0), (2, .p 32 b2 0)],
    [(48, .vars b3 38 [.v (.string d.name), .v (.int .i64 d.fr), .sl 130 H2 1 0 d.text.length, .sl 131 H3 3 0 d.list.length, .sl 132 H4 3 0 d.seen.length, .sl 5000 x.2 7 0 x.1]), (32, .vars b2 38 [.v (.string ⟨#[]⟩), .v (.int .i64 0), .nil, .nil, .nil, .nil]),
     (130, .rows H2 1 (d.text.map intR) true), (131, .rows H3 3 (d.list.map Entry.row) true), (132, .rows H4 3 (d.seen.map Seen.row) true), (5000, .rows x.2 7 ((l.take x.1).map Rep.row) true)]⟩) (fun x => l.length - x.1) (0, none) (by simp) (by simp) (fun x hi => Ent.refl ?_)
  obtain ⟨i, H⟩ := x
  simp only at hi ⊢
  by_cases hlt : i < l.length
  · have hm := nL_mem (f := nRep) (B := 2 ^ 30) (l := l) (by omega) (List.getElem_mem hlt)
    have e1 : min i l.length = i := by omega
    simp [hlt, Rep.row]
    intro b5
    refine DrawT.introS eok mix [0, 1, 2, 6] [3, 4, 5, 7] (.child 3 [false, true, false, false] [true, false, true, true] (.child 4 [false, false, false, false] [true, false, true, true] (.child 5 [false, false, true, false] [true, false, false, true] (.child 7 [true, false, false, true] [false, false, false, false] (.leaf [false, false, false, false]) .stop) .stop) .stop) .stop) (by kernel_rfl) ?_
    simp
    try intros
    refine ACall.pure (copyRep_c l[i] hm) (by simp [Rep.row]) ?_
    simp [Rep.res]
    try intros
    simp [e1]
    refine ⟨by omega, fun H' => Ent.refl ⟨i + 1, by omega, by omega, H', ?_⟩⟩
    simp
    exact ⟨i64_suc (by omega), take_snoc (f := Rep.row) hlt⟩
  · have hm : i = l.length := by omega
    subst hm
    simp [Net.res]
theorem l18Copy_c (n : Net) (hl : nNet n ≤ 2 ^ 30) : PureC Tryz.prog 140 [.agg n.row] (.one (.agg n.res)) := by
  refine PureC.intro' tt_ok Tryz.func140 (by kernel_rfl) rfl rfl rfl (Nat.le_of_ble_eq_true rfl) (fun w0 base => ?_)
  obtain ⟨d, l⟩ := n
  unfold nNet at hl
  simp only at hl
  have hle := nL_len (f := nRep) (B := 2 ^ 30) (l := l) (by omega)
  simp [Net.row]
  intro b1 b2
  refine ACall.pure (l08Copy_c d (by omega)) (by simp [Doc.row]) ?_
  simp [Doc.res]
  intro H2 H3 H4 b3
  refine LoopT.introG eok (fun x : Nat × Hd => x.1 ≤ l.length) (fun x => ⟨26, 0, [(13, .v (.int .i64 x.1)), (12, .v (.int .i64 l.length)), (11, .ro (l.map Rep.row)), (3, .p 48 b3 0), (2, .p 32 b2 0)],
    [(48, .vars b3 38 [.v (.string d.name), .v (.int .i64 d.fr), .sl 130 H2 1 0 d.text.length, .sl 131 H3 3 0 d.list.length, .sl 132 H4 3 0 d.seen.length, .sl 5000 x.2 7 0 x.1]), (32, .vars b2 38 [.v (.string ⟨#[]⟩), .v (.int .i64 0), .nil, .nil, .nil, .nil]),
     (130, .rows H2 1 (d.text.map intR) true), (131, .rows H3 3 (d.list.map Entry.row) true), (132, .rows H4 3 (d.seen.map Seen.row) true), (5000, .rows x.2 7 ((l.take x.1).map Rep.row) true)]⟩) (fun x => l.length - x.1) (0, none) (by simp) (by simp) (fun x hi => Ent.refl ?_)
  obtain ⟨i, H⟩ := x
  simp only at hi ⊢
  by_cases hlt : i < l.length
  · have hm := nL_mem (f := nRep) (B := 2 ^ 30) (l := l) (by omega) (List.getElem_mem hlt)
    have e1 : min i l.length = i := by omega
    simp [hlt, Rep.row]
    intro b5
    refine DrawT.introS eok mix [0, 1, 2, 6] [3, 4, 5, 7] (.child 3 [false, true, false, false] [true, false, true, true] (.child 4 [false, false, false, false] [true, false, true, true] (.child 5 [false, false, true, false] [true, false, false, true] (.child 7 [true, false, false, true] [false, false, false, false] (.leaf [false, false, false, false]) .stop) .stop) .stop) .stop) (by kernel_rfl) ?_
    simp
    try intros
    refine ACall.pure (l17Copy_c l[i] hm) (by simp [Rep.row]) ?_
    simp [Rep.res]
    try intros
    simp [e1]
    refine ⟨by omega, fun H' => Ent.refl ⟨i + 1, by omega, by omega, H', ?_⟩⟩
    simp
    exact ⟨i64_suc (by omega), take_snoc (f := Rep.row) hlt⟩
  · have hm : i = l.length := by omega
    subst hm
    simp [Net.res]
end Go.Proofs.YtdfdabjdfmamgaaGreat

namespace Go.Proofs.YtdfdabjdfmamgaaGreat
open Go.AM
set_option maxRecDepth 20000
set_option maxHeartbeats 3200000

theorem cut_takeE {l : List Entry} {k : Nat} (_h : k ≤ l.length) : cut (l.map Entry.row) 0 k = (l.take k).map Entry.row := by
  rw [cut_eq, List.drop_zero, ← List.map_take]
theorem fFetch_n {d : Doc} {rev : Int} {B : Nat} (h : nL nEntry d.list ≤ B) : nL nEntry (fFetch d rev).1 ≤ B := by
  unfold fFetch
  split
  · split
    · simp [nL, sumN]
    · split
      · simp [nL, sumN]
      · exact nL_drop h
  · simp [nL, sumN]
theorem take_min {α : Type} (l : List α) (m : Nat) : l.take (min m l.length) = l.take m := by
  rcases Nat.le_total m l.length with h | h
  · rw [Nat.min_eq_left h]
  · rw [Nat.min_eq_right h, List.take_of_length_le (Nat.le_refl _), List.take_of_length_le h]
theorem implPoll_c (n : Net) (hl : nNet n ≤ 2 ^ 30) (r : Rep) (hr : nRep r ≤ 2 ^ 28) (many : Int) : PureC Tryz.prog 154 [.agg n.row, .agg r.row, .c (vi many)] (.tup [.agg (pollRep n.d r many).1.res, .c (vi (pollRep n.d r many).2) 1]) := by
  refine PureC.intro' tt_ok Tryz.func154 (by kernel_rfl) rfl rfl rfl (Nat.le_of_ble_eq_true rfl) (fun w0 base => ?_)
  obtain ⟨d, l⟩ := n
  unfold nNet at hl
  simp only at hl
  simp [Net.row, Rep.row]
  intro b3 b4 b6
  by_cases c1 : many < 0
  · simp [c1, pollRep, Rep.res, Rep.zero]
  obtain ⟨m, rfl⟩ : ∃ m : Nat, many = m := ⟨many.toNat, by omega⟩
  have e : pollRep d r m = if (fFetch d r.rev).2 = 0 then (if (fRepAll r ((fFetch d r.rev).1.take m)).2 = true then ((fRepAll r ((fFetch d r.rev).1.take m)).1, 0) else (Rep.zero, 1)) else (Rep.zero, (fFetch d r.rev).2) := by
    unfold pollRep; rw [if_neg c1]; rfl
  simp
  refine ACall.pure (implFetch_c d (by omega) r.rev) (by simp [Doc.row]) ?_
  have hn := fFetch_n (rev := r.rev) (nDoc_list (d := d) (B := 2 ^ 30) (by omega)).1
  generalize fFetch d r.rev = R at e hn ⊢
  obtain ⟨L, code⟩ := R
  simp only at e hn ⊢
  simp
  intro H1
  by_cases c2 : code = 0
  rotate_left
  · rw [if_neg c2] at e
    simp [c2, e, Rep.res, Rep.zero]
  rw [if_pos c2] at e
  have hL := nL_len hn
  have hk : min m L.length ≤ L.length := Nat.min_le_right ..
  have hc := implRepAll_i r hr (L.take (min m L.length)) (by have := nL_take (k := min m L.length) hn; omega)
  rw [take_min] at hc
  have hcut := cut_takeE hk
  rw [take_min] at hcut
  generalize fRepAll r (L.take m) = Q at e hc
  obtain ⟨x_, ok⟩ := Q
  simp only at e hc
  simp [c2]
  refine DrawT.cutS (fun x : Hd × Hd × Hd × Nat => [(10, .p 160 x.2.2.2 0), (11, .v (.bool ok))]) (fun x => [(160, .vars x.2.2.2 130 [.v (.int .i64 x_.client), .v (.int .i64 x_.seq), .v (.int .i64 x_.rev), .sl 563 x.1 1 0 x_.text.length, .v (.bool x_.has), .sl 565 x.2.1 3 0 x_.sent.length, .sl 566 x.2.2.1 3 0 x_.buf.length]), (563, .rows x.1 1 (x_.text.map intR) true), (565, .rows x.2.1 3 (x_.sent.map Part.row) true), (566, .rows x.2.2.1 3 (x_.buf.map Part.row) true)]) [6] ?_ ?_
  · refine DrawT.introS eok mix [0, 1, 2, 3, 4, 5, 6] [7, 8, 9, 10, 11, 12, 13] (.child 7 [true, false, false, false, false, false, true] [false, true, true, true, true, true, false] (.child 8 [false, false, false, false, false, false, false] [false, true, true, true, true, true, false] (.child 9 [false, false, false, false, false, false, false] [false, true, true, true, true, true, false] (.child 10 [false, false, false, false, false, false, false] [false, true, true, true, true, true, false] (.child 11 [false, false, false, false, false, false, false] [false, true, true, true, true, true, false] (.child 12 [false, true, true, true, true, true, false] [false, false, false, false, false, false, false] (.child 13 [false, false, false, false, false, false, false] [false, false, false, false, false, false, false] (.leaf [false, false, false, false, false, false, false]) .stop) .stop) .stop) .stop) .stop) .stop) (.child 11 [false, false, false, false, false, false, false] [true, true, true, true, true, true, true] (.child 7 [true, false, false, false, false, false, true] [false, true, true, true, true, true, false] (.child 8 [false, false, false, false, false, false, false] [false, true, true, true, true, true, false] (.child 9 [false, false, false, false, false, false, false] [false, true, true, true, true, true, false] (.child 10 [false, false, false, false, false, false, false] [false, true, true, true, true, true, false] (.child 12 [false, true, true, true, true, true, false] [false, false, false, false, false, false, false] (.child 13 [false, false, false, false, false, false, false] [false, false, false, false, false, false, false] (.leaf [false, false, false, false, false, false, false]) .stop) .stop) .stop) .stop) .stop) .stop) .stop)) (by kernel_rfl) ?_
    simp [aMin_n, hk]
    try intros
    rw [Tr_child]
    refine ⟨?_, ?_⟩
    · skip
      simp [aMin_n]
      try intros
      refine ACall.pure (hc) (by simp [Rep.row, hcut, hk]) ?_
      simp [Rep.res]
      try intros
    · skip
      simp [aMin_n, hk]
      try intros
      refine ACall.pure (hc) (by simp [Rep.row, hcut, hk]) ?_
      simp [Rep.res]
      try intros
  rintro ⟨G3, G5, G6, b10⟩
  simp
  cases ok with
  | false => simp at e; simp [e, Rep.res, Rep.zero]
  | true => simp at e; simp [e, Rep.res]
end Go.Proofs.YtdfdabjdfmamgaaGreat

namespace Go.Proofs.YtdfdabjdfmamgaaGreat
open Go.AM
set_option maxRecDepth 20000
set_option maxHeartbeats 6400000
theorem headText_n {d : Doc} (h : docOk d) : (headText d).length ≤ 200 := by
  have h9 := (textAt_some h (rev := headRev d) (by have := docOk_head h; omega) (Int.le_refl _)).2.2.1.1
  unfold headText; exact h9
theorem rows7_set {l : List Rep} {i : Nat} {a b c d e f g : CD} : ∀ row ∈ (l.map Rep.row).set i [a, b, c, d, e, f, g], row.length = 7 := by
  intro row h
  rcases List.mem_or_eq_of_mem_set h with h | rfl
  · rw [List.mem_map] at h
    obtain ⟨a, -, rfl⟩ := h
    rfl
  · rfl
theorem fRepSend_cn {r : Rep} (h : nRep r ≤ 2 ^ 20) : nL nPart (fRepSend r).2.1.o ≤ 2 ^ 22 := by
  by_cases c : repOk r ∧ r.has = false ∧ ¬ idle r.buf ∧ r.seq ≠ 999999999
  · rw [fRepSend_yes c]
    unfold nRep at h
    show nL nPart r.buf ≤ _
    omega
  · rw [fRepSend_no c]; simp [Call.zero, nL, sumN]
theorem fRepResend_cn {r : Rep} (h : nRep r ≤ 2 ^ 20) : nL nPart (fRepResend r).1.o ≤ 2 ^ 22 := by
  unfold nRep at h
  unfold fRepResend
  split
  · show nL nPart r.sent ≤ _
    omega
  · simp [Call.zero, nL, sumN]
theorem implNetDo_i (n : Net) (hl : nNet n ≤ 2 ^ 28) (e : Event) (he : nEvent e ≤ 2 ^ 40) : PureC Tryz.prog 58 [.agg n.row, .agg e.row] (.tup [.agg (fNetDo n e).1.res, .c (vi (fNetDo n e).2) 1]) := by
  refine PureC.intro' tt_ok Tryz.func58 (by kernel_rfl) rfl rfl rfl (Nat.le_of_ble_eq_true rfl) (fun w0 base => ?_)
  obtain ⟨d, l⟩ := n
  obtain ⟨kind, who, many, o⟩ := e
  have hl0 := hl
  unfold nNet at hl
  unfold nEvent at he
  simp only at hl he
  have hle := nL_len (f := nRep) (B := 2 ^ 28) (l := l) (by omega)
  simp [Net.row, Event.row]
  intro b2 b3 b4
  refine ACall.pure (copyNet_c ⟨d, l⟩ (by omega)) (by simp [Net.row]) ?_
  simp [Net.res]
  intro H2 H3 H4 H5 b6
  refine ACall.pure (implNetOk_i ⟨d, l⟩ (by omega)) (by simp [Net.row]) ?_
  have hno : ¬ evOk ⟨d, l⟩ ⟨kind, who, many, o⟩ → fNetDo ⟨d, l⟩ ⟨kind, who, many, o⟩ = (⟨d, l⟩, 1) := fNetDo_no
  by_cases c1 : netOk ⟨d, l⟩
  rotate_left
  · have e := hno (fun h => c1 h.1)
    simp [dc_neg c1, e]
  have ew : Go.IntKind.i64.wrap ((l.length : Int) - 1) = (l.length : Int) - 1 := Go.IntWalk.i64_in _ (by omega)
  simp [c1, ew]
  refine ACall.pure (within_c who 0 ((l.length : Int) - 1)) (by simp) ?_
  by_cases c2 : 0 ≤ who ∧ who ≤ (l.length : Int) - 1
  rotate_left
  · have e := hno (fun h => c2 (by have := h.2.1; simp only at this; omega))
    simp [dc_neg c2, e]
  simp [c2]
  refine ACall.pure (within_c kind 1 6) (by simp) ?_
  by_cases c3 : 1 ≤ kind ∧ kind ≤ 6
  rotate_left
  · have e := hno (fun h => c3 h.2.2)
    simp [dc_neg c3, e]
  obtain ⟨i, rfl⟩ : ∃ i : Nat, who = i := ⟨who.toNat, by omega⟩
  have hi : i < l.length := by omega
  have e : fNetDo ⟨d, l⟩ ⟨kind, i, many, o⟩ = evDo ⟨d, l⟩ i l[i] ⟨kind, i, many, o⟩ := fNetDo_yes (e := ⟨kind, i, many, o⟩) ⟨c1, by simp only; omega, c3⟩ rfl hi
  have hm := repOk_n (c1.2.2 i hi).1
  have hdn := docOk_n c1.1
  have anew := anew_ok c1 hi
  simp only at hm anew
  simp [c3]
  refine ACall.pure (copyNet_c ⟨d, l⟩ (by omega)) (by simp [Net.row]) ?_
  simp [Net.res, hi]
  intro K2 K3 K4 K5 b7 b11
  unfold evDo at e
  simp only at e
  generalize hr : l[i] = r at e hm anew
  have hk : kind = 1 ∨ kind = 2 ∨ kind = 3 ∨ kind = 4 ∨ kind = 5 ∨ kind = 6 := by omega
  rcases hk with rfl | rfl | rfl | rfl | rfl | rfl
  · -- an edit
    have hc := implRepEdit_i r (by omega) o he
    generalize fRepEdit r o = R at e hc
    obtain ⟨x_, ok⟩ := R
    simp at e hc
    simp
    refine DrawT.introS eok mix [0, 1, 2, 3, 4, 5, 10] [6, 7, 8, 9, 11, 12] (.child 6 [false, true, false, true, false, false, false] [true, false, true, false, true, true, true] (.child 7 [false, false, false, false, false, false, false] [true, false, true, false, true, true, true] (.child 8 [false, false, false, false, false, false, false] [true, false, true, false, true, true, true] (.child 9 [false, false, false, false, false, false, false] [true, false, true, false, true, true, true] (.child 11 [true, false, true, false, true, true, true] [false, false, false, false, false, false, false] (.child 12 [false, false, false, false, false, false, false] [false, false, false, false, false, false, false] (.leaf [false, false, false, false, false, false, false]) .stop) .stop) .stop) .stop) .stop) .stop) (by kernel_rfl) ?_
    simp [hi, hr, Rep.row]
    try intros
    refine ACall.pure (hc) (by simp [Rep.row]) ?_
    simp [Rep.res, hi]
    try intros
    cases ok with
    | false => simp at e; simp [e]
    | true => simp at e; simp [e, setRep, Rep.row]; exact rows7_set
  · -- sent
    have hcn := fRepSend_cn hm
    have hc := implRepSend_i r hm
    generalize fRepSend r = R at e hc hcn
    obtain ⟨x_, c_, ok⟩ := R
    simp at e hc hcn
    simp [hi, hr, Rep.row]
    refine ACall.pure hc (by simp [Rep.row]) ?_
    simp [Rep.res, Call.res, hi]
    intros
    cases ok with
    | false => simp at e; simp [e]
    | true =>
    simp at e
    simp
    refine ACall.inline tt_ok Tryz.func152 (by kernel_rfl) rfl rfl rfl (Nat.le_of_ble_eq_true rfl) 20000 (fun w1 F => ?_)
    simp
    intros
    have hs := implSubmit_c d (by omega) c_.client c_.seq c_.n c_.o (by omega)
    unfold deliver at e
    generalize fSubmit d c_.client c_.seq c_.n c_.o = S at e hs
    obtain ⟨D, rev, code⟩ := S
    simp only at e hs
    refine DrawT.cutS (fun x : Hd × Hd × Hd × Nat => [(4, .p 20064 x.2.2.2 0), (5, .v (.int .i64 rev)), (6, .v (.int .i64 code))]) (fun x => [(20064, .vars x.2.2.2 35 [.v (.string D.name), .v (.int .i64 D.fr), .sl 20322 x.1 1 0 D.text.length, .sl 20323 x.2.1 3 0 D.list.length, .sl 20324 x.2.2.1 3 0 D.seen.length]), (20322, .rows x.1 1 (D.text.map intR) true), (20323, .rows x.2.1 3 (D.list.map Entry.row) true), (20324, .rows x.2.2.1 3 (D.seen.map Seen.row) true)]) [0, 3] ?_ ?_
    · refine DrawT.introS eok mix [0, 1, 2, 3, 4, 5, 6, 7, 8, 9, 10, 11] [12, 13, 14, 15, 16, 17, 18, 19, 20] (.child 12 [true, false, true, false, true, false, true, false, true, false, false, false] [false, true, false, true, false, true, false, true, false, true, true, true] (.child 13 [false, false, false, false, false, false, false, false, false, false, false, false] [false, true, false, true, false, true, false, true, false, true, true, true] (.child 14 [false, false, false, false, false, false, false, false, false, false, false, false] [false, true, false, true, false, true, false, true, false, true, true, true] (.child 15 [false, false, false, false, false, false, false, false, false, false, false, false] [false, true, false, true, false, true, false, true, false, true, true, true] (.child 16 [false, false, false, false, false, false, false, false, false, false, false, false] [false, true, false, true, false, true, false, true, false, true, true, true] (.child 17 [false, false, false, false, false, false, false, false, false, false, false, false] [false, true, false, true, false, true, false, true, false, true, true, true] (.child 18 [false, true, false, true, false, true, false, true, false, true, true, true] [false, false, false, false, false, false, false, false, false, false, false, false] (.child 19 [false, false, false, false, false, false, false, false, false, false, false, false] [false, false, false, false, false, false, false, false, false, false, false, false] (.child 20 [false, false, false, false, false, false, false, false, false, false, false, false] [false, false, false, false, false, false, false, false, false, false, false, false] (.leaf [false, false, false, false, false, false, false, false, false, false, false, false]) .stop) .stop) .stop) .stop) .stop) .stop) .stop) .stop) (.child 17 [false, false, false, false, false, false, false, false, false, false, false, false] [true, true, true, true, true, true, true, true, true, true, true, true] (.child 12 [true, false, true, false, true, false, true, false, true, false, false, false] [false, true, false, true, false, true, false, true, false, true, true, true] (.child 13 [false, false, false, false, false, false, false, false, false, false, false, false] [false, true, false, true, false, true, false, true, false, true, true, true] (.child 14 [false, false, false, false, false, false, false, false, false, false, false, false] [false, true, false, true, false, true, false, true, false, true, true, true] (.child 15 [false, false, false, false, false, false, false, false, false, false, false, false] [false, true, false, true, false, true, false, true, false, true, true, true] (.child 16 [false, false, false, false, false, false, false, false, false, false, false, false] [false, true, false, true, false, true, false, true, false, true, true, true] (.child 18 [false, true, false, true, false, true, false, true, false, true, true, true] [false, false, false, false, false, false, false, false, false, false, false, false] (.child 19 [false, false, false, false, false, false, false, false, false, false, false, false] [false, false, false, false, false, false, false, false, false, false, false, false] (.child 20 [false, false, false, false, false, false, false, false, false, false, false, false] [false, false, false, false, false, false, false, false, false, false, false, false] (.leaf [false, false, false, false, false, false, false, false, false, false, false, false]) .stop) .stop) .stop) .stop) .stop) .stop) .stop) .stop) .stop)) (by kernel_rfl) ?_
      simp
      try intros
      rw [Tr_child]
      refine ⟨?_, ?_⟩
      · skip
        simp
        try intros
        refine ACall.pure (hs) (by simp [Doc.row]) ?_
        simp [Doc.res]
        try intros
      · skip
        simp
        try intros
        refine ACall.pure (hs) (by simp [Doc.row]) ?_
        simp [Doc.res]
        try intros
    rintro ⟨G2, G3, G4, bd⟩
    simp
    by_cases hz : code = 0
    · rw [if_pos hz] at e
      simp [hz, e, Rep.row]
      exact rows7_set
    · rw [if_neg hz] at e
      simp [hz, e, Rep.row]
      exact rows7_set
  · -- lost
    have hc := implRepSend_i r hm
    generalize fRepSend r = R at e hc
    obtain ⟨x_, c_, ok⟩ := R
    simp at e hc
    simp [hi, hr, Rep.row]
    refine ACall.pure hc (by simp [Rep.row]) ?_
    simp [Rep.res, Call.res, hi]
    intros
    cases ok with
    | false => simp at e; simp [e]
    | true => simp at e; simp [e, setRep, Rep.row]; exact rows7_set
  · -- again
    have hcn := fRepResend_cn hm
    have hc := implRepResend_i r hm
    generalize fRepResend r = R at e hc hcn
    obtain ⟨c_, ok⟩ := R
    simp at e hc hcn
    simp [hi, hr, Rep.row]
    refine ACall.pure hc (by simp [Rep.row]) ?_
    simp [Call.res]
    intros
    cases ok with
    | false => simp at e; simp [e]
    | true =>
    simp at e
    simp
    refine ACall.inline tt_ok Tryz.func152 (by kernel_rfl) rfl rfl rfl (Nat.le_of_ble_eq_true rfl) 20000 (fun w1 F => ?_)
    simp
    intros
    have hs := implSubmit_c d (by omega) c_.client c_.seq c_.n c_.o (by omega)
    unfold deliver at e
    generalize fSubmit d c_.client c_.seq c_.n c_.o = S at e hs
    obtain ⟨D, rev, code⟩ := S
    simp only at e hs
    refine DrawT.cutS (fun x : Hd × Hd × Hd × Nat => [(4, .p 20064 x.2.2.2 0), (5, .v (.int .i64 rev)), (6, .v (.int .i64 code))]) (fun x => [(20064, .vars x.2.2.2 35 [.v (.string D.name), .v (.int .i64 D.fr), .sl 20322 x.1 1 0 D.text.length, .sl 20323 x.2.1 3 0 D.list.length, .sl 20324 x.2.2.1 3 0 D.seen.length]), (20322, .rows x.1 1 (D.text.map intR) true), (20323, .rows x.2.1 3 (D.list.map Entry.row) true), (20324, .rows x.2.2.1 3 (D.seen.map Seen.row) true)]) [0, 3] ?_ ?_
    · refine DrawT.introS eok mix [0, 1, 2, 3, 4, 5, 6, 7, 8, 9, 10, 11] [12, 13, 14, 15, 16, 17, 18, 19, 20] (.child 12 [true, false, true, false, true, false, true, false, true, false, false, false] [false, true, false, true, false, true, false, true, false, true, true, true] (.child 13 [false, false, false, false, false, false, false, false, false, false, false, false] [false, true, false, true, false, true, false, true, false, true, true, true] (.child 14 [false, false, false, false, false, false, false, false, false, false, false, false] [false, true, false, true, false, true, false, true, false, true, true, true] (.child 15 [false, false, false, false, false, false, false, false, false, false, false, false] [false, true, false, true, false, true, false, true, false, true, true, true] (.child 16 [false, false, false, false, false, false, false, false, false, false, false, false] [false, true, false, true, false, true, false, true, false, true, true, true] (.child 17 [false, false, false, false, false, false, false, false, false, false, false, false] [false, true, false, true, false, true, false, true, false, true, true, true] (.child 18 [false, true, false, true, false, true, false, true, false, true, true, true] [false, false, false, false, false, false, false, false, false, false, false, false] (.child 19 [false, false, false, false, false, false, false, false, false, false, false, false] [false, false, false, false, false, false, false, false, false, false, false, false] (.child 20 [false, false, false, false, false, false, false, false, false, false, false, false] [false, false, false, false, false, false, false, false, false, false, false, false] (.leaf [false, false, false, false, false, false, false, false, false, false, false, false]) .stop) .stop) .stop) .stop) .stop) .stop) .stop) .stop) (.child 17 [false, false, false, false, false, false, false, false, false, false, false, false] [true, true, true, true, true, true, true, true, true, true, true, true] (.child 12 [true, false, true, false, true, false, true, false, true, false, false, false] [false, true, false, true, false, true, false, true, false, true, true, true] (.child 13 [false, false, false, false, false, false, false, false, false, false, false, false] [false, true, false, true, false, true, false, true, false, true, true, true] (.child 14 [false, false, false, false, false, false, false, false, false, false, false, false] [false, true, false, true, false, true, false, true, false, true, true, true] (.child 15 [false, false, false, false, false, false, false, false, false, false, false, false] [false, true, false, true, false, true, false, true, false, true, true, true] (.child 16 [false, false, false, false, false, false, false, false, false, false, false, false] [false, true, false, true, false, true, false, true, false, true, true, true] (.child 18 [false, true, false, true, false, true, false, true, false, true, true, true] [false, false, false, false, false, false, false, false, false, false, false, false] (.child 19 [false, false, false, false, false, false, false, false, false, false, false, false] [false, false, false, false, false, false, false, false, false, false, false, false] (.child 20 [false, false, false, false, false, false, false, false, false, false, false, false] [false, false, false, false, false, false, false, false, false, false, false, false] (.leaf [false, false, false, false, false, false, false, false, false, false, false, false]) .stop) .stop) .stop) .stop) .stop) .stop) .stop) .stop) .stop)) (by kernel_rfl) ?_
      simp
      try intros
      rw [Tr_child]
      refine ⟨?_, ?_⟩
      · skip
        simp
        try intros
        refine ACall.pure (hs) (by simp [Doc.row]) ?_
        simp [Doc.res]
        try intros
      · skip
        simp
        try intros
        refine ACall.pure (hs) (by simp [Doc.row]) ?_
        simp [Doc.res]
        try intros
    rintro ⟨G2, G3, G4, bd⟩
    simp
    by_cases hz : code = 0
    · rw [if_pos hz] at e
      simp [hz, e]
    · rw [if_neg hz] at e
      simp [hz, e]
  · -- polled
    have hc := implPoll_c ⟨d, l⟩ (by omega) r (by omega) many
    simp only at hc
    generalize pollRep d r many = R at e hc
    obtain ⟨x_, code⟩ := R
    simp at e hc
    simp
    refine DrawT.introS eok mix [0, 1, 2, 3, 4, 5, 6, 7, 8, 9, 14] [10, 11, 12, 13, 15, 16] (.child 10 [false, true, false, true, false, false, false, false, false, true, false] [true, false, true, false, true, true, true, true, true, false, true] (.child 11 [false, false, false, false, false, false, false, false, false, false, false] [true, false, true, false, true, true, true, true, true, false, true] (.child 12 [false, false, false, false, false, false, false, false, false, false, false] [true, false, true, false, true, true, true, true, true, false, true] (.child 13 [false, false, false, false, false, false, false, false, false, false, false] [true, false, true, false, true, true, true, true, true, false, true] (.child 15 [true, false, true, false, true, true, true, true, true, false, true] [false, false, false, false, false, false, false, false, false, false, false] (.child 16 [false, false, false, false, false, false, false, false, false, false, false] [false, false, false, false, false, false, false, false, false, false, false] (.leaf [false, false, false, false, false, false, false, false, false, false, false]) .stop) .stop) .stop) .stop) .stop) .stop) (by kernel_rfl) ?_
    simp [hi, hr, Rep.row]
    try intros
    refine ACall.pure (hc) (by simp [Net.row, Rep.row]) ?_
    simp [Rep.res, hi]
    try intros
    by_cases hz : code = 0
    · rw [if_pos hz] at e; simp [hz, e, setRep, Rep.row]; exact rows7_set
    · rw [if_neg hz] at e; simp [hz, e]
  · -- anew
    have hsc := implSeenOf_c d (by omega) r.client
    have hx := implRepNew_i r.client (seenOf d r.client).1.seq (headRev d) (headText d) (by have := headText_n (d := d) c1.1; omega)
    unfold anewRep at e
    generalize fRepNew r.client (seenOf d r.client).1.seq (headRev d) (headText d) = R at e hx anew
    generalize seenOf d r.client = S at hsc hx
    obtain ⟨sn, there⟩ := S
    obtain ⟨x_, ok⟩ := R
    simp at e hx anew
    simp
    refine DrawT.cutS (fun x : Nat => [(12, .p 192 x 0), (13, .v (.bool there))]) (fun x => [(192, .vars x 186 [.v (.int .i64 sn.client), .v (.int .i64 sn.seq), .v (.int .i64 sn.rev)])]) [2, 3, 4, 5, 6, 7, 8, 9, 10, 11] ?_ ?_
    · refine DrawT.introS eok mix [0, 1, 2, 3, 4, 5] [6, 7, 8, 9, 10, 11, 12] (.child 6 [true, false, false, false, true, false] [false, true, true, true, false, true] (.child 7 [false, false, false, false, false, false] [false, true, true, true, false, true] (.child 8 [false, false, false, false, false, false] [false, true, true, true, false, true] (.child 9 [false, false, false, false, false, false] [false, true, true, true, false, true] (.child 10 [false, false, false, false, false, false] [false, true, true, true, false, true] (.child 11 [false, true, true, true, false, true] [false, false, false, false, false, false] (.child 12 [false, false, false, false, false, false] [false, false, false, false, false, false] (.leaf [false, false, false, false, false, false]) .stop) .stop) .stop) .stop) .stop) .stop) (.child 10 [false, false, false, false, false, false] [true, true, true, true, true, true] (.child 6 [true, false, false, false, true, false] [false, true, true, true, false, true] (.child 7 [false, false, false, false, false, false] [false, true, true, true, false, true] (.child 8 [false, false, false, false, false, false] [false, true, true, true, false, true] (.child 9 [false, false, false, false, false, false] [false, true, true, true, false, true] (.child 11 [false, true, true, true, false, true] [false, false, false, false, false, false] (.child 12 [false, false, false, false, false, false] [false, false, false, false, false, false] (.leaf [false, false, false, false, false, false]) .stop) .stop) .stop) .stop) .stop) .stop) .stop)) (by kernel_rfl) ?_
      simp [hi, hr, Rep.row]
      try intros
      rw [Tr_child]
      refine ⟨?_, ?_⟩
      · skip
        simp
        try intros
        refine ACall.pure (hsc) (by simp [Doc.row]) ?_
        simp [Seen.res]
        try intros
      · skip
        simp [hi, hr, Rep.row]
        try intros
        refine ACall.pure (hsc) (by simp [Doc.row]) ?_
        simp [Seen.res]
        try intros
    rintro bs
    simp
    refine DrawT.introS eok mix [0, 1, 2, 3, 4, 5, 6, 7, 8, 10, 11, 17] [9, 12, 13, 14, 15, 16, 18, 19] (.child 9 [false, false, false, true, false, false, false, false, false, false, false, false] [true, true, true, false, true, true, true, true, true, true, true, true] (.child 12 [false, true, false, false, false, false, false, false, false, false, false, false] [true, false, true, false, true, true, true, true, true, true, true, true] (.child 13 [false, false, false, false, false, true, false, true, false, false, false, false] [true, false, true, false, true, false, true, false, true, true, true, true] (.child 14 [false, false, false, false, false, false, false, false, false, false, false, false] [true, false, true, false, true, false, true, false, true, true, true, true] (.child 15 [false, false, false, false, false, false, false, false, false, false, false, false] [true, false, true, false, true, false, true, false, true, true, true, true] (.child 16 [false, false, false, false, false, false, false, false, false, false, false, false] [true, false, true, false, true, false, true, false, true, true, true, true] (.child 18 [true, false, true, false, true, false, true, false, true, true, true, true] [false, false, false, false, false, false, false, false, false, false, false, false] (.child 19 [false, false, false, false, false, false, false, false, false, false, false, false] [false, false, false, false, false, false, false, false, false, false, false, false] (.leaf [false, false, false, false, false, false, false, false, false, false, false, false]) .stop) .stop) .stop) .stop) .stop) .stop) .stop) .stop) (by kernel_rfl) ?_
    simp [hi, hr, Rep.row]
    try intros
    refine ACall.pure (implHeadRev_c d) (by simp [Doc.row]) ?_
    simp [hi, hr, Rep.row]
    try intros
    refine ACall.pure (implHeadText_c d (by omega)) (by simp [Doc.row]) ?_
    simp [hi, hr, Rep.row]
    try intros
    refine ACall.pure (hx) (by simp) ?_
    simp [Rep.res, hi]
    try intros
    simp [anew, e, setRep, Rep.row]
    exact rows7_set
end Go.Proofs.YtdfdabjdfmamgaaGreat

namespace Go.Proofs.YtdfdabjdfmamgaaGreat
open Go.AM
set_option maxRecDepth 20000
set_option maxHeartbeats 6400000
theorem specNetDo_i (n : Net) (hl : nNet n ≤ 2 ^ 28) (e : Event) (he : nEvent e ≤ 2 ^ 40) : PureC Tryz.prog 56 [.agg n.row, .agg e.row] (.tup [.agg (fNetDo n e).1.res, .c (vi (fNetDo n e).2) 1]) := by
  refine PureC.intro' tt_ok Tryz.func56 (by kernel_rfl) rfl rfl rfl (Nat.le_of_ble_eq_true rfl) (fun w0 base => ?_)
  obtain ⟨d, l⟩ := n
  obtain ⟨kind, who, many, o⟩ := e
  have hl0 := hl
  unfold nNet at hl
  unfold nEvent at he
  simp only at hl he
  have hle := nL_len (f := nRep) (B := 2 ^ 28) (l := l) (by omega)
  simp [Net.row, Event.row]
  intro b2 b3 b4
  refine ACall.pure (l18Copy_c ⟨d, l⟩ (by omega)) (by simp [Net.row]) ?_
  simp [Net.res]
  intro H2 H3 H4 H5 b6
  refine ACall.pure (specNetOk_i ⟨d, l⟩ (by omega)) (by simp [Net.row]) ?_
  have hno : ¬ evOk ⟨d, l⟩ ⟨kind, who, many, o⟩ → fNetDo ⟨d, l⟩ ⟨kind, who, many, o⟩ = (⟨d, l⟩, 1) := fNetDo_no
  by_cases c1 : netOk ⟨d, l⟩
  rotate_left
  · have e := hno (fun h => c1 h.1)
    simp [dc_neg c1, e]
  have ew : Go.IntKind.i64.wrap ((l.length : Int) - 1) = (l.length : Int) - 1 := Go.IntWalk.i64_in _ (by omega)
  simp [c1, ew]
  refine ACall.pure (l01In_c who 0 ((l.length : Int) - 1)) (by simp) ?_
  by_cases c2 : 0 ≤ who ∧ who ≤ (l.length : Int) - 1
  rotate_left
  · have e := hno (fun h => c2 (by have := h.2.1; simp only at this; omega))
    simp [dc_neg c2, e]
  obtain ⟨i, rfl⟩ : ∃ i : Nat, who = i := ⟨who.toNat, by omega⟩
  have hi : i < l.length := by omega
  have e : 1 ≤ kind ∧ kind ≤ 6 → fNetDo ⟨d, l⟩ ⟨kind, i, many, o⟩ = evDo ⟨d, l⟩ i l[i] ⟨kind, i, many, o⟩ := fun c3 => fNetDo_yes (e := ⟨kind, i, many, o⟩) ⟨c1, by simp only; omega, c3⟩ rfl hi
  have hm := repOk_n (c1.2.2 i hi).1
  have hdn := docOk_n c1.1
  have anew := anew_ok c1 hi
  unfold evDo at e
  simp only at hm anew e
  generalize hr : l[i] = r at e hm anew
  simp [c2, hi, hr, Rep.row]
  intro b7
  by_cases k1 : kind = 1
  · subst k1
    replace e := e (by omega)
    have hc := specRepEdit_i r (by omega) o he
    generalize fRepEdit r o = R at e hc
    obtain ⟨x_, ok⟩ := R
    simp at e hc
    simp
    refine ACall.pure hc (by simp [Rep.row]) ?_
    simp [Rep.res]
    intros
    cases ok with
    | false => simp at e; simp [e]
    | true => simp at e; simp [e, setRep, Rep.row, hi]; exact rows7_set
  by_cases k2 : kind = 2
  · subst k2
    replace e := e (by omega)
    have hcn := fRepSend_cn hm
    have hc := specRepSend_i r hm
    generalize fRepSend r = R at e hc hcn
    obtain ⟨x_, c_, ok⟩ := R
    simp at e hc hcn
    simp
    refine ACall.pure hc (by simp [Rep.row]) ?_
    simp [Rep.res, Call.res]
    intros
    cases ok with
    | false => simp at e; simp [e]
    | true =>
    simp at e
    simp [hi]
    refine ACall.inline tt_ok Tryz.func143 (by kernel_rfl) rfl rfl rfl (Nat.le_of_ble_eq_true rfl) 20000 (fun w1 F => ?_)
    simp
    intros
    have hs := specSubmit_c d (by omega) c_.client c_.seq c_.n c_.o (by omega)
    unfold deliver at e
    generalize fSubmit d c_.client c_.seq c_.n c_.o = S at e hs
    obtain ⟨D, rev, code⟩ := S
    simp only at e hs
    refine ACall.pure hs (by simp [Doc.row]) ?_
    simp [Doc.res]
    intros
    by_cases hz : code = 0
    · rw [if_pos hz] at e
      simp [hz, e, Rep.row]
      exact rows7_set
    · rw [if_neg hz] at e
      simp [hz, e, Rep.row]
      exact rows7_set
  by_cases k3 : kind = 3
  · subst k3
    replace e := e (by omega)
    have hc := specRepSend_i r hm
    generalize fRepSend r = R at e hc
    obtain ⟨x_, c_, ok⟩ := R
    simp at e hc
    simp
    refine ACall.pure hc (by simp [Rep.row]) ?_
    simp [Rep.res, Call.res]
    intros
    cases ok with
    | false => simp at e; simp [e]
    | true => simp at e; simp [e, setRep, Rep.row, hi]; exact rows7_set
  by_cases k4 : kind = 4
  · subst k4
    replace e := e (by omega)
    have hcn := fRepResend_cn hm
    have hc := specRepResend_i r hm
    generalize fRepResend r = R at e hc hcn
    obtain ⟨c_, ok⟩ := R
    simp at e hc hcn
    simp
    refine ACall.pure hc (by simp [Rep.row]) ?_
    simp [Call.res]
    intros
    cases ok with
    | false => simp at e; simp [e]
    | true =>
    simp at e
    simp
    refine ACall.inline tt_ok Tryz.func143 (by kernel_rfl) rfl rfl rfl (Nat.le_of_ble_eq_true rfl) 20000 (fun w1 F => ?_)
    simp
    intros
    have hs := specSubmit_c d (by omega) c_.client c_.seq c_.n c_.o (by omega)
    unfold deliver at e
    generalize fSubmit d c_.client c_.seq c_.n c_.o = S at e hs
    obtain ⟨D, rev, code⟩ := S
    simp only at e hs
    refine ACall.pure hs (by simp [Doc.row]) ?_
    simp [Doc.res]
    intros
    by_cases hz : code = 0
    · rw [if_pos hz] at e
      simp [hz, e]
    · rw [if_neg hz] at e
      simp [hz, e]
  by_cases k5 : kind = 5
  · subst k5
    replace e := e (by omega)
    simp
    refine ACall.inline tt_ok Tryz.func145 (by kernel_rfl) rfl rfl rfl (Nat.le_of_ble_eq_true rfl) 20000 (fun w1 F => ?_)
    simp
    intros
    have hf := specFetch_c d (by omega) r.rev
    have hn := fFetch_n (rev := r.rev) (nDoc_list (d := d) (B := 2 ^ 30) (by omega)).1
    unfold pollRep at e
    generalize fFetch d r.rev = R at e hf hn
    obtain ⟨L, code⟩ := R
    simp only at e hf hn
    refine DrawT.introS eok mix [0, 1, 2, 3, 4, 5, 6, 7] [8, 9, 10, 11, 12, 13] (.child 8 [true, false, false, false, false, false, true, false] [false, true, true, true, true, true, false, true] (.child 9 [false, false, false, false, false, false, false, false] [false, true, true, true, true, true, false, true] (.child 10 [false, false, false, false, false, false, false, false] [false, true, true, true, true, true, false, true] (.child 11 [false, false, false, false, false, false, false, false] [false, true, true, true, true, true, false, true] (.child 12 [false, true, true, true, true, true, false, true] [false, false, false, false, false, false, false, false] (.child 13 [false, false, false, false, false, false, false, false] [false, false, false, false, false, false, false, false] (.leaf [false, false, false, false, false, false, false, false]) .stop) .stop) .stop) .stop) .stop) .stop) (by kernel_rfl) ?_
    simp [hi, hr, Rep.row]
    try intros
    refine ACall.pure (hf) (by simp [Doc.row]) ?_
    simp
    try intros
    by_cases hng : many < 0
    · rw [if_pos hng] at e
      simp at e
      simp [hng, e]
    obtain ⟨m, rfl⟩ : ∃ m : Nat, many = m := ⟨many.toNat, by omega⟩
    rw [if_neg hng] at e
    by_cases hz : code = 0
    rotate_left
    · rw [if_neg hz] at e
      simp [hz] at e
      simp [hz, e]
    rw [if_pos hz] at e
    have hL := nL_len hn
    simp [hz]
    by_cases hgt : L.length < m
    · have hcut := cut_takeE (l := L) (k := L.length) (Nat.le_refl _)
      have hc := specRepAll_i r (by omega) (L.take L.length) (by have := nL_take (k := L.length) hn; omega)
      simp only [Int.toNat_natCast] at e
      rw [List.take_of_length_le (by omega)] at e
      rw [List.take_length] at hc hcut
      generalize fRepAll r L = Q at e hc
      obtain ⟨x_, ok⟩ := Q
      simp only at e hc
      have hle2 : L.length ≤ L.length := Nat.le_refl _
      simp [hgt]
      refine DrawT.introS eok mix [0, 1, 2, 3, 4, 5, 6, 7] [8, 9, 10, 11, 12, 13, 14] (.child 8 [true, false, false, true, false, false, false, false] [false, true, true, false, true, true, true, true] (.child 9 [false, false, false, false, false, false, false, false] [false, true, true, false, true, true, true, true] (.child 10 [false, false, false, false, false, false, false, false] [false, true, true, false, true, true, true, true] (.child 11 [false, false, false, false, false, false, false, false] [false, true, true, false, true, true, true, true] (.child 12 [false, false, false, false, false, false, false, false] [false, true, true, false, true, true, true, true] (.child 13 [false, true, true, false, true, true, true, true] [false, false, false, false, false, false, false, false] (.child 14 [false, false, false, false, false, false, false, false] [false, false, false, false, false, false, false, false] (.leaf [false, false, false, false, false, false, false, false]) .stop) .stop) .stop) .stop) .stop) .stop) (.child 12 [false, false, false, false, false, false, false, false] [true, true, true, true, true, true, true, true] (.child 8 [true, false, false, true, false, false, false, false] [false, true, true, false, true, true, true, true] (.child 9 [false, false, false, false, false, false, false, false] [false, true, true, false, true, true, true, true] (.child 10 [false, false, false, false, false, false, false, false] [false, true, true, false, true, true, true, true] (.child 11 [false, false, false, false, false, false, false, false] [false, true, true, false, true, true, true, true] (.child 13 [false, true, true, false, true, true, true, true] [false, false, false, false, false, false, false, false] (.child 14 [false, false, false, false, false, false, false, false] [false, false, false, false, false, false, false, false] (.leaf [false, false, false, false, false, false, false, false]) .stop) .stop) .stop) .stop) .stop) .stop) .stop)) (by kernel_rfl) ?_
      simp [hi, hr, Rep.row]
      try intros
      rw [Tr_child]
      refine ⟨?_, ?_⟩
      · skip
        simp [hi]
        try intros
        refine ACall.pure (hc) (by simp [hcut, Rep.row]) ?_
        simp [Rep.res]
        try intros
        cases ok with
        | false => simp at e; simp [e]
        | true => simp at e; simp [e, setRep, Rep.row, hi]; exact rows7_set
      · skip
        simp [hi, hr, Rep.row]
        try intros
        refine ACall.pure (hc) (by simp [hcut, Rep.row]) ?_
        simp [Rep.res]
        try intros
        cases ok with
        | false => simp at e; simp [e]
        | true => simp at e; simp [e, setRep, Rep.row, hi]; exact rows7_set
    · have hle2 : m ≤ L.length := by omega
      have hcut := cut_takeE (l := L) (k := m) hle2
      have hc := specRepAll_i r (by omega) (L.take m) (by have := nL_take (k := m) hn; omega)
      simp only [Int.toNat_natCast] at e
      generalize fRepAll r (L.take m) = Q at e hc
      obtain ⟨x_, ok⟩ := Q
      simp only at e hc
      simp [hgt]
      refine DrawT.introS eok mix [0, 1, 2, 3, 4, 5, 6, 7] [8, 9, 10, 11, 12, 13, 14] (.child 8 [true, false, false, true, false, false, false, false] [false, true, true, false, true, true, true, true] (.child 9 [false, false, false, false, false, false, false, false] [false, true, true, false, true, true, true, true] (.child 10 [false, false, false, false, false, false, false, false] [false, true, true, false, true, true, true, true] (.child 11 [false, false, false, false, false, false, false, false] [false, true, true, false, true, true, true, true] (.child 12 [false, false, false, false, false, false, false, false] [false, true, true, false, true, true, true, true] (.child 13 [false, true, true, false, true, true, true, true] [false, false, false, false, false, false, false, false] (.child 14 [false, false, false, false, false, false, false, false] [false, false, false, false, false, false, false, false] (.leaf [false, false, false, false, false, false, false, false]) .stop) .stop) .stop) .stop) .stop) .stop) (.child 12 [false, false, false, false, false, false, false, false] [true, true, true, true, true, true, true, true] (.child 8 [true, false, false, true, false, false, false, false] [false, true, true, false, true, true, true, true] (.child 9 [false, false, false, false, false, false, false, false] [false, true, true, false, true, true, true, true] (.child 10 [false, false, false, false, false, false, false, false] [false, true, true, false, true, true, true, true] (.child 11 [false, false, false, false, false, false, false, false] [false, true, true, false, true, true, true, true] (.child 13 [false, true, true, false, true, true, true, true] [false, false, false, false, false, false, false, false] (.child 14 [false, false, false, false, false, false, false, false] [false, false, false, false, false, false, false, false] (.leaf [false, false, false, false, false, false, false, false]) .stop) .stop) .stop) .stop) .stop) .stop) .stop)) (by kernel_rfl) ?_
      simp [hi, hr, Rep.row, hle2]
      try intros
      rw [Tr_child]
      refine ⟨?_, ?_⟩
      · skip
        simp [hi]
        try intros
        refine ACall.pure (hc) (by simp [hcut, Rep.row, hle2]) ?_
        simp [Rep.res]
        try intros
        cases ok with
        | false => simp at e; simp [e]
        | true => simp at e; simp [e, setRep, Rep.row, hi]; exact rows7_set
      · skip
        simp [hi, hr, Rep.row, hle2]
        try intros
        refine ACall.pure (hc) (by simp [hcut, Rep.row, hle2]) ?_
        simp [Rep.res]
        try intros
        cases ok with
        | false => simp at e; simp [e]
        | true => simp at e; simp [e, setRep, Rep.row, hi]; exact rows7_set
  by_cases k6 : kind = 6
  · subst k6
    replace e := e (by omega)
    have hsc := specSeenOf_c d (by omega) r.client
    have hx := specRepNew_i r.client (seenOf d r.client).1.seq (headRev d) (headText d) (by have := headText_n (d := d) c1.1; omega)
    unfold anewRep at e
    generalize fRepNew r.client (seenOf d r.client).1.seq (headRev d) (headText d) = R at e hx anew
    generalize seenOf d r.client = S at hsc hx
    obtain ⟨sn, there⟩ := S
    obtain ⟨x_, ok⟩ := R
    simp at e hx anew
    simp
    refine ACall.pure hsc (by simp [Doc.row]) ?_
    simp [Seen.res]
    intros
    refine DrawT.introS eok mix [0, 1, 2, 3, 4, 5, 6, 7, 8, 9, 11, 12, 18] [10, 13, 14, 15, 16, 17, 19] (.child 10 [false, false, false, true, false, false, false, false, false, false, false, false, false] [true, true, true, false, true, true, true, true, true, true, true, true, true] (.child 13 [false, true, false, false, false, false, false, false, false, false, false, false, false] [true, false, true, false, true, true, true, true, true, true, true, true, true] (.child 14 [false, false, false, false, false, true, false, true, false, false, false, false, false] [true, false, true, false, true, false, true, false, true, true, true, true, true] (.child 15 [false, false, false, false, false, false, false, false, false, false, false, false, false] [true, false, true, false, true, false, true, false, true, true, true, true, true] (.child 16 [false, false, false, false, false, false, false, false, false, false, false, false, false] [true, false, true, false, true, false, true, false, true, true, true, true, true] (.child 17 [false, false, false, false, false, false, false, false, false, false, false, false, false] [true, false, true, false, true, false, true, false, true, true, true, true, true] (.child 19 [true, false, true, false, true, false, true, false, true, true, true, true, true] [false, false, false, false, false, false, false, false, false, false, false, false, false] (.leaf [false, false, false, false, false, false, false, false, false, false, false, false, false]) .stop) .stop) .stop) .stop) .stop) .stop) .stop) (by kernel_rfl) ?_
    simp [hi]
    try intros
    refine ACall.pure (specHeadRev_c d) (by simp [Doc.row]) ?_
    simp
    try intros
    refine ACall.pure (specHeadText_c d (by omega)) (by simp [Doc.row]) ?_
    simp
    try intros
    refine ACall.pure (hx) (by simp) ?_
    simp [Rep.res, hi]
    try intros
    simp [e, setRep, Rep.row]
    exact rows7_set
  have e := hno (fun h => by have := h.2.2; simp only at this; omega)
  simp [k1, k2, k3, k4, k5, k6, e]
end Go.Proofs.YtdfdabjdfmamgaaGreat

namespace Go.Proofs.YtdfdabjdfmamgaaGreat
open Go.AM
set_option maxRecDepth 20000
set_option maxHeartbeats 6400000

theorem implNetAll_i (n : Net) (hl : nNet n ≤ 2 ^ 26) (l : List Event) (hx : nL nEvent l ≤ 2 ^ 36) : PureC Tryz.prog 68 [.agg n.row, .c (.s (l.map Event.row))] (.tup [.agg (fNetAll n l).1.res, .c (.s ((fNetAll n l).2.map intR)) 1]) := by
  refine PureC.intro' tt_ok Tryz.func68 (by kernel_rfl) rfl rfl rfl (Nat.le_of_ble_eq_true rfl) (fun w0 base => ?_)
  have hle := nL_len hx
  obtain ⟨d, reps⟩ := n
  simp [Net.row]
  intro b2 b4
  refine ACall.pure (copyNet_c ⟨d, reps⟩ (by omega)) (by simp [Net.row]) ?_
  simp [Net.res]
  intro H2 H3 H4 H5 b6
  refine LoopT.introG eok (fun x : (Nat × Nat) × Hd × Hd × Hd × Hd × Hd => (x.1.2 = 208 ∨ x.1.2 = 368) ∧ x.1.1 ≤ l.length) (fun x => ⟨34, 0, [(16, .v (.int .i64 x.1.1)), (15, .v (.int .i64 l.length)), (14, .ro (l.map Event.row)), (4, .p 64 b4 0), (6, .p 96 b6 0), (7, .sl 5000 x.2.2.2.2.2 1 0 x.1.1)],
    [(96, .vars b6 38 [.v (.string (netRun ⟨d, reps⟩ (l.take x.1.1)).1.d.name), .v (.int .i64 (netRun ⟨d, reps⟩ (l.take x.1.1)).1.d.fr), .sl (x.1.2 + 2) x.2.1 1 0 (netRun ⟨d, reps⟩ (l.take x.1.1)).1.d.text.length, .sl (x.1.2 + 3) x.2.2.1 3 0 (netRun ⟨d, reps⟩ (l.take x.1.1)).1.d.list.length, .sl (x.1.2 + 4) x.2.2.2.1 3 0 (netRun ⟨d, reps⟩ (l.take x.1.1)).1.d.seen.length, .sl (x.1.2 + 5) x.2.2.2.2.1 7 0 (netRun ⟨d, reps⟩ (l.take x.1.1)).1.reps.length]),
     (64, .vars b4 38 [.v (.string ⟨#[]⟩), .v (.int .i64 0), .nil, .nil, .nil, .nil]),
     (x.1.2 + 2, .rows x.2.1 1 ((netRun ⟨d, reps⟩ (l.take x.1.1)).1.d.text.map intR) true), (x.1.2 + 3, .rows x.2.2.1 3 ((netRun ⟨d, reps⟩ (l.take x.1.1)).1.d.list.map Entry.row) true), (x.1.2 + 4, .rows x.2.2.2.1 3 ((netRun ⟨d, reps⟩ (l.take x.1.1)).1.d.seen.map Seen.row) true), (x.1.2 + 5, .rows x.2.2.2.2.1 7 ((netRun ⟨d, reps⟩ (l.take x.1.1)).1.reps.map Rep.row) true),
     (5000, .rows x.2.2.2.2.2 1 ((netRun ⟨d, reps⟩ (l.take x.1.1)).2.map intR) true)]⟩) (fun x => l.length - x.1.1) ((0, 208), H2, H3, H4, H5, none) (by simp) (by simp [netRun]) (fun x hx => Ent.refl ?_)
  obtain ⟨⟨i, k⟩, G2, G3, G4, G5, G⟩ := x
  obtain ⟨hk, hi⟩ := hx
  simp only at hk hi ⊢
  have hr := netRun_n (n := ⟨d, reps⟩) (l := l) (B := 2 ^ 26) (by omega) hl i hi
  by_cases hlt : i < l.length
  · have hm := nL_at (f := nEvent) hx hlt
    have hs := netRun_suc (n := ⟨d, reps⟩) hlt
    generalize netRun ⟨d, reps⟩ (l.take i) = R at hr hs ⊢
    obtain ⟨⟨⟨nm, fr, tx, ls, sn⟩, rp⟩, cs⟩ := R
    obtain ⟨hr, hc⟩ := hr
    simp only at hr hc hs
    have hcl : cs.length ≤ 2 ^ 40 := by omega
    have hdo := implNetDo_i ⟨⟨nm, fr, tx, ls, sn⟩, rp⟩ (by omega) l[i] (by omega)
    generalize fNetDo ⟨⟨nm, fr, tx, ls, sn⟩, rp⟩ l[i] = S at hs hdo
    obtain ⟨⟨D, Q⟩, code⟩ := S
    simp only at hs hdo
    subst hc
    rcases hk with rfl | rfl
    all_goals
      simp [hlt, Event.row]
      intro b9
      refine ACall.pure hdo (by simp [Net.row, Event.row]) ?_
      simp [Net.res]
      intro K2 K3 K4 K5 b10
      refine fun b => ⟨by omega, fun K => Ent.refl ⟨cs.length + 1, 368, ⟨.inr rfl, by omega⟩, by omega, K2, K3, K4, K5, K, ?_⟩⟩
      rw [hs]
      simp
      exact i64_suc (by omega)
  · have : i = l.length := by omega
    subst this
    rw [List.take_length] at hr ⊢
    rcases hk with rfl | rfl
    all_goals
      simp [fNetAll, hr]
theorem specNetAll_i (n : Net) (hl : nNet n ≤ 2 ^ 26) (l : List Event) (hx : nL nEvent l ≤ 2 ^ 36) : PureC Tryz.prog 66 [.agg n.row, .c (.s (l.map Event.row))] (.tup [.agg (fNetAll n l).1.res, .c (.s ((fNetAll n l).2.map intR)) 1]) := by
  refine PureC.intro' tt_ok Tryz.func66 (by kernel_rfl) rfl rfl rfl (Nat.le_of_ble_eq_true rfl) (fun w0 base => ?_)
  have hle := nL_len hx
  obtain ⟨d, reps⟩ := n
  simp [Net.row]
  intro b2 b4
  refine ACall.pure (l18Copy_c ⟨d, reps⟩ (by omega)) (by simp [Net.row]) ?_
  simp [Net.res]
  intro H2 H3 H4 H5 b6 bz
  refine LoopT.introG eok (fun x : (Nat × Nat) × Hd × Hd × Hd × Hd × Hd => (x.1.2 = 208 ∨ x.1.2 = 384) ∧ x.1.1 ≤ l.length) (fun x => ⟨35, 0, [(17, .v (.int .i64 x.1.1)), (16, .v (.int .i64 l.length)), (15, .ro (l.map Event.row)), (4, .p 64 b4 0), (6, .p 96 b6 0), (7, .sl 224 x.2.2.2.2.2 1 0 x.1.1)],
    [(96, .vars b6 38 [.v (.string (netRun ⟨d, reps⟩ (l.take x.1.1)).1.d.name), .v (.int .i64 (netRun ⟨d, reps⟩ (l.take x.1.1)).1.d.fr), .sl (x.1.2 + 2) x.2.1 1 0 (netRun ⟨d, reps⟩ (l.take x.1.1)).1.d.text.length, .sl (x.1.2 + 3) x.2.2.1 3 0 (netRun ⟨d, reps⟩ (l.take x.1.1)).1.d.list.length, .sl (x.1.2 + 4) x.2.2.2.1 3 0 (netRun ⟨d, reps⟩ (l.take x.1.1)).1.d.seen.length, .sl (x.1.2 + 5) x.2.2.2.2.1 7 0 (netRun ⟨d, reps⟩ (l.take x.1.1)).1.reps.length]),
     (64, .vars b4 38 [.v (.string ⟨#[]⟩), .v (.int .i64 0), .nil, .nil, .nil, .nil]),
     (x.1.2 + 2, .rows x.2.1 1 ((netRun ⟨d, reps⟩ (l.take x.1.1)).1.d.text.map intR) true), (x.1.2 + 3, .rows x.2.2.1 3 ((netRun ⟨d, reps⟩ (l.take x.1.1)).1.d.list.map Entry.row) true), (x.1.2 + 4, .rows x.2.2.2.1 3 ((netRun ⟨d, reps⟩ (l.take x.1.1)).1.d.seen.map Seen.row) true), (x.1.2 + 5, .rows x.2.2.2.2.1 7 ((netRun ⟨d, reps⟩ (l.take x.1.1)).1.reps.map Rep.row) true),
     (224, .rows x.2.2.2.2.2 1 ((netRun ⟨d, reps⟩ (l.take x.1.1)).2.map intR) true)]⟩) (fun x => l.length - x.1.1) ((0, 208), H2, H3, H4, H5, some (bz, 0, 0)) (by simp) (by simp [netRun]) (fun x hx => Ent.refl ?_)
  obtain ⟨⟨i, k⟩, G2, G3, G4, G5, G⟩ := x
  obtain ⟨hk, hi⟩ := hx
  simp only at hk hi ⊢
  have hr := netRun_n (n := ⟨d, reps⟩) (l := l) (B := 2 ^ 26) (by omega) hl i hi
  by_cases hlt : i < l.length
  · have hm := nL_at (f := nEvent) hx hlt
    have hs := netRun_suc (n := ⟨d, reps⟩) hlt
    generalize netRun ⟨d, reps⟩ (l.take i) = R at hr hs ⊢
    obtain ⟨⟨⟨nm, fr, tx, ls, sn⟩, rp⟩, cs⟩ := R
    obtain ⟨hr, hc⟩ := hr
    simp only at hr hc hs
    have hcl : cs.length ≤ 2 ^ 40 := by omega
    have hdo := specNetDo_i ⟨⟨nm, fr, tx, ls, sn⟩, rp⟩ (by omega) l[i] (by omega)
    generalize fNetDo ⟨⟨nm, fr, tx, ls, sn⟩, rp⟩ l[i] = S at hs hdo
    obtain ⟨⟨D, Q⟩, code⟩ := S
    simp only at hs hdo
    subst hc
    rcases hk with rfl | rfl
    all_goals
      simp [hlt, Event.row]
      intro b9
      refine ACall.pure hdo (by simp [Net.row, Event.row]) ?_
      simp [Net.res]
      intro K2 K3 K4 K5 b10
      refine fun b => ⟨by omega, fun K => Ent.refl ⟨cs.length + 1, 384, ⟨.inr rfl, by omega⟩, by omega, K2, K3, K4, K5, K, ?_⟩⟩
      rw [hs]
      simp
      exact i64_suc (by omega)
  · have : i = l.length := by omega
    subst this
    rw [List.take_length] at hr ⊢
    rcases hk with rfl | rfl
    all_goals
      simp [fNetAll, hr]
theorem implNetAll_c (n : Net) (_ : n.fits) (h : nNet n ≤ 2 ^ 20) (l : List Event) (_ : l.length ≤ 9223372036854775807 ∧ ∀ y ∈ l, y.fits) (hx : nL nEvent l ≤ 2 ^ 20) : PureC Tryz.prog 68 [.agg n.row, .c (.s (l.map Event.row))] (.tup [.agg (fNetAll n l).1.res, .c (.s ((fNetAll n l).2.map intR)) 1]) := implNetAll_i n (by omega) l (by omega)
theorem specNetAll_c (n : Net) (_ : n.fits) (h : nNet n ≤ 2 ^ 20) (l : List Event) (_ : l.length ≤ 9223372036854775807 ∧ ∀ y ∈ l, y.fits) (hx : nL nEvent l ≤ 2 ^ 20) : PureC Tryz.prog 66 [.agg n.row, .c (.s (l.map Event.row))] (.tup [.agg (fNetAll n l).1.res, .c (.s ((fNetAll n l).2.map intR)) 1]) := specNetAll_i n (by omega) l (by omega)
end Go.Proofs.YtdfdabjdfmamgaaGreat

