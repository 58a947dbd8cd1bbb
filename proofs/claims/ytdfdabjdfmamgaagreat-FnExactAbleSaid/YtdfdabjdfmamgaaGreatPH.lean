import Derived.Test.YtdfdabjdfmamgaaGreatPG
import Derived.Test.YtdfdabjdfmamgaaGreatPF
namespace Go.Proofs.YtdfdabjdfmamgaaGreat
open Go.AM
set_option maxRecDepth 20000
set_option maxHeartbeats 6400000
theorem hub_n {h : Hub} {B : Nat} (hl : nHub h ≤ B) : nL nDoc h.docs ≤ B ∧ nL nSub h.subs ≤ B := by unfold nHub at hl; omega
theorem mod_sub {l : List Sub} {k : Nat} (hk : k < l.length) (r : Ring) : (l.map Sub.row).modify k (fun row => putL row 2 [.v (.int .i64 r.cap), .v (.int .i64 r.next), .v (.bool r.out), .s (r.list.map Entry.row)]) = (l.set k ⟨l[k].id, l[k].doc, r⟩).map Sub.row := by
  rw [List.map_set]; refine List.ext_getElem (by simp) (fun j h1 h2 => ?_); rw [List.getElem_modify, List.getElem_set]
  split
  · rename_i e
    subst e; simp [Sub.row]
  · simp
theorem specHubSub_c (h : Hub) (hl : nHub h ≤ 2 ^ 40) (id : Int) : PureC Tryz.prog 357 [.agg h.row, .c (vi id)] (.one (.c (vi (subIdx h.subs id)) 1)) := by
  refine PureC.intro' tt_ok Tryz.func357 (by kernel_rfl) rfl rfl rfl (Nat.le_of_ble_eq_true rfl) (fun w0 base => ?_); obtain ⟨sh, docs, l, last⟩ := h; have hle := nL_len (hub_n hl).2; simp only at hle; simp [Hub.row]; intro b2; refine LoopT.intro eok (fun i : Nat => i ≤ l.length ∧ ∀ j, j < i → ∀ hj : j < l.length, ¬ l[j].id = id) (fun i => ⟨21, 0, [(10, .v (.int .i64 i)), (9, .v (.int .i64 l.length)), (8, .ro (l.map Sub.row)), (1, .v (.int .i64 id))], []⟩) (fun i => l.length - i) 0 (by simp) (by simp) (fun i hi => ?_); by_cases hlt : i < l.length
  · simp [hlt, Sub.row]
    intro b; by_cases c : l[i].id = id
    · have e : subIdx l id = i := fIdx_at hlt c hi.2
      simp [c, e]
    · simp [c]
      exact ⟨i + 1, ⟨by omega, fun j hj hjl => by
        by_cases hji : j = i
        · subst hji; exact c
        · exact hi.2 j (by omega) hjl⟩, by omega, i64_suc (by omega)⟩
  · have e : subIdx l id = -1 := fIdx_none (fun j hj => hi.2 j (by omega) hj)
    simp [hlt, e]
theorem specHubShut_c (h : Hub) (hl : nHub h ≤ 2 ^ 30) : PureC Tryz.prog 351 [.agg h.row] (.tup [.agg (fHubShut h).1.res, .c (vi (fHubShut h).2) 1]) := by
  refine PureC.intro' tt_ok Tryz.func351 (by kernel_rfl) rfl rfl rfl (Nat.le_of_ble_eq_true rfl) (fun w0 base => ?_); simp [Hub.row]; intro b1 b2; refine ACall.pure (specHubOk_c h hl) (by simp [Hub.row]) ?_; by_cases c1 : hubOk h
  rotate_left
  · simp [dc_neg c1, fHubShut_no c1, Hub.res, Hub.zero]
  simp [c1]
  cases c2 : h.shut with
  | true => simp [fHubShut_shut c1 c2, Hub.res, Hub.zero]
  | false =>
  have e := fHubShut_yes c1 (by rw [c2]; simp); simp; refine ACall.pure (l11Copy_c h hl) (by simp [Hub.row, c2]) ?_; simp [Hub.res, e]
theorem specHubSubscribe_c (h : Hub) (hl : nHub h ≤ 2 ^ 28) (name : ByteArray) (room : Int) : PureC Tryz.prog 348 [.agg h.row, .c (.v (.string name)), .c (vi room)]
    (.tup [.agg (fHubSubscribe h name room).1.res, .c (vi (fHubSubscribe h name room).2.1) 1, .c (vi (fHubSubscribe h name room).2.2) 1]) := by
  refine PureC.intro' tt_ok Tryz.func348 (by kernel_rfl) rfl rfl rfl (Nat.le_of_ble_eq_true rfl) (fun w0 base => ?_); have hls := nL_len (hub_n hl).2; simp [Hub.row]; intro b3 b6; refine ACall.pure (specHubDoc_c h (by omega) name) (by simp [Hub.row]) ?_; simp; refine ACall.pure (specHubOk_c h (by omega)) (by simp [Hub.row]) ?_; by_cases c1 : hubOk h
  rotate_left
  · simp [dc_neg c1, fHubSubscribe_no (fun h => c1 h.1), Hub.res, Hub.zero]
  simp [c1]; refine ACall.pure (l01In_c room 1 6) (by simp) ?_; by_cases c2 : 1 ≤ room ∧ room ≤ 6
  rotate_left
  · simp [dc_neg c2, fHubSubscribe_no (fun h => c2 h.2), Hub.res, Hub.zero]
  simp [c2]
  cases c3 : h.shut with
  | true => simp [fHubSubscribe_shut ⟨c1, c2⟩ c3, Hub.res, Hub.zero]
  | false =>
  simp; rcases docIdx_cases h.docs name with ⟨k, hk, e, -⟩ | e; rotate_left
  · simp [e, fHubSubscribe_none ⟨c1, c2⟩ (by rw [c3]; simp) e, Hub.res, Hub.zero]
  have hk0 : ¬ (k : Int) < 0 := by omega
  have hat := fHubSubscribe_at ⟨c1, c2⟩ (by rw [c3]; simp) hk e; simp [e, hk0]; have hlast := c1.2.2.1; by_cases c4 : h.subs.length = 6
  · have c4' : (h.subs.length : Int) = 6 := by omega
    rw [if_pos (.inl c4)] at hat; simp [c4', hat, Hub.res, Hub.zero]
  have c4' : ¬ (h.subs.length : Int) = 6 := by omega
  simp [c4']; by_cases c5 : h.last = 1000000000
  · rw [if_pos (.inr c5)] at hat
    simp [c5, hat, Hub.res, Hub.zero]
  rw [if_neg (fun h => h.elim c4 c5)] at hat; have ew : Go.IntKind.i64.wrap (h.last + 1) = h.last + 1 := Go.IntWalk.i64_in _ (by omega); have hh := docOk_head (hub_doc c1 hk); obtain ⟨d, hd⟩ : ∃ d, h.docs[k] = d := ⟨_, rfl⟩; rw [hd] at hat hh; simp [c5, hk, hd, Doc.row]; refine ACall.pure (specHeadRev_c d) (by simp [Doc.row]) ?_; simp; have hc := specRingNew_c room (headRev d) (by omega); generalize fRingNew room (headRev d) = R at hc hat; obtain ⟨⟨cp, nx, ot, ls⟩, ok⟩ := R; refine ACall.pure hc (by simp) ?_; simp [Ring.res]; intro H10 b10; refine ACall.pure (l11Copy_c h (by omega)) (by simp [Hub.row, c3]) ?_; simp [Hub.res, ew, c3]; intro H1 H2 b12 b13; refine ⟨by omega, fun H => ?_⟩; refine DrawT.introS eok mix [0, 1, 2, 4, 5] [3] (.child 3 [false, false, false, false, true] [true, true, true, true, false] (.leaf [true, true, true, true, false]) .stop) (by kernel_rfl) ?_; simp
  try intros
  rw [hat]; simp [c3, Sub.row]
  try (rintro row (⟨a, -, rfl⟩ | rfl) <;> rfl)
theorem specHubPoll_c (h : Hub) (hl : nHub h ≤ 2 ^ 28) (id n : Int) : PureC Tryz.prog 349 [.agg h.row, .c (vi id), .c (vi n)]
    (.tup [.agg (fHubPoll h id n).1.res, .c (.s ((fHubPoll h id n).2.1.map Entry.row)) 3, .c (vi (fHubPoll h id n).2.2) 1]) := by
  refine PureC.intro' tt_ok Tryz.func349 (by kernel_rfl) rfl rfl rfl (Nat.le_of_ble_eq_true rfl) (fun w0 base => ?_); have hls := nL_len (hub_n hl).2; simp [Hub.row]; intro b3 b6; refine ACall.pure (specHubSub_c h (by omega) id) (by simp [Hub.row]) ?_; simp; refine ACall.pure (specHubOk_c h (by omega)) (by simp [Hub.row]) ?_; by_cases c1 : hubOk h
  rotate_left
  · simp [dc_neg c1, fHubPoll_no (fun h => c1 h.1), Hub.res, Hub.zero]
  simp [c1]; by_cases c2 : 1 ≤ n
  rotate_left
  · have c2' : n < 1 := by omega
    simp [c2', fHubPoll_no (fun h => c2 h.2), Hub.res, Hub.zero]
  have c2' : ¬ n < 1 := by omega
  simp [c2']; rcases subIdx_cases h.subs id with ⟨k, hk, e, -⟩ | e; rotate_left
  · simp [e, fHubPoll_none ⟨c1, c2⟩ e, Hub.res, Hub.zero]
  have hk0 : ¬ (k : Int) < 0 := by omega
  have hat := fHubPoll_at ⟨c1, c2⟩ hk e; have hm := nL_at (f := nSub) (hub_n hl).2 hk; unfold nSub at hm; have hmod := mod_sub hk; obtain ⟨s, hs⟩ : ∃ s, h.subs[k] = s := ⟨_, rfl⟩; rw [hs] at hat hm hmod; have hc := specRingPoll_c s.r (by omega) n; generalize fRingPoll s.r n = R at hc hat; obtain ⟨r, list, code⟩ := R; simp only at hat hc; simp [e, hk0, hk, hs, Sub.row]; refine ACall.pure hc (by simp [Ring.row]) ?_; simp [Ring.res]; intro H10 H11 b10; by_cases c3 : code = 0
  rotate_left
  · rw [if_neg c3] at hat
    simp [c3, hat, Hub.res, Hub.zero]
  rw [if_pos c3] at hat; simp [c3]; refine ACall.pure (l11Copy_c h (by omega)) (by simp [Hub.row]) ?_; simp [Hub.res, hk]
  try intros
  rw [hat]; simp [hmod r]; exact rows6_set
theorem specHubResync_c (h : Hub) (hl : nHub h ≤ 2 ^ 28) (id : Int) : PureC Tryz.prog 350 [.agg h.row, .c (vi id)]
    (.tup [.agg (fHubResync h id).1.res, .c (.s ((fHubResync h id).2.1.map intR)) 1, .c (vi (fHubResync h id).2.2.1) 1, .c (vi (fHubResync h id).2.2.2) 1]) := by
  refine PureC.intro' tt_ok Tryz.func350 (by kernel_rfl) rfl rfl rfl (Nat.le_of_ble_eq_true rfl) (fun w0 base => ?_); have hls := nL_len (hub_n hl).2; simp [Hub.row]; intro b2 b4; refine ACall.pure (specHubSub_c h (by omega) id) (by simp [Hub.row]) ?_; simp; refine ACall.pure (specHubOk_c h (by omega)) (by simp [Hub.row]) ?_; by_cases c1 : hubOk h
  rotate_left
  · simp [dc_neg c1, fHubResync_no c1, Hub.res, Hub.zero]
  simp [c1]; rcases subIdx_cases h.subs id with ⟨k, hk, e, -⟩ | e; rotate_left
  · simp [e, fHubResync_none c1 e, Hub.res, Hub.zero]
  have hk0 : ¬ (k : Int) < 0 := by omega
  obtain ⟨hro, j, hj, ej⟩ := hub_sub c1 hk; have hat := fHubResync_at c1 hk e hj ej; have hm := nL_at (f := nSub) (hub_n hl).2 hk; have hdn := nL_at (f := nDoc) (hub_n hl).1 hj; have hh := docOk_head (hub_doc c1 hj); unfold nSub at hm; have hmod := mod_sub hk; obtain ⟨s, hs⟩ : ∃ s, h.subs[k] = s := ⟨_, rfl⟩; obtain ⟨d, hd⟩ : ∃ d, h.docs[j] = d := ⟨_, rfl⟩; rw [hs] at hat hm hmod ej; rw [hd] at hat hdn hh; have hc := specRingResync_c s.r (by omega) (headRev d) (by omega); generalize fRingResync s.r (headRev d) = R at hc hat; obtain ⟨r, ok⟩ := R; simp only at hat hc; simp [e, hk0]; refine DrawT.cutS (fun x : Nat => [(9, .p 144 x 0)]) (fun x => [(144, .vars x 35 [.v (.string d.name), .v (.int .i64 d.fr), .ro (d.text.map intR), .ro (d.list.map Entry.row), .ro (d.seen.map Seen.row)])]) [1, 2, 4, 5, 6, 7, 8] ?_ ?_
  · refine DrawT.introS eok mix [0, 1, 2, 3, 4, 5, 6, 7, 8] [9, 10, 11, 12, 13] (.child 9 [true, false, false, false, false, false, true, false, false] [false, true, true, true, true, true, false, true, true] (.child 10 [false, false, false, false, false, false, false, true, false] [false, true, true, true, true, true, false, false, true] (.child 11 [false, false, false, false, false, false, false, false, false] [false, true, true, true, true, true, false, false, true] (.child 12 [false, false, false, false, false, false, false, false, false] [false, true, true, true, true, true, false, false, true] (.child 13 [false, true, true, true, true, true, false, false, true] [false, false, false, false, false, false, false, false, false] (.leaf [false, false, false, false, false, false, false, false, false]) .stop) .stop) (.child 12 [false, false, false, false, false, false, false, false, false] [false, true, true, true, true, true, false, false, true] (.child 11 [false, false, false, false, false, false, false, false, false] [false, true, true, true, true, true, false, false, true] (.child 13 [false, true, true, true, true, true, false, false, true] [false, false, false, false, false, false, false, false, false] (.leaf [false, false, false, false, false, false, false, false, false]) .stop) .stop) .stop)) (.child 12 [false, false, false, false, false, false, false, false, false] [false, true, true, true, true, true, false, true, true] (.child 10 [false, false, false, false, false, false, false, true, false] [false, true, true, true, true, true, false, false, true] (.child 11 [false, false, false, false, false, false, false, false, false] [false, true, true, true, true, true, false, false, true] (.child 13 [false, true, true, true, true, true, false, false, true] [false, false, false, false, false, false, false, false, false] (.leaf [false, false, false, false, false, false, false, false, false]) .stop) .stop) .stop) .stop)) (.child 12 [false, false, false, false, false, false, false, false, false] [true, true, true, true, true, true, true, true, true] (.child 9 [true, false, false, false, false, false, true, false, false] [false, true, true, true, true, true, false, true, true] (.child 10 [false, false, false, false, false, false, false, true, false] [false, true, true, true, true, true, false, false, true] (.child 11 [false, false, false, false, false, false, false, false, false] [false, true, true, true, true, true, false, false, true] (.child 13 [false, true, true, true, true, true, false, false, true] [false, false, false, false, false, false, false, false, false] (.leaf [false, false, false, false, false, false, false, false, false]) .stop) .stop) .stop) .stop) .stop)) (by kernel_rfl) ?_
    simp [hk, hs, Sub.row]
    try intros
    rw [Tr_child]; refine ⟨?_, ?_⟩
    · skip
      simp [hk, hs, Sub.row]
      try intros
      refine ACall.pure (specHubDoc_c h (by omega) s.doc) (by simp [Hub.row]) ?_; simp [ej]
      try intros
      rw [Tr_child]; refine ⟨?_, ?_⟩
      · skip
        simp [hk, hs, hj, hd, Sub.row, Doc.row]
        try intros
        rw [Tr_child]; refine ⟨?_, ?_⟩
        · skip
          simp [hk, hs, Sub.row]
          try intros
        · skip
          simp [hk, hs, Sub.row]
          try intros
      · skip
        simp [hk, hs, hj, hd, Sub.row, Doc.row]
        try intros
    · skip
      simp [hk, hs, Sub.row]
      try intros
      refine ACall.pure (specHubDoc_c h (by omega) s.doc) (by simp [Hub.row]) ?_; simp [hj, hd, Doc.row, ej]
      try intros
  rintro b9
  simp; refine ACall.pure (l11Copy_c h (by omega)) (by simp [Hub.row]) ?_; simp [Hub.res]; intro H1 H2 b10
  refine DrawT.introS eok mix [0, 1, 2, 3, 4, 5, 6, 7, 8, 9, 15, 16] [10, 11, 12, 13, 14, 17] (.child 10 [false, false, true, false, false, false, false, false, false, false, false, false] [true, true, false, true, true, true, true, true, true, true, true, true] (.child 11 [false, false, false, true, false, false, false, false, false, false, false, false] [true, true, false, false, true, true, true, true, true, true, true, true] (.child 12 [false, false, false, false, false, false, false, false, false, false, false, false] [true, true, false, false, true, true, true, true, true, true, true, true] (.child 13 [false, false, false, false, false, false, false, false, false, false, false, false] [true, true, false, false, true, true, true, true, true, true, true, true] (.child 14 [false, false, false, false, false, false, false, false, false, false, false, false] [true, true, false, false, true, true, true, true, true, true, true, true] (.child 17 [true, false, false, false, true, true, true, true, true, true, true, true] [false, true, false, false, false, false, false, false, false, false, false, false] (.leaf [false, true, false, false, false, false, false, false, false, false, false, false]) .stop) .stop) .stop) .stop) .stop) .stop) (by kernel_rfl) ?_
  simp [hk, hs, Sub.row]
  try intros
  refine ACall.pure (specHeadRev_c d) (by simp [Doc.row]) ?_; simp
  try intros
  refine ACall.pure (hc) (by simp [Ring.row]) ?_; simp [Ring.res, hk]
  try intros
  refine DrawT.introS eok mix [0, 1, 3, 8] [2, 4, 5, 6, 7] (.child 2 [false, false, true, false] [true, true, false, true] (.child 4 [false, true, false, false] [true, false, false, true] (.child 5 [false, false, false, true] [true, false, false, false] (.child 6 [false, false, false, false] [true, false, false, false] (.child 7 [false, false, false, false] [true, false, false, false] (.leaf [true, false, false, false]) .stop) .stop) .stop) .stop) .stop) (by kernel_rfl) ?_; simp
  try intros
  refine ACall.pure (specHeadText_c d (by omega)) (by simp [Doc.row]) ?_; simp
  try intros
  refine ACall.pure (specHeadRev_c d) (by simp [Doc.row]) ?_; simp
  try intros
  rw [hat]; simp [hmod r]; exact rows6_set
theorem specRead_c (h : Hub) (hl : nHub h ≤ 2 ^ 28) (_c1 : hubOk h) (c : Call) : PureC Tryz.prog 347 [.agg h.row, .agg c.row] (.one (.agg (fLook h c).res)) := by
  refine PureC.intro' tt_ok Tryz.func347 (by kernel_rfl) rfl rfl rfl (Nat.le_of_ble_eq_true rfl) (fun w0 base => ?_); simp [Hub.row, Call.row]; intro b2 b3 b4; refine ACall.pure (specHubDoc_c h (by omega) c.doc) (by simp [Hub.row]) ?_; simp
  cases c3 : h.shut with
  | true => simp [fLook_shut c3, Answer.res, codeA]
  | false =>
  simp; rcases docIdx_cases h.docs c.doc with ⟨k, hk, e, -⟩ | e; rotate_left
  · simp [e, fLook_none (by rw [c3]; simp) e, Answer.res, codeA]
  have hk0 : ¬ (k : Int) < 0 := by omega
  have hat := fLook_at (c := c) (by rw [c3]; simp) hk e; have hdn := nL_at (f := nDoc) (hub_n hl).1 hk; obtain ⟨d, hd⟩ : ∃ d, h.docs[k] = d := ⟨_, rfl⟩; rw [hd] at hat hdn; simp [e, hk0]; by_cases c4 : c.kind = 4
  · rw [if_pos c4] at hat
    simp [c4]; refine DrawT.introS eok mix [0, 1, 2, 3, 4, 6, 7, 8, 9, 10] [5, 11, 12, 13] (.child 5 [false, false, false, false, false, true, false, false, false, false] [true, true, true, true, true, false, true, true, true, true] (.child 11 [true, false, false, false, false, false, false, false, false, false] [false, true, true, true, true, false, true, true, true, true] (.child 12 [false, false, false, false, false, false, false, false, false, false] [false, true, true, true, true, false, true, true, true, true] (.child 13 [false, true, true, true, true, false, true, true, true, true] [false, false, false, false, false, false, false, false, false, false] (.leaf [false, false, false, false, false, false, false, false, false, false]) .stop) .stop) .stop) .stop) (by kernel_rfl) ?_; simp [hk, hd, Doc.row]
    try intros
    refine ACall.pure (specHeadText_c d (by omega)) (by simp [Doc.row, Doc.row]) ?_; simp
    try intros
    refine ACall.pure (specHeadRev_c d) (by simp [Doc.row, Doc.row]) ?_; simp
    try intros
    rw [hat]; simp [Answer.res]
  rw [if_neg c4] at hat; have hf := specFetch_c d (by omega) c.n; generalize fFetch d c.n = R at hat hf; obtain ⟨list, code⟩ := R; simp only at hat hf; simp [c4]
  refine DrawT.introS eok mix [0, 1, 2, 3, 4, 5, 6] [7, 8, 9, 10, 11, 12] (.child 7 [true, false, true, false, false, false, false] [false, true, false, true, true, true, true] (.child 8 [false, false, false, false, false, false, false] [false, true, false, true, true, true, true] (.child 9 [false, false, false, false, false, false, false] [false, true, false, true, true, true, true] (.child 10 [false, false, false, false, false, false, false] [false, true, false, true, true, true, true] (.child 11 [false, true, false, true, true, true, true] [false, false, false, false, false, false, false] (.child 12 [false, false, false, false, false, false, false] [false, false, false, false, false, false, false] (.leaf [false, false, false, false, false, false, false]) .stop) .stop) .stop) .stop) .stop) .stop) (by kernel_rfl) ?_; simp [hk, hd, Doc.row]
  try intros
  refine ACall.pure (hf) (by simp [Doc.row, Doc.row]) ?_; simp
  try intros
  rw [hat]; simp [Answer.res]
end Go.Proofs.YtdfdabjdfmamgaaGreat

namespace Go.Proofs.YtdfdabjdfmamgaaGreat
open Go.AM
set_option maxRecDepth 20000
set_option maxHeartbeats 6400000
theorem len5 {l : List Doc} {row : List CD} (h : row ∈ l.map Doc.row) : row.length = 5 := by
  rw [List.mem_map] at h; obtain ⟨a, -, rfl⟩ := h; rfl
theorem cut_takeD {l : List Doc} {k : Nat} : cut (l.map Doc.row) 0 k = (l.take k).map Doc.row := by rw [cut_eq, List.drop_zero, List.map_take]
theorem cut_dropD {l : List Doc} {k : Nat} : cut (l.map Doc.row) k (l.length - k) = (l.drop k).map Doc.row := by
  rw [cut_eq, List.map_drop, List.take_of_length_le (by simp)]
theorem docPush_head {d : Doc} (h : docOk d) (e : Entry) : headRev (docPush d e) = headRev d + 1 ∧ (docPush d e).list.getLast? = some e := by
  obtain ⟨h1, h2, h3, h4⟩ := docOk_head h; unfold docPush
  split
  · refine ⟨?_, by simp⟩
    unfold headRev; simp only [List.length_append, List.length_cons, List.length_nil]; rw [Go.IntWalk.i64_in _ (by omega), Go.IntWalk.i64_in _ (by omega)]; omega
  · refine ⟨?_, ?_⟩
    · unfold headRev
      simp only [List.length_append, List.length_cons, List.length_nil, List.length_drop]; rw [Go.IntWalk.i64_in _ (by omega), Go.IntWalk.i64_in _ (by omega)]; omega
    · have hl : d.list.length = 8 := by omega
      rw [List.getLast?_drop]; rw [if_neg (by rw [List.length_append, List.length_singleton]; omega)]; simp
theorem fSubmit_ok {d : Doc} {client seq base : Int} {o : List Part} (h : docOk d) (hc : (fSubmit d client seq base o).2.2 = 0) :
    (fSubmit d client seq base o).1 = d ∨ ∃ e, headRev (fSubmit d client seq base o).1 = headRev d + 1 ∧ (fSubmit d client seq base o).1.list.getLast? = some e := by
  by_cases hs : subOk d client seq o
  rotate_left
  · rw [fSubmit_no hs] at hc; simp at hc
  rw [fSubmit_yes hs] at hc ⊢
  split
  · exact .inl rfl
  · rename_i h1
    rw [if_neg h1] at hc
    split
    · rename_i h2
      rw [if_pos h2] at hc
      split
      · rename_i h3
        rw [if_pos h3] at hc
        split
        · rename_i h4; rw [if_pos h4] at hc; simp at hc
        · exact .inr ⟨_, docPush_head h _⟩
      · rename_i h3; rw [if_neg h3] at hc; exact absurd hc h3
    · rename_i h2; rw [if_neg h2] at hc; simp at hc
noncomputable def toldTo (name : ByteArray) (e : Entry) (l : List Sub) (i : Nat) : List Sub := (l.take i).map (tellSub name e) ++ l.drop i
theorem toldTo_zero (name : ByteArray) (e : Entry) (l : List Sub) : toldTo name e l 0 = l := by simp [toldTo]
theorem toldTo_all (name : ByteArray) (e : Entry) (l : List Sub) : toldTo name e l l.length = l.map (tellSub name e) := by simp [toldTo]
theorem toldTo_len (name : ByteArray) (e : Entry) (l : List Sub) (i : Nat) : (toldTo name e l i).length = l.length := by simp [toldTo]; omega
theorem toldTo_at {name : ByteArray} {e : Entry} {l : List Sub} {i : Nat} (h : i < l.length) : (toldTo name e l i)[i]'(by rw [toldTo_len]; exact h) = l[i] := by
  unfold toldTo; rw [List.getElem_append_right (by simp; omega)]; simp [Nat.min_eq_left (Nat.le_of_lt h)]
theorem toldTo_suc {name : ByteArray} {e : Entry} {l : List Sub} {i : Nat} (h : i < l.length) : (toldTo name e l i).set i (tellSub name e l[i]) = toldTo name e l (i + 1) := by
  unfold toldTo; rw [List.set_append_right _ _ (by simp; omega), List.drop_eq_getElem_cons h]; simp only [List.length_map, List.length_take, Nat.min_eq_left (Nat.le_of_lt h), Nat.sub_self, List.set_cons_zero]; rw [← List.take_append_getElem h, List.map_append]; simp
theorem toldTo_skip {name : ByteArray} {e : Entry} {l : List Sub} {i : Nat} (h : i < l.length) (hn : ¬ l[i].doc = name) : toldTo name e l i = toldTo name e l (i + 1) := by
  rw [← toldTo_suc h]; have : tellSub name e l[i] = l[i] := by unfold tellSub; rw [if_neg hn]
  rw [this]; refine List.ext_getElem (by simp) (fun j h1 h2 => ?_); rw [List.getElem_set]
  split
  · rename_i ej; subst ej; exact toldTo_at h
  · rfl
theorem specHubOpen_c (h : Hub) (hl : nHub h ≤ 2 ^ 28) (name : ByteArray) (hs : name.size ≤ 2 ^ 28) (t : List Int) (ht : t.length ≤ 2 ^ 28) : PureC Tryz.prog 345 [.agg h.row, .c (.v (.string name)), .c (.s (t.map intR))]
    (.tup [.agg (fHubOpen h name t).1.res, .c (vi (fHubOpen h name t).2) 1]) := by
  refine PureC.intro' tt_ok Tryz.func345 (by kernel_rfl) rfl rfl rfl (Nat.le_of_ble_eq_true rfl) (fun w0 base => ?_); have hld := nL_len (hub_n hl).1; have hdn := specDocNew_c name t hs ht; unfold fDocNew at hdn; simp [Hub.row]; intro b3 b6; by_cases c0 : docOk (doc0 name t)
  rotate_left
  · rw [if_neg c0] at hdn
    refine ACall.pure hdn (by simp) ?_; simp [Doc.res, Doc.zero]; intros; refine ACall.pure (specHubOk_c h (by omega)) (by simp [Hub.row]) ?_; by_cases c1 : hubOk h
    · simp [c1, fHubOpen_no (fun h => c0 h.2), Hub.res, Hub.zero]
    · simp [dc_neg c1, fHubOpen_no (fun h => c0 h.2), Hub.res, Hub.zero]
  rw [if_pos c0] at hdn; refine ACall.pure hdn (by simp) ?_; simp [Doc.res, doc0]; intro H1 H2 H3 b8; refine ACall.pure (specHubOk_c h (by omega)) (by simp [Hub.row]) ?_; by_cases c1 : hubOk h
  rotate_left
  · simp [dc_neg c1, fHubOpen_no (fun h => c1 h.1), Hub.res, Hub.zero]
  simp [c1]
  cases c2 : h.shut with
  | true => simp [fHubOpen_shut ⟨c1, c0⟩ c2, Hub.res, Hub.zero]
  | false =>
  have c2' : ¬ h.shut = true := by rw [c2]; simp
  simp; refine ACall.pure (specHubDoc_c h (by omega) name) (by simp [Hub.row, c2]) ?_; simp; by_cases c3 : 0 ≤ docIdx h.docs name
  · simp [c3, fHubOpen_have ⟨c1, c0⟩ c2' c3, Hub.res, Hub.zero]
  simp [c3]; by_cases c4 : h.docs.length = 5
  · have c4' : (h.docs.length : Int) = 5 := by omega
    simp [c4', fHubOpen_full ⟨c1, c0⟩ c2' c3 c4, Hub.res, Hub.zero]
  have c4' : ¬ (h.docs.length : Int) = 5 := by omega
  have hat := fHubOpen_yes ⟨c1, c0⟩ c2' c3 c4; rw [docPut_eq] at hat; have hal := docAhead_le (doc0 name t).name h.docs; have hon := fun {k : Nat} h1 h2 => docAhead_at (name := (doc0 name t).name) (l := h.docs) (k := k) h1 h2
  rw [show (doc0 name t).name = name from rfl] at hat hal hon; generalize docAhead name h.docs = a at hat hal hon; simp [c4']; refine ACall.pure (l11Copy_c h (by omega)) (by simp [Hub.row, c2]) ?_; simp [Hub.res, c2]; intro K1 K2 b10
  refine LoopT.introG eok (fun k : Nat => k ≤ a) (fun k => ⟨81, 0, [(11, .v (.int .i64 k)), (1, .v (.string name)), (6, .p 96 b6 0), (8, .p 128 b8 0), (10, .p 160 b10 0)],
    [(160, .vars b10 45 [.v (.bool false), .sl 721 K1 5 0 h.docs.length, .sl 722 K2 6 0 h.subs.length, .v (.int .i64 h.last)]), (96, .vars b6 45 [.v (.bool false), .nil, .nil, .v (.int .i64 0)]),
     (128, .vars b8 35 [.v (.string name), .v (.int .i64 0), .sl 258 H1 1 0 t.length, .sl 259 H2 3 0 0, .sl 260 H3 3 0 0]),
     (258, .rows H1 1 (t.map intR) true), (259, .rows H2 3 [] true), (260, .rows H3 3 [] true),
     (721, .rows K1 5 (h.docs.map Doc.row) true), (722, .rows K2 6 (h.subs.map Sub.row) true)]⟩) (fun k => h.docs.length - k) 0 (by simp) (by simp) (fun k hk => Ent.refl ?_)
  by_cases hlt : k < h.docs.length
  · obtain ⟨x, hx⟩ : ∃ x, h.docs[k] = x := ⟨_, rfl⟩
    have hiff := hon hk hlt; rw [hx] at hiff; simp [hlt, hx, Doc.row]; by_cases s : sLt x.name name
    · simp [s]
      exact Ent.refl ⟨k + 1, by have := hiff.1 s; omega, by omega, by simp; exact i64_suc (by omega)⟩
    have hka : k = a := by
      have : ¬ k < a := fun h => s (hiff.2 h)
      omega
    subst hka; have hm : min k h.docs.length = k := by omega
    simp [dc_neg s, cut_takeD, cut_dropD, hat, c2, hm, doc0]; refine ⟨by omega, by omega, by omega, by omega, by omega, by omega, by omega, ?_, ?_⟩
    · rintro row (h | rfl | h)
      · exact len5 (List.mem_of_mem_take h)
      · rfl
      · exact len5 (List.mem_of_mem_drop h)
    · rw [cut_len (by simp [hm]; omega)]
      rfl
  have hka : k = h.docs.length := by omega
  have hka2 : a = h.docs.length := by omega
  subst hka2; have hm : min k h.docs.length = k := by omega
  subst hka; have hz : cut (h.docs.map Doc.row) h.docs.length 0 = [] := by rw [cut_eq]; simp
  simp [hat, c2, doc0, hz]; refine ⟨by omega, by omega, ?_, ?_⟩
  · rintro row (⟨a, -, rfl⟩ | rfl) <;> rfl
  · rfl
theorem specHubSubmit_c (h : Hub) (hl : nHub h ≤ 2 ^ 28) (name : ByteArray) (client seq base : Int) (o : List Part) (ho : nL nPart o ≤ 2 ^ 40) :
    PureC Tryz.prog 346 [.agg h.row, .c (.v (.string name)), .c (vi client), .c (vi seq), .c (vi base), .c (.s (o.map Part.row))]
    (.tup [.agg (fHubSubmit h name client seq base o).1.res, .c (vi (fHubSubmit h name client seq base o).2.1) 1, .c (vi (fHubSubmit h name client seq base o).2.2) 1]) := by
  refine PureC.intro' tt_ok Tryz.func346 (by kernel_rfl) rfl rfl rfl (Nat.le_of_ble_eq_true rfl) (fun w0 bs => ?_); have hls := nL_len (hub_n hl).2; simp [Hub.row]; intro b6 b12; refine ACall.pure (specHubDoc_c h (by omega) name) (by simp [Hub.row]) ?_; simp; refine ACall.pure (specHubOk_c h (by omega)) (by simp [Hub.row]) ?_; by_cases c1 : hubOk h
  rotate_left
  · simp [dc_neg c1, fHubSubmit_no c1, Hub.res, Hub.zero]
  simp [c1]
  cases c2 : h.shut with
  | true => simp [fHubSubmit_shut c1 c2, Hub.res, Hub.zero]
  | false =>
  have c2' : ¬ h.shut = true := by rw [c2]; simp
  simp; rcases docIdx_cases h.docs name with ⟨k, hk, e, -⟩ | e; rotate_left
  · simp [e, fHubSubmit_none c1 c2' e, Hub.res, Hub.zero]
  have hk0 : ¬ (k : Int) < 0 := by omega
  have hat := fHubSubmit_at (client := client) (seq := seq) (base := base) (o := o) c1 c2' hk e; have hdn := nL_at (f := nDoc) (hub_n hl).1 hk; have hdo := hub_doc c1 hk; have hDn := fSubmit_n (client := client) (seq := seq) (base := base) (o := o) hdo; have hok := fSubmit_ok (client := client) (seq := seq) (base := base) (o := o) hdo; obtain ⟨d, hd⟩ : ∃ d, h.docs[k] = d := ⟨_, rfl⟩; rw [hd] at hat hdn hDn hok; have hc := specSubmit_c d hdn client seq base o ho; generalize fSubmit d client seq base o = S at hc hat hDn hok; obtain ⟨D, rev, code⟩ := S; simp only at hc hat hDn hok; simp [e, hk0, hk, hd, Doc.row]; refine ACall.pure hc (by simp [Doc.row]) ?_; simp [Doc.res]; intro H1 H2 H3 b16; by_cases c3 : code = 0
  rotate_left
  · rw [if_neg c3] at hat
    simp [c3, hat, Hub.res, Hub.zero]
  rw [if_pos c3] at hat; have hok := hok c3; simp [c3]; refine ACall.pure (l11Copy_c h (by omega)) (by simp [Hub.row, c2]) ?_; simp [Hub.res, c2, hk]; intro K1 K2 b19; refine DrawT.introS eok mix [0, 2, 3, 4, 5, 6] [1, 7, 8] (.child 1 [false, false, false, false, false, true] [true, true, true, true, true, false] (.child 7 [true, false, false, false, false, false] [false, true, true, true, true, false] (.child 8 [false, false, false, false, false, false] [false, true, true, true, true, false] (.leaf [false, true, true, true, true, false]) .stop) .stop) .stop) (by kernel_rfl) ?_; simp [hk, hd, Doc.row]
  try intros
  refine ACall.pure (specHeadRev_c D) (by simp [Doc.row, Doc.row]) ?_; simp
  try intros
  refine ACall.pure (specHeadRev_c d) (by simp [Doc.row, Doc.row]) ?_; simp
  try intros
  by_cases c5 : headRev D = headRev d
  · have hcm : hubCommit h name k d D = ⟨h.shut, h.docs.set k D, h.subs, h.last⟩ := by unfold hubCommit; rw [if_neg (by omega)]
    rw [hcm] at hat; simp [c5, hat, c2]; exact ⟨rows5_set, rfl⟩
  rcases hok with rfl | ⟨e, he1, he2⟩
  · exact absurd rfl c5
  have hcm : hubCommit h name k d D = ⟨h.shut, h.docs.set k D, h.subs.map (tellSub name e), h.last⟩ := by unfold hubCommit; rw [if_pos (by omega), he2]
  rw [hcm] at hat; have hmem : e ∈ D.list := List.mem_of_getLast? he2; have hpos : 0 < D.list.length := List.length_pos_of_mem hmem; obtain ⟨m, hm⟩ : ∃ m, D.list.length = m + 1 := ⟨D.list.length - 1, by omega⟩; have hml : m < D.list.length := by omega
  have hme : D.list[m] = e := by
    rw [List.getLast?_eq_getElem?, hm, Nat.add_sub_cancel, List.getElem?_eq_getElem hml] at he2; exact Option.some.inj he2
  have hDl : nL nEntry D.list ≤ 2 ^ 24 := by unfold nDoc at hDn; omega
  have hen := nL_mem (f := nEntry) hDl hmem; have hlen24 := nL_len hDl; have ew : Go.IntKind.i64.wrap ((D.list.length : Int) - 1) = (m : Int) := by rw [Go.IntWalk.i64_in _ (by omega)]; omega
  have em : Go.IntKind.i64.wrap (m : Int) = m := i64_nat (by omega); simp [c5, hm, em, hme, Entry.row]; refine ⟨by omega, fun b20 => ?_⟩
  refine LoopT.introG eok (fun i : Nat => i ≤ h.subs.length) (fun i => ⟨107, 0, [(86, .v (.int .i64 i)), (85, .v (.int .i64 h.subs.length)), (84, .sl 930 K2 6 0 h.subs.length), (19, .p 304 b19 0), (20, .p 320 b20 0), (17, .v (.int .i64 rev)), (1, .v (.string name)), (12, .p 192 b12 0)],
    [(304, .vars b19 45 [.v (.bool false), .sl 929 K1 5 0 h.docs.length, .sl 930 K2 6 0 h.subs.length, .v (.int .i64 h.last)]), (192, .vars b12 45 [.v (.bool false), .nil, .nil, .v (.int .i64 0)]),
     (320, .vars b20 282 [.v (.int .i64 e.client), .v (.int .i64 e.seq), .ro (e.o.map Part.row)]),
     (929, .rows K1 5 ((h.docs.set k D).map Doc.row) true), (930, .rows K2 6 ((toldTo name e h.subs i).map Sub.row) true)]⟩) (fun i => h.subs.length - i) 0 (by simp) (by simp [toldTo_zero]; rfl) (fun i hi => Ent.refl ?_)
  have htl := toldTo_len name e h.subs i; by_cases hlt : i < h.subs.length
  · have hti := toldTo_at (name := name) (e := e) hlt
    have hlt' : i < (toldTo name e h.subs i).length := by omega
    have hsk := toldTo_skip (name := name) (e := e) hlt; have hsu := toldTo_suc (name := name) (e := e) hlt; have hmd := mod_sub hlt' (fRingPush h.subs[i].r e); have hmn := nL_at (f := nSub) (hub_n hl).2 hlt; unfold nSub at hmn; rw [hti] at hmd; obtain ⟨s, hs⟩ : ∃ s, h.subs[i] = s := ⟨_, rfl⟩; rw [hs] at hti hsk hsu hmd hmn; simp [hlt, htl, hti, Sub.row]; intro b22; by_cases c6 : s.doc = name
    rotate_left
    · simp [c6]
      refine Ent.refl ⟨i + 1, by omega, by omega, ?_⟩; rw [← hsk c6]; simp; exact i64_suc (by omega)
    have htell : tellSub name e s = ⟨s.id, s.doc, fRingPush s.r e⟩ := by unfold tellSub; rw [if_pos c6]
    rw [htell] at hsu; rw [hsu] at hmd; have hpc := specRingPush_c s.r (by omega) e (by omega); generalize fRingPush s.r e = R at hpc hmd; simp [c6]; refine DrawT.introS eok mix [0, 1, 2, 3, 4, 5, 7, 8] [6, 9] (.child 6 [false, false, true, true, false, false, false, false] [true, true, false, false, true, true, true, true] (.child 9 [true, false, false, false, true, true, true, true] [false, true, false, false, false, false, false, false] (.leaf [false, true, false, false, false, false, false, false]) .stop) .stop) (by kernel_rfl) ?_; simp [hlt]
    try intros
    refine ACall.pure (hpc) (by simp [Ring.row, Entry.row]) ?_; simp [Ring.res, hlt, htl]
    try intros
    refine Ent.refl ⟨i + 1, by omega, by omega, ?_⟩; rw [← hmd]; simp; exact i64_suc (by omega)
  have hie : i = h.subs.length := by omega
  subst hie; rw [toldTo_all]; simp [hat, c2]; exact rows5_set
end Go.Proofs.YtdfdabjdfmamgaaGreat

