import Derived.Test.YtdfdabjdfmamgaaGreatPC
namespace Go.Proofs.YtdfdabjdfmamgaaGreat
open Go.AM
set_option maxRecDepth 20000
set_option maxHeartbeats 6400000

theorem hubOk_doc {h : Hub} (h0 : ∀ i, docAt h.docs i) {k : Nat} (hk : k < h.docs.length) : 0 ≤ headRev h.docs[k] ∧ headRev h.docs[k] ≤ 1000000000 := by
  have := docOk_head (h0 k hk).1
  omega
theorem docAt_zero {l : List Doc} {d : Doc} (h : 0 < l.length) (e : l[0] = d) (hd : docOk d) : docAt l 0 := fun _ => ⟨by rw [e]; exact hd, fun h => absurd h (by omega)⟩
theorem docAt_suc {l : List Doc} {d y : Doc} {k : Nat} (h : k + 1 < l.length) (e : l[k + 1] = d) (ey : l[k] = y) (hd : docOk d) (hs : sLt y.name d.name) : docAt l (k + 1) := fun _ => ⟨by rw [e]; exact hd, fun _ => by
  simp only [Nat.add_sub_cancel]; rw [e, ey]; exact hs⟩
theorem upto_suc {P : Nat → Prop} {i : Nat} (h : ∀ j, j < i → P j) (hi : P i) : ∀ j, j < i + 1 → P j := fun j hj => by
  by_cases e : j = i
  · subst e; exact hi
  · exact h j (by omega)
theorem implHubOk_c (h : Hub) (hl : nHub h ≤ 2 ^ 30) : PureC Tryz.prog 93 [.agg h.row] (.one (.c (vb (hubOk h)) 1)) := by
  refine PureC.intro' tt_ok Tryz.func93 (by kernel_rfl) rfl rfl rfl (Nat.le_of_ble_eq_true rfl) (fun w0 base => ?_)
  obtain ⟨sh, docs, subs, last⟩ := h
  have hl0 := hl
  unfold nHub at hl
  simp only at hl
  have hle := nL_len (f := nDoc) (B := 2 ^ 30) (l := docs) (by omega)
  have hls := nL_len (f := nSub) (B := 2 ^ 30) (l := subs) (by omega)
  simp [Hub.row]
  intro b1
  by_cases c1 : docs.length ≤ 5
  rotate_left
  · have c1' : 5 < (docs.length : Int) := by omega
    have h : ¬ hubOk ⟨sh, docs, subs, last⟩ := fun h => c1 h.1
    simp [c1', dc_neg h]
  have c1' : ¬ 5 < (docs.length : Int) := by omega
  by_cases c2 : subs.length ≤ 6
  rotate_left
  · have c2' : 6 < (subs.length : Int) := by omega
    have h : ¬ hubOk ⟨sh, docs, subs, last⟩ := fun h => c2 h.2.1
    simp [c1', c2', dc_neg h]
  have c2' : ¬ 6 < (subs.length : Int) := by omega
  simp [c1', c2']
  refine ACall.pure (within_c last 0 1000000000) (by simp) ?_
  by_cases c3 : 0 ≤ last ∧ last ≤ 1000000000
  rotate_left
  · have h : ¬ hubOk ⟨sh, docs, subs, last⟩ := fun h => c3 h.2.2.1
    simp [dc_neg c3, dc_neg h]
  simp [c3]
  refine LoopT.intro eok (fun i : Nat => i ≤ docs.length ∧ ∀ j, j < i → docAt docs j) (fun i => ⟨119, 0, [(27, .v (.int .i64 i)), (26, .v (.int .i64 docs.length)), (25, .ro (docs.map Doc.row)), (1, .p 16 b1 0)],
    [(16, .vars b1 45 [.v (.bool sh), .ro (docs.map Doc.row), .ro (subs.map Sub.row), .v (.int .i64 last)])]⟩) (fun i => docs.length - i) 0 (by simp) (by simp) (fun i hi => ?_)
  by_cases hlt : i < docs.length
  · have hm := nL_mem (f := nDoc) (B := 2 ^ 30) (l := docs) (by omega) (List.getElem_mem hlt)
    have hno : ¬ docAt docs i → ¬ hubOk ⟨sh, docs, subs, last⟩ := fun h h' => h (h'.2.2.2.1 i)
    obtain ⟨x, hx⟩ : ∃ x, docs[i] = x := ⟨_, rfl⟩
    rw [hx] at hm
    simp [hlt, hx, Doc.row]
    intro b4
    refine DrawT.quiet eok mix (by kernel_rfl) ?_
    simp
    refine ⟨_, _, implDocOk_c x (by omega), by simp [Doc.row], ?_⟩
    by_cases s1 : docOk x
    rotate_left
    · have h := hno (fun h => s1 (by have := (h hlt).1; rwa [hx] at this))
      simp [dc_neg s1, dc_neg h]
    simp [s1]
    cases i with
    | zero =>
      simp
      exact ⟨1, ⟨by omega, upto_suc hi.2 (docAt_zero hlt hx s1)⟩, by omega, i64_suc (n := 0) (by omega)⟩
    | succ k =>
      have ek : Go.IntKind.i64.wrap (k : Int) = k := i64_nat (by omega)
      have hk1 : k < docs.length := by omega
      have hk0 : (0 : Int) < (k : Int) + 1 := by omega
      obtain ⟨y, hy⟩ : ∃ y, docs[k] = y := ⟨_, rfl⟩
      simp [ek, hk0, hk1, hy, Doc.row]
      by_cases s4 : sLt y.name x.name
      rotate_left
      · have h := hno (fun h => s4 (by have := (h hlt).2 (by omega); rw [hx] at this; simp only [Nat.add_sub_cancel] at this; rwa [hy] at this))
        simp [dc_neg s4, dc_neg h]
      simp [s4]
      exact ⟨k + 2, ⟨by omega, upto_suc hi.2 (docAt_suc hlt hx hy s1 s4)⟩, by omega, by rw [Go.IntWalk.i64_in _ (by omega)]; omega⟩
  have c4 : ∀ i, docAt docs i := fun i => by
    by_cases h : i < docs.length
    · exact hi.2 i (by omega)
    · exact fun h' => absurd h' h
  simp [hlt]
  refine LoopT.intro eok (fun i : Nat => i ≤ subs.length ∧ ∀ j, j < i → subAt docs last subs j) (fun i => ⟨119, 0, [(55, .v (.int .i64 i)), (54, .v (.int .i64 subs.length)), (53, .ro (subs.map Sub.row)), (1, .p 16 b1 0)],
    [(16, .vars b1 45 [.v (.bool sh), .ro (docs.map Doc.row), .ro (subs.map Sub.row), .v (.int .i64 last)])]⟩) (fun i => subs.length - i) 0 (by simp) (by simp) (fun i hi => ?_)
  by_cases hlt : i < subs.length
  rotate_left
  · have h : hubOk ⟨sh, docs, subs, last⟩ := ⟨c1, c2, c3, c4, fun i => by
      by_cases h : i < subs.length
      · exact hi.2 i (by omega)
      · exact fun h' => absurd h' h⟩
    simp [hlt, h]
  have hm := nL_mem (f := nSub) (B := 2 ^ 30) (l := subs) (by omega) (List.getElem_mem hlt)
  have hno : ¬ subAt docs last subs i → ¬ hubOk ⟨sh, docs, subs, last⟩ := fun h h' => h (h'.2.2.2.2 i)
  obtain ⟨x, hx⟩ : ∃ x, subs[i] = x := ⟨_, rfl⟩
  rw [hx] at hm
  unfold nSub at hm
  have ew : Go.IntKind.i64.wrap ((i : Int) + 1) = ((i + 1 : Nat) : Int) := i64_suc (by omega)
  simp [hlt, hx, Sub.row]
  intro b6
  refine ACall.pure (implHubDoc_c ⟨sh, docs, subs, last⟩ (by omega) x.doc) (by simp [Hub.row]) ?_
  simp
  have noid : ¬ (1 ≤ x.id ∧ x.id ≤ last) → ¬ hubOk ⟨sh, docs, subs, last⟩ := fun s2 => hno (fun h => s2 (by have := (h hlt).1; rwa [hx] at this))
  have noring : ¬ ringOk x.r → ¬ hubOk ⟨sh, docs, subs, last⟩ := fun s2 => hno (fun h => s2 (by have := (h hlt).2.1; rwa [hx] at this))
  have nodoc : docIdx docs x.doc = -1 → ¬ hubOk ⟨sh, docs, subs, last⟩ := fun s2 => hno (fun h => by
    obtain ⟨k, hk, e, -⟩ := (h hlt).2.2.2
    rw [hx, s2] at e; omega)
  have noprev : ∀ _ : 0 < i, ¬ subs[i - 1].id < x.id → ¬ hubOk ⟨sh, docs, subs, last⟩ := fun h0 s2 => hno (fun h => s2 (by have := (h hlt).2.2.1 h0; rwa [hx] at this))
  have hix := fIdx_cases (fun d : Doc => d.name = x.doc) docs
  change (∃ k : Nat, ∃ h : k < docs.length, docIdx docs x.doc = k ∧ _) ∨ (docIdx docs x.doc = -1 ∧ _) at hix
  have norev : ∀ k : Nat, ∀ hk : k < docs.length, docIdx docs x.doc = k → x.r.out = false → ¬ x.r.next + x.r.list.length = headRev docs[k] + 1 → ¬ hubOk ⟨sh, docs, subs, last⟩ := fun k hk e ho s2 => hno (fun h => by
    obtain ⟨k', hk', e', h'⟩ := (h hlt).2.2.2
    simp only [hx] at e' h'
    have : k = k' := by omega
    subst this
    exact s2 (h' ho))
  have fin : ∀ (s1 : 1 ≤ x.id ∧ x.id ≤ last) (s2 : ringOk x.r) (s3 : ∀ _ : 0 < i, subs[i - 1].id < x.id) (k : Nat) (hk : k < docs.length) (e : docIdx docs x.doc = k) (s4 : x.r.out = false → x.r.next + x.r.list.length = headRev docs[k] + 1), ∀ j, j < i + 1 → subAt docs last subs j :=
    fun s1 s2 s3 k hk e s4 => upto_suc hi.2 (fun _ => by simp only [hx]; exact ⟨s1, s2, s3, k, hk, e, s4⟩)
  generalize docIdx docs x.doc = K at hix nodoc norev fin ⊢
  refine DrawT.quiet eok mix (by kernel_rfl) ?_
  simp
  refine ⟨_, _, within_c x.id 1 last, by simp, ?_⟩
  by_cases s1 : 1 ≤ x.id ∧ x.id ≤ last
  rotate_left
  · simp [dc_neg s1, dc_neg (noid s1)]
  simp [s1]
  cases i with
  | zero =>
    simp
    refine ⟨_, _, implRingOk_c x.r (by omega), by simp [Ring.row], ?_⟩
    by_cases s2 : ringOk x.r
    rotate_left
    · simp [dc_neg s2, dc_neg (noring s2)]
    simp [s2]
    rcases hix with ⟨k, hk, rfl, -⟩ | ⟨rfl, -⟩
    rotate_left
    · simp [dc_neg (nodoc rfl)]
    have hk0' : ¬ (k : Int) < 0 := by omega
    simp [hk0']
    have sn := s2.2.2.1
    have sl := s2.2.2.2.1
    have sc := s2.2.1
    have hr := hubOk_doc (h := ⟨sh, docs, subs, last⟩) c4 hk
    simp only at hr
    have e1 : Go.IntKind.i64.wrap (x.r.next + x.r.list.length) = x.r.next + x.r.list.length := Go.IntWalk.i64_in _ (by omega)
    have e2 : Go.IntKind.i64.wrap (headRev docs[k] + 1) = headRev docs[k] + 1 := Go.IntWalk.i64_in _ (by omega)
    refine DrawT.quiet eok mix (by kernel_rfl) ?_
    simp
    cases ho : x.r.out with
    | true =>
      have hf := fin s1 s2 (fun h => absurd h (by omega)) k hk rfl (fun h => absurd (ho.symm.trans h) (by simp))
      simp
      exact ⟨1, ⟨by omega, hf⟩, by omega, i64_suc (n := 0) (by omega)⟩
    | false =>
      simp [hk]
      refine ⟨_, _, implHeadRev_c docs[k], by simp [Doc.row], ?_⟩
      by_cases s4 : x.r.next + x.r.list.length = headRev docs[k] + 1
      · have hf := fin s1 s2 (fun h => absurd h (by omega)) k hk rfl (fun _ => s4)
        simp [e2, s4]
        exact ⟨1, ⟨by omega, hf⟩, by omega, i64_suc (n := 0) (by omega)⟩
      · simp [e1, e2, s4, dc_neg (norev k hk rfl ho s4)]
  | succ m =>
    have hk1 : m < subs.length := by omega
    have ek : Go.IntKind.i64.wrap (m : Int) = m := i64_nat (by omega)
    have hm0 : (0 : Int) < (m : Int) + 1 := by omega
    obtain ⟨y, hy⟩ : ∃ y, subs[m] = y := ⟨_, rfl⟩
    simp [ek, hm0, hk1, hy, Sub.row]
    by_cases s3 : y.id < x.id
    rotate_left
    · have s3' : x.id ≤ y.id := by omega
      simp [s3', dc_neg (noprev (by omega) (by simp only [Nat.add_sub_cancel]; rwa [hy]))]
    have s3' : ¬ x.id ≤ y.id := by omega
    have hp : ∀ _ : 0 < m + 1, subs[m + 1 - 1].id < x.id := fun _ => by simp only [Nat.add_sub_cancel]; rwa [hy]
    simp [s3']
    refine ⟨_, _, implRingOk_c x.r (by omega), by simp [Ring.row], ?_⟩
    by_cases s2 : ringOk x.r
    rotate_left
    · simp [dc_neg s2, dc_neg (noring s2)]
    simp [s2]
    rcases hix with ⟨k, hk, rfl, -⟩ | ⟨rfl, -⟩
    rotate_left
    · simp [dc_neg (nodoc rfl)]
    have hk0' : ¬ (k : Int) < 0 := by omega
    simp [hk0']
    have sn := s2.2.2.1
    have sl := s2.2.2.2.1
    have sc := s2.2.1
    have hr := hubOk_doc (h := ⟨sh, docs, subs, last⟩) c4 hk
    simp only at hr
    have e1 : Go.IntKind.i64.wrap (x.r.next + x.r.list.length) = x.r.next + x.r.list.length := Go.IntWalk.i64_in _ (by omega)
    have e2 : Go.IntKind.i64.wrap (headRev docs[k] + 1) = headRev docs[k] + 1 := Go.IntWalk.i64_in _ (by omega)
    refine DrawT.quiet eok mix (by kernel_rfl) ?_
    simp
    cases ho : x.r.out with
    | true =>
      have hf := fin s1 s2 hp k hk rfl (fun h => absurd (ho.symm.trans h) (by simp))
      simp
      exact ⟨m + 2, ⟨by omega, hf⟩, by omega, by rw [Go.IntWalk.i64_in _ (by omega)]; omega⟩
    | false =>
      simp [hk]
      refine ⟨_, _, implHeadRev_c docs[k], by simp [Doc.row], ?_⟩
      by_cases s4 : x.r.next + x.r.list.length = headRev docs[k] + 1
      · have hf := fin s1 s2 hp k hk rfl (fun _ => s4)
        simp [e2, s4]
        exact ⟨m + 2, ⟨by omega, hf⟩, by omega, by rw [Go.IntWalk.i64_in _ (by omega)]; omega⟩
      · simp [e1, e2, s4, dc_neg (norev k hk rfl ho s4)]
theorem specHubOk_c (h : Hub) (hl : nHub h ≤ 2 ^ 30) : PureC Tryz.prog 91 [.agg h.row] (.one (.c (vb (hubOk h)) 1)) := by
  refine PureC.intro' tt_ok Tryz.func91 (by kernel_rfl) rfl rfl rfl (Nat.le_of_ble_eq_true rfl) (fun w0 base => ?_)
  obtain ⟨sh, docs, subs, last⟩ := h
  have hl0 := hl
  unfold nHub at hl
  simp only at hl
  have hle := nL_len (f := nDoc) (B := 2 ^ 30) (l := docs) (by omega)
  have hls := nL_len (f := nSub) (B := 2 ^ 30) (l := subs) (by omega)
  simp [Hub.row]
  intro b1
  by_cases c1 : docs.length ≤ 5
  rotate_left
  · have c1' : 5 < (docs.length : Int) := by omega
    have h : ¬ hubOk ⟨sh, docs, subs, last⟩ := fun h => c1 h.1
    simp [c1', dc_neg h]
  have c1' : ¬ 5 < (docs.length : Int) := by omega
  by_cases c2 : subs.length ≤ 6
  rotate_left
  · have c2' : 6 < (subs.length : Int) := by omega
    have h : ¬ hubOk ⟨sh, docs, subs, last⟩ := fun h => c2 h.2.1
    simp [c1', c2', dc_neg h]
  have c2' : ¬ 6 < (subs.length : Int) := by omega
  simp [c1', c2']
  refine ACall.pure (l01In_c last 0 1000000000) (by simp) ?_
  by_cases c3 : 0 ≤ last ∧ last ≤ 1000000000
  rotate_left
  · have h : ¬ hubOk ⟨sh, docs, subs, last⟩ := fun h => c3 h.2.2.1
    simp [dc_neg c3, dc_neg h]
  simp [c3]
  refine LoopT.intro eok (fun i : Nat => i ≤ docs.length ∧ ∀ j, j < i → docAt docs j) (fun i => ⟨119, 0, [(27, .v (.int .i64 i)), (26, .v (.int .i64 docs.length)), (25, .ro (docs.map Doc.row)), (1, .p 16 b1 0)],
    [(16, .vars b1 45 [.v (.bool sh), .ro (docs.map Doc.row), .ro (subs.map Sub.row), .v (.int .i64 last)])]⟩) (fun i => docs.length - i) 0 (by simp) (by simp) (fun i hi => ?_)
  by_cases hlt : i < docs.length
  · have hm := nL_mem (f := nDoc) (B := 2 ^ 30) (l := docs) (by omega) (List.getElem_mem hlt)
    have hno : ¬ docAt docs i → ¬ hubOk ⟨sh, docs, subs, last⟩ := fun h h' => h (h'.2.2.2.1 i)
    obtain ⟨x, hx⟩ : ∃ x, docs[i] = x := ⟨_, rfl⟩
    rw [hx] at hm
    simp [hlt, hx, Doc.row]
    intro b4
    refine DrawT.quiet eok mix (by kernel_rfl) ?_
    simp
    refine ⟨_, _, specDocOk_c x (by omega), by simp [Doc.row], ?_⟩
    by_cases s1 : docOk x
    rotate_left
    · have h := hno (fun h => s1 (by have := (h hlt).1; rwa [hx] at this))
      simp [dc_neg s1, dc_neg h]
    simp [s1]
    cases i with
    | zero =>
      simp
      exact ⟨1, ⟨by omega, upto_suc hi.2 (docAt_zero hlt hx s1)⟩, by omega, i64_suc (n := 0) (by omega)⟩
    | succ k =>
      have ek : Go.IntKind.i64.wrap (k : Int) = k := i64_nat (by omega)
      have hk1 : k < docs.length := by omega
      have hk0 : (0 : Int) < (k : Int) + 1 := by omega
      obtain ⟨y, hy⟩ : ∃ y, docs[k] = y := ⟨_, rfl⟩
      simp [ek, hk0, hk1, hy, Doc.row]
      by_cases s4 : sLt y.name x.name
      rotate_left
      · have h := hno (fun h => s4 (by have := (h hlt).2 (by omega); rw [hx] at this; simp only [Nat.add_sub_cancel] at this; rwa [hy] at this))
        simp [dc_neg s4, dc_neg h]
      simp [s4]
      exact ⟨k + 2, ⟨by omega, upto_suc hi.2 (docAt_suc hlt hx hy s1 s4)⟩, by omega, by rw [Go.IntWalk.i64_in _ (by omega)]; omega⟩
  have c4 : ∀ i, docAt docs i := fun i => by
    by_cases h : i < docs.length
    · exact hi.2 i (by omega)
    · exact fun h' => absurd h' h
  simp [hlt]
  refine LoopT.intro eok (fun i : Nat => i ≤ subs.length ∧ ∀ j, j < i → subAt docs last subs j) (fun i => ⟨119, 0, [(55, .v (.int .i64 i)), (54, .v (.int .i64 subs.length)), (53, .ro (subs.map Sub.row)), (1, .p 16 b1 0)],
    [(16, .vars b1 45 [.v (.bool sh), .ro (docs.map Doc.row), .ro (subs.map Sub.row), .v (.int .i64 last)])]⟩) (fun i => subs.length - i) 0 (by simp) (by simp) (fun i hi => ?_)
  by_cases hlt : i < subs.length
  rotate_left
  · have h : hubOk ⟨sh, docs, subs, last⟩ := ⟨c1, c2, c3, c4, fun i => by
      by_cases h : i < subs.length
      · exact hi.2 i (by omega)
      · exact fun h' => absurd h' h⟩
    simp [hlt, h]
  have hm := nL_mem (f := nSub) (B := 2 ^ 30) (l := subs) (by omega) (List.getElem_mem hlt)
  have hno : ¬ subAt docs last subs i → ¬ hubOk ⟨sh, docs, subs, last⟩ := fun h h' => h (h'.2.2.2.2 i)
  obtain ⟨x, hx⟩ : ∃ x, subs[i] = x := ⟨_, rfl⟩
  rw [hx] at hm
  unfold nSub at hm
  have ew : Go.IntKind.i64.wrap ((i : Int) + 1) = ((i + 1 : Nat) : Int) := i64_suc (by omega)
  simp [hlt, hx, Sub.row]
  intro b6
  refine ACall.pure (specHubDoc_c ⟨sh, docs, subs, last⟩ (by omega) x.doc) (by simp [Hub.row]) ?_
  simp
  have noid : ¬ (1 ≤ x.id ∧ x.id ≤ last) → ¬ hubOk ⟨sh, docs, subs, last⟩ := fun s2 => hno (fun h => s2 (by have := (h hlt).1; rwa [hx] at this))
  have noring : ¬ ringOk x.r → ¬ hubOk ⟨sh, docs, subs, last⟩ := fun s2 => hno (fun h => s2 (by have := (h hlt).2.1; rwa [hx] at this))
  have nodoc : docIdx docs x.doc = -1 → ¬ hubOk ⟨sh, docs, subs, last⟩ := fun s2 => hno (fun h => by
    obtain ⟨k, hk, e, -⟩ := (h hlt).2.2.2
    rw [hx, s2] at e; omega)
  have noprev : ∀ _ : 0 < i, ¬ subs[i - 1].id < x.id → ¬ hubOk ⟨sh, docs, subs, last⟩ := fun h0 s2 => hno (fun h => s2 (by have := (h hlt).2.2.1 h0; rwa [hx] at this))
  have hix := fIdx_cases (fun d : Doc => d.name = x.doc) docs
  change (∃ k : Nat, ∃ h : k < docs.length, docIdx docs x.doc = k ∧ _) ∨ (docIdx docs x.doc = -1 ∧ _) at hix
  have norev : ∀ k : Nat, ∀ hk : k < docs.length, docIdx docs x.doc = k → x.r.out = false → ¬ x.r.next + x.r.list.length = headRev docs[k] + 1 → ¬ hubOk ⟨sh, docs, subs, last⟩ := fun k hk e ho s2 => hno (fun h => by
    obtain ⟨k', hk', e', h'⟩ := (h hlt).2.2.2
    simp only [hx] at e' h'
    have : k = k' := by omega
    subst this
    exact s2 (h' ho))
  have fin : ∀ (s1 : 1 ≤ x.id ∧ x.id ≤ last) (s2 : ringOk x.r) (s3 : ∀ _ : 0 < i, subs[i - 1].id < x.id) (k : Nat) (hk : k < docs.length) (e : docIdx docs x.doc = k) (s4 : x.r.out = false → x.r.next + x.r.list.length = headRev docs[k] + 1), ∀ j, j < i + 1 → subAt docs last subs j :=
    fun s1 s2 s3 k hk e s4 => upto_suc hi.2 (fun _ => by simp only [hx]; exact ⟨s1, s2, s3, k, hk, e, s4⟩)
  generalize docIdx docs x.doc = K at hix nodoc norev fin ⊢
  refine DrawT.quiet eok mix (by kernel_rfl) ?_
  simp
  refine ⟨_, _, l01In_c x.id 1 last, by simp, ?_⟩
  by_cases s1 : 1 ≤ x.id ∧ x.id ≤ last
  rotate_left
  · simp [dc_neg s1, dc_neg (noid s1)]
  simp [s1]
  refine ⟨_, _, specRingOk_c x.r (by omega), by simp [Ring.row], ?_⟩
  by_cases s2 : ringOk x.r
  rotate_left
  · simp [dc_neg s2, dc_neg (noring s2)]
  simp [s2]
  rcases hix with ⟨k, hk, rfl, -⟩ | ⟨rfl, -⟩
  rotate_left
  · simp [dc_neg (nodoc rfl)]
  have hk0' : ¬ (k : Int) < 0 := by omega
  simp [hk0']
  cases i with
  | zero =>
    simp
    have sn := s2.2.2.1
    have sl := s2.2.2.2.1
    have sc := s2.2.1
    have hr := hubOk_doc (h := ⟨sh, docs, subs, last⟩) c4 hk
    simp only at hr
    have e1 : Go.IntKind.i64.wrap (x.r.next + x.r.list.length) = x.r.next + x.r.list.length := Go.IntWalk.i64_in _ (by omega)
    have e2 : Go.IntKind.i64.wrap (headRev docs[k] + 1) = headRev docs[k] + 1 := Go.IntWalk.i64_in _ (by omega)
    refine DrawT.quiet eok mix (by kernel_rfl) ?_
    simp
    cases ho : x.r.out with
    | true =>
      have hf := fin s1 s2 (fun h => absurd h (by omega)) k hk rfl (fun h => absurd (ho.symm.trans h) (by simp))
      simp
      exact ⟨1, ⟨by omega, hf⟩, by omega, i64_suc (n := 0) (by omega)⟩
    | false =>
      simp [hk]
      refine ⟨_, _, specHeadRev_c docs[k], by simp [Doc.row], ?_⟩
      by_cases s4 : x.r.next + x.r.list.length = headRev docs[k] + 1
      · have hf := fin s1 s2 (fun h => absurd h (by omega)) k hk rfl (fun _ => s4)
        simp [e2, s4]
        exact ⟨1, ⟨by omega, hf⟩, by omega, i64_suc (n := 0) (by omega)⟩
      · simp [e1, e2, s4, dc_neg (norev k hk rfl ho s4)]
  | succ m =>
    have hk1 : m < subs.length := by omega
    have ek : Go.IntKind.i64.wrap (m : Int) = m := i64_nat (by omega)
    have hm0 : (0 : Int) < (m : Int) + 1 := by omega
    obtain ⟨y, hy⟩ : ∃ y, subs[m] = y := ⟨_, rfl⟩
    simp [ek, hm0, hk1, hy, Sub.row]
    by_cases s3 : y.id < x.id
    rotate_left
    · have s3' : x.id ≤ y.id := by omega
      simp [s3', dc_neg (noprev (by omega) (by simp only [Nat.add_sub_cancel]; rwa [hy]))]
    have s3' : ¬ x.id ≤ y.id := by omega
    have hp : ∀ _ : 0 < m + 1, subs[m + 1 - 1].id < x.id := fun _ => by simp only [Nat.add_sub_cancel]; rwa [hy]
    simp [s3']
    have sn := s2.2.2.1
    have sl := s2.2.2.2.1
    have sc := s2.2.1
    have hr := hubOk_doc (h := ⟨sh, docs, subs, last⟩) c4 hk
    simp only at hr
    have e1 : Go.IntKind.i64.wrap (x.r.next + x.r.list.length) = x.r.next + x.r.list.length := Go.IntWalk.i64_in _ (by omega)
    have e2 : Go.IntKind.i64.wrap (headRev docs[k] + 1) = headRev docs[k] + 1 := Go.IntWalk.i64_in _ (by omega)
    refine DrawT.quiet eok mix (by kernel_rfl) ?_
    simp
    cases ho : x.r.out with
    | true =>
      have hf := fin s1 s2 hp k hk rfl (fun h => absurd (ho.symm.trans h) (by simp))
      simp
      exact ⟨m + 2, ⟨by omega, hf⟩, by omega, by rw [Go.IntWalk.i64_in _ (by omega)]; omega⟩
    | false =>
      simp [hk]
      refine ⟨_, _, specHeadRev_c docs[k], by simp [Doc.row], ?_⟩
      by_cases s4 : x.r.next + x.r.list.length = headRev docs[k] + 1
      · have hf := fin s1 s2 hp k hk rfl (fun _ => s4)
        simp [e2, s4]
        exact ⟨m + 2, ⟨by omega, hf⟩, by omega, by rw [Go.IntWalk.i64_in _ (by omega)]; omega⟩
      · simp [e1, e2, s4, dc_neg (norev k hk rfl ho s4)]
end Go.Proofs.YtdfdabjdfmamgaaGreat

namespace Go.Proofs.YtdfdabjdfmamgaaGreat
open Go.AM
set_option maxRecDepth 20000
set_option maxHeartbeats 3200000

theorem copyRing_c (r : Ring) (hl : nRing r ≤ 2 ^ 30) : PureC Tryz.prog 209 [.agg r.row] (.one (.agg r.res)) := by
  refine PureC.intro' tt_ok Tryz.func209 (by kernel_rfl) rfl rfl rfl (Nat.le_of_ble_eq_true rfl) (fun w0 base => ?_)
  unfold nRing at hl
  simp [Ring.row]
  intro b1 b2
  refine ACall.pure (copyEntries_c r.list hl) (by simp) ?_
  simp [Ring.res]
theorem l10Copy_c (r : Ring) (hl : nRing r ≤ 2 ^ 30) : PureC Tryz.prog 283 [.agg r.row] (.one (.agg r.res)) := by
  refine PureC.intro' tt_ok Tryz.func283 (by kernel_rfl) rfl rfl rfl (Nat.le_of_ble_eq_true rfl) (fun w0 base => ?_)
  unfold nRing at hl
  simp [Ring.row]
  intro b1 b2
  refine DrawT.introS eok mix [0, 1, 2, 3, 4, 5, 6, 7] [8, 9, 10] (.child 8 [true, false, false, false, false, false, false, false] [false, true, true, true, true, true, true, true] (.child 9 [false, false, true, false, true, false, true, false] [false, true, false, true, false, true, false, true] (.child 10 [false, true, false, true, false, true, false, true] [false, false, false, false, false, false, false, false] (.leaf [false, false, false, false, false, false, false, false]) .stop) .stop) .stop) (by kernel_rfl) ?_
  simp
  try intros
  refine ACall.pure (l08Entries_c r.list hl) (by simp) ?_
  simp
  try intros
  simp [Ring.res]
theorem l11Sub_c (s : Sub) (hl : nSub s ≤ 2 ^ 30) : PureC Tryz.prog 206 [.agg s.row] (.one (.agg s.res)) := by
  refine PureC.intro' tt_ok Tryz.func206 (by kernel_rfl) rfl rfl rfl (Nat.le_of_ble_eq_true rfl) (fun w0 base => ?_)
  unfold nSub at hl
  simp [Sub.row]
  intro b1 b2
  refine DrawT.introS eok mix [0, 1, 2, 3, 4, 5] [6, 7, 8] (.child 6 [true, false, false, false, false, false] [false, true, true, true, true, true] (.child 7 [false, false, true, false, true, false] [false, true, false, true, false, true] (.child 8 [false, true, false, true, false, true] [false, false, false, false, false, false] (.leaf [false, false, false, false, false, false]) .stop) .stop) .stop) (by kernel_rfl) ?_
  simp
  try intros
  refine ACall.pure (l10Copy_c s.r (by omega)) (by simp [Ring.row]) ?_
  simp [Ring.res]
  try intros
  simp [Sub.res]
theorem copyHub_c (h : Hub) (hl : nHub h ≤ 2 ^ 30) : PureC Tryz.prog 118 [.agg h.row] (.one (.agg h.res)) := by
  refine PureC.intro' tt_ok Tryz.func118 (by kernel_rfl) rfl rfl rfl (Nat.le_of_ble_eq_true rfl) (fun w0 base => ?_)
  obtain ⟨sh, docs, subs, last⟩ := h
  unfold nHub at hl
  simp only at hl
  have hle := nL_len (f := nDoc) (B := 2 ^ 30) (l := docs) (by omega)
  have hls := nL_len (f := nSub) (B := 2 ^ 30) (l := subs) (by omega)
  simp [Hub.row]
  intro b1 b2 b3
  refine LoopT.introG eok (fun x : Nat × Hd => x.1 ≤ docs.length) (fun x => ⟨47, 0, [(16, .v (.int .i64 x.1)), (15, .v (.int .i64 docs.length)), (14, .ro (docs.map Doc.row)), (1, .p 16 b1 0), (2, .p 32 b2 0), (3, .p 48 b3 0)],
    [(48, .vars b3 45 [.v (.bool sh), .sl 5000 x.2 5 0 x.1, .nil, .v (.int .i64 last)]), (32, .vars b2 45 [.v (.bool false), .nil, .nil, .v (.int .i64 0)]),
     (16, .vars b1 45 [.v (.bool sh), .ro (docs.map Doc.row), .ro (subs.map Sub.row), .v (.int .i64 last)]), (5000, .rows x.2 5 ((docs.take x.1).map Doc.row) true)]⟩) (fun x => docs.length - x.1) (0, none) (by simp) (by simp) (fun x hi => Ent.refl ?_)
  obtain ⟨i, H⟩ := x
  simp only at hi ⊢
  by_cases hlt : i < docs.length
  · have hm := nL_mem (f := nDoc) (B := 2 ^ 30) (l := docs) (by omega) (List.getElem_mem hlt)
    have e1 : min i docs.length = i := by omega
    simp [hlt, Doc.row]
    intro b5
    refine DrawT.introS eok mix [0, 1, 2, 6] [3, 4, 5, 7] (.child 3 [false, true, false, false] [true, false, true, true] (.child 4 [false, false, false, false] [true, false, true, true] (.child 5 [false, false, true, false] [true, false, false, true] (.child 7 [true, false, false, true] [false, false, false, false] (.leaf [false, false, false, false]) .stop) .stop) .stop) .stop) (by kernel_rfl) ?_
    simp
    try intros
    refine ACall.pure (copyDoc_c docs[i] hm) (by simp [Doc.row]) ?_
    simp [Doc.res]
    try intros
    simp [e1]
    refine ⟨by omega, fun H' => Ent.refl ⟨i + 1, by omega, by omega, H', ?_⟩⟩
    simp
    exact ⟨i64_suc (by omega), take_snoc (f := Doc.row) hlt⟩
  have hm : i = docs.length := by omega
  subst hm
  simp
  refine LoopT.introG eok (fun x : Nat × Hd => x.1 ≤ subs.length) (fun x => ⟨47, 0, [(31, .v (.int .i64 x.1)), (30, .v (.int .i64 subs.length)), (29, .ro (subs.map Sub.row)), (2, .p 32 b2 0), (3, .p 48 b3 0)],
    [(48, .vars b3 45 [.v (.bool sh), .sl 5000 H 5 0 docs.length, .sl 5001 x.2 6 0 x.1, .v (.int .i64 last)]), (32, .vars b2 45 [.v (.bool false), .nil, .nil, .v (.int .i64 0)]),
     (5000, .rows H 5 (docs.map Doc.row) true), (5001, .rows x.2 6 ((subs.take x.1).map Sub.row) true)]⟩) (fun x => subs.length - x.1) (0, none) (by simp) (by simp) (fun x hi => Ent.refl ?_)
  obtain ⟨i, H'⟩ := x
  simp only at hi ⊢
  by_cases hlt : i < subs.length
  · have hm := nL_mem (f := nSub) (B := 2 ^ 30) (l := subs) (by omega) (List.getElem_mem hlt)
    unfold nSub at hm
    have e1 : min i subs.length = i := by omega
    simp [hlt, Sub.row]
    intro b7
    refine ACall.pure (copyRing_c subs[i].r (by omega)) (by simp [Ring.row]) ?_
    simp [Ring.res]
    intro H7
    simp [e1]
    intro b8
    refine ⟨by omega, fun H'' => Ent.refl ⟨i + 1, by omega, by omega, H'', ?_⟩⟩
    simp
    exact ⟨i64_suc (by omega), take_snoc (f := Sub.row) hlt⟩
  have hm : i = subs.length := by omega
  subst hm
  simp [Hub.res]
theorem l11Copy_c (h : Hub) (hl : nHub h ≤ 2 ^ 30) : PureC Tryz.prog 115 [.agg h.row] (.one (.agg h.res)) := by
  refine PureC.intro' tt_ok Tryz.func115 (by kernel_rfl) rfl rfl rfl (Nat.le_of_ble_eq_true rfl) (fun w0 base => ?_)
  obtain ⟨sh, docs, subs, last⟩ := h
  unfold nHub at hl
  simp only at hl
  have hle := nL_len (f := nDoc) (B := 2 ^ 30) (l := docs) (by omega)
  have hls := nL_len (f := nSub) (B := 2 ^ 30) (l := subs) (by omega)
  simp [Hub.row]
  intro b1 b2 b3
  refine LoopT.introG eok (fun x : Nat × Hd => x.1 ≤ docs.length) (fun x => ⟨44, 0, [(16, .v (.int .i64 x.1)), (15, .v (.int .i64 docs.length)), (14, .ro (docs.map Doc.row)), (1, .p 16 b1 0), (2, .p 32 b2 0), (3, .p 48 b3 0)],
    [(48, .vars b3 45 [.v (.bool sh), .sl 5000 x.2 5 0 x.1, .nil, .v (.int .i64 last)]), (32, .vars b2 45 [.v (.bool false), .nil, .nil, .v (.int .i64 0)]),
     (16, .vars b1 45 [.v (.bool sh), .ro (docs.map Doc.row), .ro (subs.map Sub.row), .v (.int .i64 last)]), (5000, .rows x.2 5 ((docs.take x.1).map Doc.row) true)]⟩) (fun x => docs.length - x.1) (0, none) (by simp) (by simp) (fun x hi => Ent.refl ?_)
  obtain ⟨i, H⟩ := x
  simp only at hi ⊢
  by_cases hlt : i < docs.length
  · have hm := nL_mem (f := nDoc) (B := 2 ^ 30) (l := docs) (by omega) (List.getElem_mem hlt)
    have e1 : min i docs.length = i := by omega
    simp [hlt, Doc.row]
    intro b5
    refine DrawT.introS eok mix [0, 1, 2, 6] [3, 4, 5, 7] (.child 3 [false, true, false, false] [true, false, true, true] (.child 4 [false, false, false, false] [true, false, true, true] (.child 5 [false, false, true, false] [true, false, false, true] (.child 7 [true, false, false, true] [false, false, false, false] (.leaf [false, false, false, false]) .stop) .stop) .stop) .stop) (by kernel_rfl) ?_
    simp
    try intros
    refine ACall.pure (l08Copy_c docs[i] hm) (by simp [Doc.row]) ?_
    simp [Doc.res]
    try intros
    simp [e1]
    refine ⟨by omega, fun H' => Ent.refl ⟨i + 1, by omega, by omega, H', ?_⟩⟩
    simp
    exact ⟨i64_suc (by omega), take_snoc (f := Doc.row) hlt⟩
  have hm : i = docs.length := by omega
  subst hm
  simp
  refine LoopT.introG eok (fun x : Nat × Hd => x.1 ≤ subs.length) (fun x => ⟨44, 0, [(31, .v (.int .i64 x.1)), (30, .v (.int .i64 subs.length)), (29, .ro (subs.map Sub.row)), (2, .p 32 b2 0), (3, .p 48 b3 0)],
    [(48, .vars b3 45 [.v (.bool sh), .sl 5000 H 5 0 docs.length, .sl 5001 x.2 6 0 x.1, .v (.int .i64 last)]), (32, .vars b2 45 [.v (.bool false), .nil, .nil, .v (.int .i64 0)]),
     (5000, .rows H 5 (docs.map Doc.row) true), (5001, .rows x.2 6 ((subs.take x.1).map Sub.row) true)]⟩) (fun x => subs.length - x.1) (0, none) (by simp) (by simp) (fun x hi => Ent.refl ?_)
  obtain ⟨i, H'⟩ := x
  simp only at hi ⊢
  by_cases hlt : i < subs.length
  · have hm := nL_mem (f := nSub) (B := 2 ^ 30) (l := subs) (by omega) (List.getElem_mem hlt)
    have e1 : min i subs.length = i := by omega
    simp [hlt, Sub.row]
    intro b7
    refine DrawT.introS eok mix [0, 1, 2, 6] [3, 4, 5, 7] (.child 3 [false, true, false, false] [true, false, true, true] (.child 4 [false, false, false, false] [true, false, true, true] (.child 5 [false, false, true, false] [true, false, false, true] (.child 7 [true, false, false, true] [false, false, false, false] (.leaf [false, false, false, false]) .stop) .stop) .stop) .stop) (by kernel_rfl) ?_
    simp
    try intros
    refine ACall.pure (l11Sub_c subs[i] hm) (by simp [Sub.row]) ?_
    simp [Sub.res]
    try intros
    simp [e1]
    refine ⟨by omega, fun H'' => Ent.refl ⟨i + 1, by omega, by omega, H'', ?_⟩⟩
    simp
    exact ⟨i64_suc (by omega), take_snoc (f := Sub.row) hlt⟩
  have hm : i = subs.length := by omega
  subst hm
  simp [Hub.res]
end Go.Proofs.YtdfdabjdfmamgaaGreat

namespace Go.Proofs.YtdfdabjdfmamgaaGreat
open Go.AM
set_option maxRecDepth 20000
set_option maxHeartbeats 3200000

theorem fWorldNew_yes {h : Hub} {n : Int} (c : hubOk h ∧ (1 ≤ n ∧ n ≤ 4)) : fWorldNew h n = (⟨h, List.replicate n.toNat (-1), [], [], 0⟩, true) := by unfold fWorldNew; rw [if_pos c]
theorem fWorldNew_no {h : Hub} {n : Int} (c : ¬ (hubOk h ∧ (1 ≤ n ∧ n ≤ 4))) : fWorldNew h n = (Wld.zero, false) := by unfold fWorldNew; rw [if_neg c]
theorem rep_snoc (i : Nat) : List.replicate i (intR (-1)) ++ [[.v (.int .i64 (-1))]] = List.replicate (i + 1) (intR (-1)) := by
  rw [List.replicate_succ']
theorem implWorldNew_i (h : Hub) (hl : nHub h ≤ 2 ^ 30) (n : Int) : PureC Tryz.prog 37 [.agg h.row, .c (vi n)] (.tup [.agg (fWorldNew h n).1.res, .c (.v (.bool (fWorldNew h n).2)) 1]) := by
  refine PureC.intro' tt_ok Tryz.func37 (by kernel_rfl) rfl rfl rfl (Nat.le_of_ble_eq_true rfl) (fun w0 base => ?_)
  simp [Hub.row]
  intro b1 b2
  refine ACall.pure (implHubOk_c h hl) (by simp [Hub.row]) ?_
  by_cases c1 : hubOk h
  rotate_left
  · have e := fWorldNew_no (h := h) (n := n) (fun h => c1 h.1)
    simp [dc_neg c1, e, Wld.res, Wld.zero, Hub.zero]
  simp [c1]
  refine ACall.pure (within_c n 1 4) (by simp) ?_
  by_cases c2 : 1 ≤ n ∧ n ≤ 4
  rotate_left
  · have e := fWorldNew_no (h := h) (n := n) (fun h => c2 h.2)
    simp [dc_neg c2, e, Wld.res, Wld.zero, Hub.zero]
  have e := fWorldNew_yes (h := h) (n := n) ⟨c1, c2⟩
  obtain ⟨m, rfl⟩ : ∃ m : Nat, n = m := ⟨n.toNat, by omega⟩
  simp at e
  simp [c2]
  refine ACall.pure (copyHub_c h hl) (by simp [Hub.row]) ?_
  simp [Hub.res]
  intro H1 H2 b6
  refine LoopT.introG eok (fun x : Nat × Hd => x.1 ≤ m) (fun x => ⟨31, 0, [(7, .v (.int .i64 x.1)), (1, .v (.int .i64 m)), (4, .p 64 b2 0), (6, .p 96 b6 0)],
    [(96, .vars b6 71 [.v (.bool h.shut), .sl 289 H1 5 0 h.docs.length, .sl 290 H2 6 0 h.subs.length, .v (.int .i64 h.last), .sl 5000 x.2 1 0 x.1, .nil, .nil, .v (.int .i64 0)]),
     (64, .vars b2 71 [.v (.bool false), .nil, .nil, .v (.int .i64 0), .nil, .nil, .nil, .v (.int .i64 0)]),
     (289, .rows H1 5 (h.docs.map Doc.row) true), (290, .rows H2 6 (h.subs.map Sub.row) true), (5000, .rows x.2 1 ((List.replicate x.1 (-1 : Int)).map intR) true)]⟩) (fun x => m - x.1) (0, none) (by simp) (by simp) (fun x hi => Ent.refl ?_)
  obtain ⟨i, H⟩ := x
  simp only at hi ⊢
  by_cases hlt : i < m
  · simp [hlt]
    intro b7
    refine ⟨by omega, fun H' => Ent.refl ⟨i + 1, by omega, by omega, H', ?_⟩⟩
    simp
    exact ⟨i64_suc (by omega), rep_snoc i⟩
  have hm : i = m := by omega
  subst hm
  simp [e, Wld.res]
theorem specWorldNew_i (h : Hub) (hl : nHub h ≤ 2 ^ 30) (n : Int) : PureC Tryz.prog 35 [.agg h.row, .c (vi n)] (.tup [.agg (fWorldNew h n).1.res, .c (.v (.bool (fWorldNew h n).2)) 1]) := by
  refine PureC.intro' tt_ok Tryz.func35 (by kernel_rfl) rfl rfl rfl (Nat.le_of_ble_eq_true rfl) (fun w0 base => ?_)
  simp [Hub.row]
  intro b1 b2
  refine ACall.pure (specHubOk_c h hl) (by simp [Hub.row]) ?_
  by_cases c1 : hubOk h
  rotate_left
  · have e := fWorldNew_no (h := h) (n := n) (fun h => c1 h.1)
    simp [dc_neg c1, e, Wld.res, Wld.zero, Hub.zero]
  simp [c1]
  refine ACall.pure (l01In_c n 1 4) (by simp) ?_
  by_cases c2 : 1 ≤ n ∧ n ≤ 4
  rotate_left
  · have e := fWorldNew_no (h := h) (n := n) (fun h => c2 h.2)
    simp [dc_neg c2, e, Wld.res, Wld.zero, Hub.zero]
  have e := fWorldNew_yes (h := h) (n := n) ⟨c1, c2⟩
  obtain ⟨m, rfl⟩ : ∃ m : Nat, n = m := ⟨n.toNat, by omega⟩
  simp at e
  simp [c2]
  refine ACall.pure (l11Copy_c h hl) (by simp [Hub.row]) ?_
  simp [Hub.res]
  intro H1 H2 b6
  refine LoopT.introG eok (fun x : Nat × Hd => x.1 ≤ m) (fun x => ⟨30, 0, [(1, .v (.int .i64 m)), (4, .p 64 b2 0), (6, .p 96 b6 0)],
    [(96, .vars b6 71 [.v (.bool h.shut), .sl 273 H1 5 0 h.docs.length, .sl 274 H2 6 0 h.subs.length, .v (.int .i64 h.last), .sl 5000 x.2 1 0 x.1, .nil, .nil, .v (.int .i64 0)]),
     (64, .vars b2 71 [.v (.bool false), .nil, .nil, .v (.int .i64 0), .nil, .nil, .nil, .v (.int .i64 0)]),
     (273, .rows H1 5 (h.docs.map Doc.row) true), (274, .rows H2 6 (h.subs.map Sub.row) true), (5000, .rows x.2 1 ((List.replicate x.1 (-1 : Int)).map intR) true)]⟩) (fun x => m - x.1) (0, none) (by simp) (by simp) (fun x hi => Ent.refl ?_)
  obtain ⟨i, H⟩ := x
  simp only at hi ⊢
  by_cases hlt : i < m
  · simp [hlt]
    intro b7
    refine ⟨by omega, fun H' => Ent.refl ⟨i + 1, by omega, by omega, H', ?_⟩⟩
    simp
    exact rep_snoc i
  have hm : i = m := by omega
  subst hm
  simp [e, Wld.res]
theorem implWorldNew_c (h : Hub) (_ : h.fits) (hl : nHub h ≤ 2 ^ 20) (n : Int) (_ : i64r n) : PureC Tryz.prog 37 [.agg h.row, .c (vi n)] (.tup [.agg (fWorldNew h n).1.res, .c (.v (.bool (fWorldNew h n).2)) 1]) := implWorldNew_i h (by omega) n
theorem specWorldNew_c (h : Hub) (_ : h.fits) (hl : nHub h ≤ 2 ^ 20) (n : Int) (_ : i64r n) : PureC Tryz.prog 35 [.agg h.row, .c (vi n)] (.tup [.agg (fWorldNew h n).1.res, .c (.v (.bool (fWorldNew h n).2)) 1]) := specWorldNew_i h (by omega) n
end Go.Proofs.YtdfdabjdfmamgaaGreat

