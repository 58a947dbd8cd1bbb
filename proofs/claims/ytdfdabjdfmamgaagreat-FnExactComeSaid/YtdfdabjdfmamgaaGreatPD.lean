import Derived.Test.YtdfdabjdfmamgaaGreatPC
import Derived.Test.YtdfdabjdfmamgaaGreatPA
import Derived.Test.YtdfdabjdfmamgaaGreatNA
namespace Go.Proofs.YtdfdabjdfmamgaaGreat
open Go.AM
set_option maxRecDepth 20000
set_option maxHeartbeats 3200000

theorem implHubDoc_c (h : Hub) (hl : nHub h ≤ 2 ^ 40) (name : ByteArray) : PureC Tryz.prog 189 [.agg h.row, .c (.v (.string name))] (.one (.c (vi (docIdx h.docs name)) 1)) := by
  refine PureC.intro' tt_ok Tryz.func189 (by kernel_rfl) rfl rfl rfl (Nat.le_of_ble_eq_true rfl) (fun w0 base => ?_)
  obtain ⟨sh, l, subs, last⟩ := h
  unfold nHub at hl
  simp only at hl
  have hle := nL_len (f := nDoc) (B := 2 ^ 40) (l := l) (by omega)
  simp [Hub.row]
  intro b2 b3
  refine ACall.inline tt_ok Tryz.func271 (by kernel_rfl) rfl rfl rfl (Nat.le_of_ble_eq_true rfl) 20000 (fun w1 F => ?_)
  simp
  refine LoopT.intro eok (fun i : Nat => i ≤ l.length ∧ ∀ j, j < i → ∀ hj : j < l.length, ¬ l[j].name = name) (fun i => ⟨19, 20000, [(8, .v (.int .i64 i)), (7, .v (.int .i64 l.length)), (0, .ro (l.map Doc.row)), (1, .clo 272 [.p 48 b3 0])],
    [(48, .vars b3 9 [.v (.string name)])]⟩) (fun i => l.length - i) 0 (by simp) (by simp) (fun i hi => ?_)
  by_cases hlt : i < l.length
  · simp [hlt]
    refine ACall.inline tt_ok Tryz.func272 (by kernel_rfl) rfl rfl rfl (Nat.le_of_ble_eq_true rfl) 40000 (fun w2 F2 => ?_)
    simp [Doc.row]
    intro b
    by_cases c : l[i].name = name
    · have e : docIdx l name = i := fIdx_at hlt c hi.2
      simp [c, e]
    · simp [c]
      exact ⟨i + 1, ⟨by omega, fun j hj hjl => by
        by_cases hji : j = i
        · subst hji; exact c
        · exact hi.2 j (by omega) hjl⟩, by omega, i64_suc (by omega)⟩
  · have e : docIdx l name = -1 := fIdx_none (fun j hj => hi.2 j (by omega) hj)
    simp [hlt, e]
theorem specHubDoc_c (h : Hub) (hl : nHub h ≤ 2 ^ 40) (name : ByteArray) : PureC Tryz.prog 186 [.agg h.row, .c (.v (.string name))] (.one (.c (vi (docIdx h.docs name)) 1)) := by
  refine PureC.intro' tt_ok Tryz.func186 (by kernel_rfl) rfl rfl rfl (Nat.le_of_ble_eq_true rfl) (fun w0 base => ?_)
  obtain ⟨sh, l, subs, last⟩ := h
  unfold nHub at hl
  simp only at hl
  have hle := nL_len (f := nDoc) (B := 2 ^ 40) (l := l) (by omega)
  simp [Hub.row]
  intro b2
  refine LoopT.intro eok (fun i : Nat => i ≤ l.length ∧ ∀ j, j < i → ∀ hj : j < l.length, ¬ l[j].name = name) (fun i => ⟨21, 0, [(10, .v (.int .i64 i)), (9, .v (.int .i64 l.length)), (8, .ro (l.map Doc.row)), (1, .v (.string name))], []⟩) (fun i => l.length - i) 0 (by simp) (by simp) (fun i hi => ?_)
  by_cases hlt : i < l.length
  · simp [hlt, Doc.row]
    intro b
    by_cases c : l[i].name = name
    · have e : docIdx l name = i := fIdx_at hlt c hi.2
      simp [c, e]
    · simp [c]
      exact ⟨i + 1, ⟨by omega, fun j hj hjl => by
        by_cases hji : j = i
        · subst hji; exact c
        · exact hi.2 j (by omega) hjl⟩, by omega, i64_suc (by omega)⟩
  · have e : docIdx l name = -1 := fIdx_none (fun j hj => hi.2 j (by omega) hj)
    simp [hlt, e]
theorem implRingOk_c (r : Ring) (hl : nRing r ≤ 2 ^ 40) : PureC Tryz.prog 190 [.agg r.row] (.one (.c (vb (ringOk r)) 1)) := by
  refine PureC.intro' tt_ok Tryz.func190 (by kernel_rfl) rfl rfl rfl (Nat.le_of_ble_eq_true rfl) (fun w0 base => ?_)
  obtain ⟨cp, nx, out, l⟩ := r
  unfold nRing at hl
  simp only at hl
  have hle := nL_len hl
  simp [Ring.row]
  intro b1
  refine ACall.pure (within_c cp 1 6) (by simp) ?_
  by_cases c1 : 1 ≤ cp ∧ cp ≤ 6
  rotate_left
  · have h : ¬ ringOk ⟨cp, nx, out, l⟩ := fun h => c1 h.2.1
    simp [dc_neg c1, dc_neg h]
  simp [c1]
  refine ACall.pure (within_c nx 1 1000000000) (by simp) ?_
  by_cases c2 : 1 ≤ nx ∧ nx ≤ 1000000000
  rotate_left
  · have h : ¬ ringOk ⟨cp, nx, out, l⟩ := fun h => c2 h.2.2.1
    simp [dc_neg c2, dc_neg h]
  simp [c2]
  by_cases c3 : (l.length : Int) ≤ cp
  rotate_left
  · have h : ¬ ringOk ⟨cp, nx, out, l⟩ := fun h => c3 h.2.2.2.1
    have c3' : cp < (l.length : Int) := by omega
    simp [c3', dc_neg h]
  have c3' : ¬ cp < (l.length : Int) := by omega
  simp [c3']
  have hcase : out = false ∨ (out = true ∧ l = []) ∨ (out = true ∧ 0 < l.length) := by
    cases out with
    | false => exact .inl rfl
    | true =>
      cases l with
      | nil => exact .inr (.inl ⟨rfl, rfl⟩)
      | cons a l => exact .inr (.inr ⟨rfl, by simp⟩)
  rcases hcase with rfl | ⟨rfl, rfl⟩ | ⟨rfl, c4⟩
  · simp
    refine LoopT.intro eok (fun i : Nat => i ≤ l.length ∧ ∀ e ∈ l.take i, entryOk e) (fun i => ⟨44, 0, [(36, .v (.int .i64 i)), (35, .v (.int .i64 l.length)), (34, .ro (l.map Entry.row))], []⟩) (fun i => l.length - i) 0 (by simp) (by simp) (fun i hi => ?_)
    by_cases hlt : i < l.length
    · have hm := nL_at hl hlt
      simp [hlt, Entry.row]
      intro b4
      refine ACall.pure (implEntryOk_c l[i] (by omega)) (by simp [Entry.row]) ?_
      by_cases c5 : entryOk l[i]
      · simp [c5]
        exact ⟨i + 1, ⟨by omega, all_suc hlt hi.2 c5⟩, by omega, i64_suc (by omega)⟩
      · have h : ¬ ringOk ⟨cp, nx, false, l⟩ := fun h => c5 (h.1 _ (List.getElem_mem hlt))
        simp [dc_neg c5, dc_neg h]
    · have h : ringOk ⟨cp, nx, false, l⟩ := ⟨all_end (l := l) (by omega) hi.2, c1, c2, c3, by simp⟩
      simp [hlt, h]
  · have h : ringOk ⟨cp, nx, true, []⟩ := ⟨by simp, c1, c2, c3, by simp⟩
    simp
    refine LoopT.intro eok (fun i : Nat => i = 0) (fun i => ⟨44, 0, [(36, .v (.int .i64 0)), (35, .v (.int .i64 0)), (34, .ro ([] : List (List CD)))], []⟩) (fun i => 0) 0 (by simp) (by simp) (fun i hi => ?_)
    simp [h]
  · have h : ¬ ringOk ⟨cp, nx, true, l⟩ := fun h => h.2.2.2.2 ⟨rfl, c4⟩
    have c4' : 0 < (l.length : Int) := by omega
    simp [c4, dc_neg h]
theorem specRingOk_c (r : Ring) (hl : nRing r ≤ 2 ^ 40) : PureC Tryz.prog 187 [.agg r.row] (.one (.c (vb (ringOk r)) 1)) := by
  refine PureC.intro' tt_ok Tryz.func187 (by kernel_rfl) rfl rfl rfl (Nat.le_of_ble_eq_true rfl) (fun w0 base => ?_)
  obtain ⟨cp, nx, out, l⟩ := r
  unfold nRing at hl
  simp only at hl
  have hle := nL_len hl
  simp [Ring.row]
  intro b1
  refine LoopT.intro eok (fun i : Nat => i ≤ l.length ∧ ∀ e ∈ l.take i, entryOk e) (fun i => ⟨43, 0, [(8, .v (.int .i64 i)), (7, .v (.int .i64 l.length)), (6, .ro (l.map Entry.row)), (1, .p 16 b1 0)],
    [(16, .vars b1 220 [.v (.int .i64 cp), .v (.int .i64 nx), .v (.bool out), .ro (l.map Entry.row)])]⟩) (fun i => l.length - i) 0 (by simp) (by simp) (fun i hi => ?_)
  by_cases hlt : i < l.length
  · have hm := nL_at hl hlt
    simp [hlt, Entry.row]
    intro b4
    refine ACall.pure (specEntryOk_c l[i] (by omega)) (by simp [Entry.row]) ?_
    by_cases c5 : entryOk l[i]
    · simp [c5]
      exact ⟨i + 1, ⟨by omega, all_suc hlt hi.2 c5⟩, by omega, i64_suc (by omega)⟩
    · have h : ¬ ringOk ⟨cp, nx, out, l⟩ := fun h => c5 (h.1 _ (List.getElem_mem hlt))
      simp [dc_neg c5, dc_neg h]
  have c0 : ∀ e ∈ l, entryOk e := all_end (by omega) hi.2
  simp [hlt]
  refine ACall.pure (l01In_c cp 1 6) (by simp) ?_
  by_cases c1 : 1 ≤ cp ∧ cp ≤ 6
  rotate_left
  · have h : ¬ ringOk ⟨cp, nx, out, l⟩ := fun h => c1 h.2.1
    simp [dc_neg c1, dc_neg h]
  simp [c1]
  refine ACall.pure (l01In_c nx 1 1000000000) (by simp) ?_
  by_cases c2 : 1 ≤ nx ∧ nx ≤ 1000000000
  rotate_left
  · have h : ¬ ringOk ⟨cp, nx, out, l⟩ := fun h => c2 h.2.2.1
    simp [dc_neg c2, dc_neg h]
  simp [c2]
  by_cases c3 : (l.length : Int) ≤ cp
  rotate_left
  · have h : ¬ ringOk ⟨cp, nx, out, l⟩ := fun h => c3 h.2.2.2.1
    simp [c3, dc_neg h]
  simp [c3]
  cases out with
  | false =>
    have h : ringOk ⟨cp, nx, false, l⟩ := ⟨c0, c1, c2, c3, by simp⟩
    simp [h]
  | true =>
    by_cases c4 : (l.length : Int) = 0
    · have h : ringOk ⟨cp, nx, true, l⟩ := ⟨c0, c1, c2, c3, fun h => by have := h.2; simp only at this; omega⟩
      simp [c4, h]
    · have h : ¬ ringOk ⟨cp, nx, true, l⟩ := fun h => h.2.2.2.2 ⟨rfl, by simp only; omega⟩
      have c4' : ¬ l = [] := fun h => c4 (by rw [h]; rfl)
      simp [c4', dc_neg h]
end Go.Proofs.YtdfdabjdfmamgaaGreat

namespace Go.Proofs.YtdfdabjdfmamgaaGreat
open Go.AM
set_option maxRecDepth 20000
set_option maxHeartbeats 6400000

theorem hubOk_doc {h : Hub} (h0 : ∀ i, docAt h.docs i) {k : Nat} (hk : k < h.docs.length) : 0 ≤ headRev h.docs[k] ∧ headRev h.docs[k] ≤ 1000000000 := by
  have := docOk_head (h0 k hk).1
  omega
theorem docAt_zero {l : List Doc} {d : Doc} (h : 0 < l.length) (e : l[0] = d) (hd : docOk d) : docAt l 0 := fun _ => ⟨by rw [e]; exact hd, fun h => absurd h (by omega)⟩
theorem docAt_suc {l : List Doc} {d y : Doc} {k : Nat} (h : k + 1 < l.length) (e : l[k + 1] = d) (ey : l[k] = y) (hd : docOk d) (hs : sLt y.name d.name) : docAt l (k + 1) := fun _ => ⟨by rw [e]; exact hd, fun _ => by
  simp only [Nat.add_sub_cancel]; rw [e, ey]; exact hs⟩
theorem upto_suc {P : Nat → Prop} {i : Nat} (h : ∀ j, j < i → P j) (hi : P i) : ∀ j, j < i + 1 → P j := fun j hj => by
  by_cases e : j = i
  · subst e; exact hi
  · exact h j (by omega)
theorem implHubOk_c (h : Hub) (hl : nHub h ≤ 2 ^ 30) : PureC Tryz.prog 93 [.agg h.row] (.one (.c (vb (hubOk h)) 1)) := by
  refine PureC.intro' tt_ok Tryz.func93 (by kernel_rfl) rfl rfl rfl (Nat.le_of_ble_eq_true rfl) (fun w0 base => ?_)
  obtain ⟨sh, docs, subs, last⟩ := h
  have hl0 := hl
  unfold nHub at hl
  simp only at hl
  have hle := nL_len (f := nDoc) (B := 2 ^ 30) (l := docs) (by omega)
  have hls := nL_len (f := nSub) (B := 2 ^ 30) (l := subs) (by omega)
  simp [Hub.row]
  intro b1
  by_cases c1 : docs.length ≤ 5
  rotate_left
  · have c1' : 5 < (docs.length : Int) := by omega
    have h : ¬ hubOk ⟨sh, docs, subs, last⟩ := fun h => c1 h.1
    simp [c1', dc_neg h]
  have c1' : ¬ 5 < (docs.length : Int) := by omega
  by_cases c2 : subs.length ≤ 6
  rotate_left
  · have c2' : 6 < (subs.length : Int) := by omega
    have h : ¬ hubOk ⟨sh, docs, subs, last⟩ := fun h => c2 h.2.1
    simp [c1', c2', dc_neg h]
  have c2' : ¬ 6 < (subs.length : Int) := by omega
  simp [c1', c2']
  refine ACall.pure (within_c last 0 1000000000) (by simp) ?_
  by_cases c3 : 0 ≤ last ∧ last ≤ 1000000000
  rotate_left
  · have h : ¬ hubOk ⟨sh, docs, subs, last⟩ := fun h => c3 h.2.2.1
    simp [dc_neg c3, dc_neg h]
  simp [c3]
  refine LoopT.intro eok (fun i : Nat => i ≤ docs.length ∧ ∀ j, j < i → docAt docs j) (fun i => ⟨119, 0, [(27, .v (.int .i64 i)), (26, .v (.int .i64 docs.length)), (25, .ro (docs.map Doc.row)), (1, .p 16 b1 0)],
    [(16, .vars b1 45 [.v (.bool sh), .ro (docs.map Doc.row), .ro (subs.map Sub.row), .v (.int .i64 last)])]⟩) (fun i => docs.length - i) 0 (by simp) (by simp) (fun i hi => ?_)
  by_cases hlt : i < docs.length
  · have hm := nL_mem (f := nDoc) (B := 2 ^ 30) (l := docs) (by omega) (List.getElem_mem hlt)
    have hno : ¬ docAt docs i → ¬ hubOk ⟨sh, docs, subs, last⟩ := fun h h' => h (h'.2.2.2.1 i)
    obtain ⟨x, hx⟩ : ∃ x, docs[i] = x := ⟨_, rfl⟩
    rw [hx] at hm
    simp [hlt, hx, Doc.row]
    intro b4
    refine DrawT.quiet eok mix (by kernel_rfl) ?_
    simp
    refine ⟨_, _, implDocOk_c x (by omega), by simp [Doc.row], ?_⟩
    by_cases s1 : docOk x
    rotate_left
    · have h := hno (fun h => s1 (by have := (h hlt).1; rwa [hx] at this))
      simp [dc_neg s1, dc_neg h]
    simp [s1]
    cases i with
    | zero =>
      simp
      exact ⟨1, ⟨by omega, upto_suc hi.2 (docAt_zero hlt hx s1)⟩, by omega, i64_suc (n := 0) (by omega)⟩
    | succ k =>
      have ek : Go.IntKind.i64.wrap (k : Int) = k := i64_nat (by omega)
      have hk1 : k < docs.length := by omega
      have hk0 : (0 : Int) < (k : Int) + 1 := by omega
      obtain ⟨y, hy⟩ : ∃ y, docs[k] = y := ⟨_, rfl⟩
      simp [ek, hk0, hk1, hy, Doc.row]
      by_cases s4 : sLt y.name x.name
      rotate_left
      · have h := hno (fun h => s4 (by have := (h hlt).2 (by omega); rw [hx] at this; simp only [Nat.add_sub_cancel] at this; rwa [hy] at this))
        simp [dc_neg s4, dc_neg h]
      simp [s4]
      exact ⟨k + 2, ⟨by omega, upto_suc hi.2 (docAt_suc hlt hx hy s1 s4)⟩, by omega, by rw [Go.IntWalk.i64_in _ (by omega)]; omega⟩
  have c4 : ∀ i, docAt docs i := fun i => by
    by_cases h : i < docs.length
    · exact hi.2 i (by omega)
    · exact fun h' => absurd h' h
  simp [hlt]
  refine LoopT.intro eok (fun i : Nat => i ≤ subs.length ∧ ∀ j, j < i → subAt docs last subs j) (fun i => ⟨119, 0, [(55, .v (.int .i64 i)), (54, .v (.int .i64 subs.length)), (53, .ro (subs.map Sub.row)), (1, .p 16 b1 0)],
    [(16, .vars b1 45 [.v (.bool sh), .ro (docs.map Doc.row), .ro (subs.map Sub.row), .v (.int .i64 last)])]⟩) (fun i => subs.length - i) 0 (by simp) (by simp) (fun i hi => ?_)
  by_cases hlt : i < subs.length
  rotate_left
  · have h : hubOk ⟨sh, docs, subs, last⟩ := ⟨c1, c2, c3, c4, fun i => by
      by_cases h : i < subs.length
      · exact hi.2 i (by omega)
      · exact fun h' => absurd h' h⟩
    simp [hlt, h]
  have hm := nL_mem (f := nSub) (B := 2 ^ 30) (l := subs) (by omega) (List.getElem_mem hlt)
  have hno : ¬ subAt docs last subs i → ¬ hubOk ⟨sh, docs, subs, last⟩ := fun h h' => h (h'.2.2.2.2 i)
  obtain ⟨x, hx⟩ : ∃ x, subs[i] = x := ⟨_, rfl⟩
  rw [hx] at hm
  unfold nSub at hm
  have ew : Go.IntKind.i64.wrap ((i : Int) + 1) = ((i + 1 : Nat) : Int) := i64_suc (by omega)
  simp [hlt, hx, Sub.row]
  intro b6
  refine ACall.pure (implHubDoc_c ⟨sh, docs, subs, last⟩ (by omega) x.doc) (by simp [Hub.row]) ?_
  simp
  have noid : ¬ (1 ≤ x.id ∧ x.id ≤ last) → ¬ hubOk ⟨sh, docs, subs, last⟩ := fun s2 => hno (fun h => s2 (by have := (h hlt).1; rwa [hx] at this))
  have noring : ¬ ringOk x.r → ¬ hubOk ⟨sh, docs, subs, last⟩ := fun s2 => hno (fun h => s2 (by have := (h hlt).2.1; rwa [hx] at this))
  have nodoc : docIdx docs x.doc = -1 → ¬ hubOk ⟨sh, docs, subs, last⟩ := fun s2 => hno (fun h => by
    obtain ⟨k, hk, e, -⟩ := (h hlt).2.2.2
    rw [hx, s2] at e; omega)
  have noprev : ∀ _ : 0 < i, ¬ subs[i - 1].id < x.id → ¬ hubOk ⟨sh, docs, subs, last⟩ := fun h0 s2 => hno (fun h => s2 (by have := (h hlt).2.2.1 h0; rwa [hx] at this))
  have hix := fIdx_cases (fun d : Doc => d.name = x.doc) docs
  change (∃ k : Nat, ∃ h : k < docs.length, docIdx docs x.doc = k ∧ _) ∨ (docIdx docs x.doc = -1 ∧ _) at hix
  have norev : ∀ k : Nat, ∀ hk : k < docs.length, docIdx docs x.doc = k → x.r.out = false → ¬ x.r.next + x.r.list.length = headRev docs[k] + 1 → ¬ hubOk ⟨sh, docs, subs, last⟩ := fun k hk e ho s2 => hno (fun h => by
    obtain ⟨k', hk', e', h'⟩ := (h hlt).2.2.2
    simp only [hx] at e' h'
    have : k = k' := by omega
    subst this
    exact s2 (h' ho))
  have fin : ∀ (s1 : 1 ≤ x.id ∧ x.id ≤ last) (s2 : ringOk x.r) (s3 : ∀ _ : 0 < i, subs[i - 1].id < x.id) (k : Nat) (hk : k < docs.length) (e : docIdx docs x.doc = k) (s4 : x.r.out = false → x.r.next + x.r.list.length = headRev docs[k] + 1), ∀ j, j < i + 1 → subAt docs last subs j :=
    fun s1 s2 s3 k hk e s4 => upto_suc hi.2 (fun _ => by simp only [hx]; exact ⟨s1, s2, s3, k, hk, e, s4⟩)
  generalize docIdx docs x.doc = K at hix nodoc norev fin ⊢
  refine DrawT.quiet eok mix (by kernel_rfl) ?_
  simp
  refine ⟨_, _, within_c x.id 1 last, by simp, ?_⟩
  by_cases s1 : 1 ≤ x.id ∧ x.id ≤ last
  rotate_left
  · simp [dc_neg s1, dc_neg (noid s1)]
  simp [s1]
  cases i with
  | zero =>
    simp
    refine ⟨_, _, implRingOk_c x.r (by omega), by simp [Ring.row], ?_⟩
    by_cases s2 : ringOk x.r
    rotate_left
    · simp [dc_neg s2, dc_neg (noring s2)]
    simp [s2]
    rcases hix with ⟨k, hk, rfl, -⟩ | ⟨rfl, -⟩
    rotate_left
    · simp [dc_neg (nodoc rfl)]
    have hk0' : ¬ (k : Int) < 0 := by omega
    simp [hk0']
    have sn := s2.2.2.1
    have sl := s2.2.2.2.1
    have sc := s2.2.1
    have hr := hubOk_doc (h := ⟨sh, docs, subs, last⟩) c4 hk
    simp only at hr
    have e1 : Go.IntKind.i64.wrap (x.r.next + x.r.list.length) = x.r.next + x.r.list.length := Go.IntWalk.i64_in _ (by omega)
    have e2 : Go.IntKind.i64.wrap (headRev docs[k] + 1) = headRev docs[k] + 1 := Go.IntWalk.i64_in _ (by omega)
    refine DrawT.quiet eok mix (by kernel_rfl) ?_
    simp
    cases ho : x.r.out with
    | true =>
      have hf := fin s1 s2 (fun h => absurd h (by omega)) k hk rfl (fun h => absurd (ho.symm.trans h) (by simp))
      simp
      exact ⟨1, ⟨by omega, hf⟩, by omega, i64_suc (n := 0) (by omega)⟩
    | false =>
      simp [hk]
      refine ⟨_, _, implHeadRev_c docs[k], by simp [Doc.row], ?_⟩
      by_cases s4 : x.r.next + x.r.list.length = headRev docs[k] + 1
      · have hf := fin s1 s2 (fun h => absurd h (by omega)) k hk rfl (fun _ => s4)
        simp [e2, s4]
        exact ⟨1, ⟨by omega, hf⟩, by omega, i64_suc (n := 0) (by omega)⟩
      · simp [e1, e2, s4, dc_neg (norev k hk rfl ho s4)]
  | succ m =>
    have hk1 : m < subs.length := by omega
    have ek : Go.IntKind.i64.wrap (m : Int) = m := i64_nat (by omega)
    have hm0 : (0 : Int) < (m : Int) + 1 := by omega
    obtain ⟨y, hy⟩ : ∃ y, subs[m] = y := ⟨_, rfl⟩
    simp [ek, hm0, hk1, hy, Sub.row]
    by_cases s3 : y.id < x.id
    rotate_left
    · have s3' : x.id ≤ y.id := by omega
      simp [s3', dc_neg (noprev (by omega) (by simp only [Nat.add_sub_cancel]; rwa [hy]))]
    have s3' : ¬ x.id ≤ y.id := by omega
    have hp : ∀ _ : 0 < m + 1, subs[m + 1 - 1].id < x.id := fun _ => by simp only [Nat.add_sub_cancel]; rwa [hy]
    simp [s3']
    refine ⟨_, _, implRingOk_c x.r (by omega), by simp [Ring.row], ?_⟩
    by_cases s2 : ringOk x.r
    rotate_left
    · simp [dc_neg s2, dc_neg (noring s2)]
    simp [s2]
    rcases hix with ⟨k, hk, rfl, -⟩ | ⟨rfl, -⟩
    rotate_left
    · simp [dc_neg (nodoc rfl)]
    have hk0' : ¬ (k : Int) < 0 := by omega
    simp [hk0']
    have sn := s2.2.2.1
    have sl := s2.2.2.2.1
    have sc := s2.2.1
    have hr := hubOk_doc (h := ⟨sh, docs, subs, last⟩) c4 hk
    simp only at hr
    have e1 : Go.IntKind.i64.wrap (x.r.next + x.r.list.length) = x.r.next + x.r.list.length := Go.IntWalk.i64_in _ (by omega)
    have e2 : Go.IntKind.i64.wrap (headRev docs[k] + 1) = headRev docs[k] + 1 := Go.IntWalk.i64_in _ (by omega)
    refine DrawT.quiet eok mix (by kernel_rfl) ?_
    simp
    cases ho : x.r.out with
    | true =>
      have hf := fin s1 s2 hp k hk rfl (fun h => absurd (ho.symm.trans h) (by simp))
      simp
      exact ⟨m + 2, ⟨by omega, hf⟩, by omega, by rw [Go.IntWalk.i64_in _ (by omega)]; omega⟩
    | false =>
      simp [hk]
      refine ⟨_, _, implHeadRev_c docs[k], by simp [Doc.row], ?_⟩
      by_cases s4 : x.r.next + x.r.list.length = headRev docs[k] + 1
      · have hf := fin s1 s2 hp k hk rfl (fun _ => s4)
        simp [e2, s4]
        exact ⟨m + 2, ⟨by omega, hf⟩, by omega, by rw [Go.IntWalk.i64_in _ (by omega)]; omega⟩
      · simp [e1, e2, s4, dc_neg (norev k hk rfl ho s4)]
theorem specHubOk_c (h : Hub) (hl : nHub h ≤ 2 ^ 30) : PureC Tryz.prog 91 [.agg h.row] (.one (.c (vb (hubOk h)) 1)) := by
  refine PureC.intro' tt_ok Tryz.func91 (by kernel_rfl) rfl rfl rfl (Nat.le_of_ble_eq_true rfl) (fun w0 base => ?_)
  obtain ⟨sh, docs, subs, last⟩ := h
  have hl0 := hl
  unfold nHub at hl
  simp only at hl
  have hle := nL_len (f := nDoc) (B := 2 ^ 30) (l := docs) (by omega)
  have hls := nL_len (f := nSub) (B := 2 ^ 30) (l := subs) (by omega)
  simp [Hub.row]
  intro b1
  by_cases c1 : docs.length ≤ 5
  rotate_left
  · have c1' : 5 < (docs.length : Int) := by omega
    have h : ¬ hubOk ⟨sh, docs, subs, last⟩ := fun h => c1 h.1
    simp [c1', dc_neg h]
  have c1' : ¬ 5 < (docs.length : Int) := by omega
  by_cases c2 : subs.length ≤ 6
  rotate_left
  · have c2' : 6 < (subs.length : Int) := by omega
    have h : ¬ hubOk ⟨sh, docs, subs, last⟩ := fun h => c2 h.2.1
    simp [c1', c2', dc_neg h]
  have c2' : ¬ 6 < (subs.length : Int) := by omega
  simp [c1', c2']
  refine ACall.pure (l01In_c last 0 1000000000) (by simp) ?_
  by_cases c3 : 0 ≤ last ∧ last ≤ 1000000000
  rotate_left
  · have h : ¬ hubOk ⟨sh, docs, subs, last⟩ := fun h => c3 h.2.2.1
    simp [dc_neg c3, dc_neg h]
  simp [c3]
  refine LoopT.intro eok (fun i : Nat => i ≤ docs.length ∧ ∀ j, j < i → docAt docs j) (fun i => ⟨119, 0, [(27, .v (.int .i64 i)), (26, .v (.int .i64 docs.length)), (25, .ro (docs.map Doc.row)), (1, .p 16 b1 0)],
    [(16, .vars b1 45 [.v (.bool sh), .ro (docs.map Doc.row), .ro (subs.map Sub.row), .v (.int .i64 last)])]⟩) (fun i => docs.length - i) 0 (by simp) (by simp) (fun i hi => ?_)
  by_cases hlt : i < docs.length
  · have hm := nL_mem (f := nDoc) (B := 2 ^ 30) (l := docs) (by omega) (List.getElem_mem hlt)
    have hno : ¬ docAt docs i → ¬ hubOk ⟨sh, docs, subs, last⟩ := fun h h' => h (h'.2.2.2.1 i)
    obtain ⟨x, hx⟩ : ∃ x, docs[i] = x := ⟨_, rfl⟩
    rw [hx] at hm
    simp [hlt, hx, Doc.row]
    intro b4
    refine DrawT.quiet eok mix (by kernel_rfl) ?_
    simp
    refine ⟨_, _, specDocOk_c x (by omega), by simp [Doc.row], ?_⟩
    by_cases s1 : docOk x
    rotate_left
    · have h := hno (fun h => s1 (by have := (h hlt).1; rwa [hx] at this))
      simp [dc_neg s1, dc_neg h]
    simp [s1]
    cases i with
    | zero =>
      simp
      exact ⟨1, ⟨by omega, upto_suc hi.2 (docAt_zero hlt hx s1)⟩, by omega, i64_suc (n := 0) (by omega)⟩
    | succ k =>
      have ek : Go.IntKind.i64.wrap (k : Int) = k := i64_nat (by omega)
      have hk1 : k < docs.length := by omega
      have hk0 : (0 : Int) < (k : Int) + 1 := by omega
      obtain ⟨y, hy⟩ : ∃ y, docs[k] = y := ⟨_, rfl⟩
      simp [ek, hk0, hk1, hy, Doc.row]
      by_cases s4 : sLt y.name x.name
      rotate_left
      · have h := hno (fun h => s4 (by have := (h hlt).2 (by omega); rw [hx] at this; simp only [Nat.add_sub_cancel] at this; rwa [hy] at this))
        simp [dc_neg s4, dc_neg h]
      simp [s4]
      exact ⟨k + 2, ⟨by omega, upto_suc hi.2 (docAt_suc hlt hx hy s1 s4)⟩, by omega, by rw [Go.IntWalk.i64_in _ (by omega)]; omega⟩
  have c4 : ∀ i, docAt docs i := fun i => by
    by_cases h : i < docs.length
    · exact hi.2 i (by omega)
    · exact fun h' => absurd h' h
  simp [hlt]
  refine LoopT.intro eok (fun i : Nat => i ≤ subs.length ∧ ∀ j, j < i → subAt docs last subs j) (fun i => ⟨119, 0, [(55, .v (.int .i64 i)), (54, .v (.int .i64 subs.length)), (53, .ro (subs.map Sub.row)), (1, .p 16 b1 0)],
    [(16, .vars b1 45 [.v (.bool sh), .ro (docs.map Doc.row), .ro (subs.map Sub.row), .v (.int .i64 last)])]⟩) (fun i => subs.length - i) 0 (by simp) (by simp) (fun i hi => ?_)
  by_cases hlt : i < subs.length
  rotate_left
  · have h : hubOk ⟨sh, docs, subs, last⟩ := ⟨c1, c2, c3, c4, fun i => by
      by_cases h : i < subs.length
      · exact hi.2 i (by omega)
      · exact fun h' => absurd h' h⟩
    simp [hlt, h]
  have hm := nL_mem (f := nSub) (B := 2 ^ 30) (l := subs) (by omega) (List.getElem_mem hlt)
  have hno : ¬ subAt docs last subs i → ¬ hubOk ⟨sh, docs, subs, last⟩ := fun h h' => h (h'.2.2.2.2 i)
  obtain ⟨x, hx⟩ : ∃ x, subs[i] = x := ⟨_, rfl⟩
  rw [hx] at hm
  unfold nSub at hm
  have ew : Go.IntKind.i64.wrap ((i : Int) + 1) = ((i + 1 : Nat) : Int) := i64_suc (by omega)
  simp [hlt, hx, Sub.row]
  intro b6
  refine ACall.pure (specHubDoc_c ⟨sh, docs, subs, last⟩ (by omega) x.doc) (by simp [Hub.row]) ?_
  simp
  have noid : ¬ (1 ≤ x.id ∧ x.id ≤ last) → ¬ hubOk ⟨sh, docs, subs, last⟩ := fun s2 => hno (fun h => s2 (by have := (h hlt).1; rwa [hx] at this))
  have noring : ¬ ringOk x.r → ¬ hubOk ⟨sh, docs, subs, last⟩ := fun s2 => hno (fun h => s2 (by have := (h hlt).2.1; rwa [hx] at this))
  have nodoc : docIdx docs x.doc = -1 → ¬ hubOk ⟨sh, docs, subs, last⟩ := fun s2 => hno (fun h => by
    obtain ⟨k, hk, e, -⟩ := (h hlt).2.2.2
    rw [hx, s2] at e; omega)
  have noprev : ∀ _ : 0 < i, ¬ subs[i - 1].id < x.id → ¬ hubOk ⟨sh, docs, subs, last⟩ := fun h0 s2 => hno (fun h => s2 (by have := (h hlt).2.2.1 h0; rwa [hx] at this))
  have hix := fIdx_cases (fun d : Doc => d.name = x.doc) docs
  change (∃ k : Nat, ∃ h : k < docs.length, docIdx docs x.doc = k ∧ _) ∨ (docIdx docs x.doc = -1 ∧ _) at hix
  have norev : ∀ k : Nat, ∀ hk : k < docs.length, docIdx docs x.doc = k → x.r.out = false → ¬ x.r.next + x.r.list.length = headRev docs[k] + 1 → ¬ hubOk ⟨sh, docs, subs, last⟩ := fun k hk e ho s2 => hno (fun h => by
    obtain ⟨k', hk', e', h'⟩ := (h hlt).2.2.2
    simp only [hx] at e' h'
    have : k = k' := by omega
    subst this
    exact s2 (h' ho))
  have fin : ∀ (s1 : 1 ≤ x.id ∧ x.id ≤ last) (s2 : ringOk x.r) (s3 : ∀ _ : 0 < i, subs[i - 1].id < x.id) (k : Nat) (hk : k < docs.length) (e : docIdx docs x.doc = k) (s4 : x.r.out = false → x.r.next + x.r.list.length = headRev docs[k] + 1), ∀ j, j < i + 1 → subAt docs last subs j :=
    fun s1 s2 s3 k hk e s4 => upto_suc hi.2 (fun _ => by simp only [hx]; exact ⟨s1, s2, s3, k, hk, e, s4⟩)
  generalize docIdx docs x.doc = K at hix nodoc norev fin ⊢
  refine DrawT.quiet eok mix (by kernel_rfl) ?_
  simp
  refine ⟨_, _, l01In_c x.id 1 last, by simp, ?_⟩
  by_cases s1 : 1 ≤ x.id ∧ x.id ≤ last
  rotate_left
  · simp [dc_neg s1, dc_neg (noid s1)]
  simp [s1]
  refine ⟨_, _, specRingOk_c x.r (by omega), by simp [Ring.row], ?_⟩
  by_cases s2 : ringOk x.r
  rotate_left
  · simp [dc_neg s2, dc_neg (noring s2)]
  simp [s2]
  rcases hix with ⟨k, hk, rfl, -⟩ | ⟨rfl, -⟩
  rotate_left
  · simp [dc_neg (nodoc rfl)]
  have hk0' : ¬ (k : Int) < 0 := by omega
  simp [hk0']
  cases i with
  | zero =>
    simp
    have sn := s2.2.2.1
    have sl := s2.2.2.2.1
    have sc := s2.2.1
    have hr := hubOk_doc (h := ⟨sh, docs, subs, last⟩) c4 hk
    simp only at hr
    have e1 : Go.IntKind.i64.wrap (x.r.next + x.r.list.length) = x.r.next + x.r.list.length := Go.IntWalk.i64_in _ (by omega)
    have e2 : Go.IntKind.i64.wrap (headRev docs[k] + 1) = headRev docs[k] + 1 := Go.IntWalk.i64_in _ (by omega)
    refine DrawT.quiet eok mix (by kernel_rfl) ?_
    simp
    cases ho : x.r.out with
    | true =>
      have hf := fin s1 s2 (fun h => absurd h (by omega)) k hk rfl (fun h => absurd (ho.symm.trans h) (by simp))
      simp
      exact ⟨1, ⟨by omega, hf⟩, by omega, i64_suc (n := 0) (by omega)⟩
    | false =>
      simp [hk]
      refine ⟨_, _, specHeadRev_c docs[k], by simp [Doc.row], ?_⟩
      by_cases s4 : x.r.next + x.r.list.length = headRev docs[k] + 1
      · have hf := fin s1 s2 (fun h => absurd h (by omega)) k hk rfl (fun _ => s4)
        simp [e2, s4]
        exact ⟨1, ⟨by omega, hf⟩, by omega, i64_suc (n := 0) (by omega)⟩
      · simp [e1, e2, s4, dc_neg (norev k hk rfl ho s4)]
  | succ m =>
    have hk1 : m < subs.length := by omega
    have ek : Go.IntKind.i64.wrap (m : Int) = m := i64_nat (by omega)
    have hm0 : (0 : Int) < (m : Int) + 1 := by omega
    obtain ⟨y, hy⟩ : ∃ y, subs[m] = y := ⟨_, rfl⟩
    simp [ek, hm0, hk1, hy, Sub.row]
    by_cases s3 : y.id < x.id
    rotate_left
    · have s3' : x.id ≤ y.id := by omega
      simp [s3', dc_neg (noprev (by omega) (by simp only [Nat.add_sub_cancel]; rwa [hy]))]
    have s3' : ¬ x.id ≤ y.id := by omega
    have hp : ∀ _ : 0 < m + 1, subs[m + 1 - 1].id < x.id := fun _ => by simp only [Nat.add_sub_cancel]; rwa [hy]
    simp [s3']
    have sn := s2.2.2.1
    have sl := s2.2.2.2.1
    have sc := s2.2.1
    have hr := hubOk_doc (h := ⟨sh, docs, subs, last⟩) c4 hk
    simp only at hr
    have e1 : Go.IntKind.i64.wrap (x.r.next + x.r.list.length) = x.r.next + x.r.list.length := Go.IntWalk.i64_in _ (by omega)
    have e2 : Go.IntKind.i64.wrap (headRev docs[k] + 1) = headRev docs[k] + 1 := Go.IntWalk.i64_in _ (by omega)
    refine DrawT.quiet eok mix (by kernel_rfl) ?_
    simp
    cases ho : x.r.out with
    | true =>
      have hf := fin s1 s2 hp k hk rfl (fun h => absurd (ho.symm.trans h) (by simp))
      simp
      exact ⟨m + 2, ⟨by omega, hf⟩, by omega, by rw [Go.IntWalk.i64_in _ (by omega)]; omega⟩
    | false =>
      simp [hk]
      refine ⟨_, _, specHeadRev_c docs[k], by simp [Doc.row], ?_⟩
      by_cases s4 : x.r.next + x.r.list.length = headRev docs[k] + 1
      · have hf := fin s1 s2 hp k hk rfl (fun _ => s4)
        simp [e2, s4]
        exact ⟨m + 2, ⟨by omega, hf⟩, by omega, by rw [Go.IntWalk.i64_in _ (by omega)]; omega⟩
      · simp [e1, e2, s4, dc_neg (norev k hk rfl ho s4)]
end Go.Proofs.YtdfdabjdfmamgaaGreat

namespace Go.Proofs.YtdfdabjdfmamgaaGreat
open Go.AM
set_option maxRecDepth 20000
set_option maxHeartbeats 3200000

theorem copyRing_c (r : Ring) (hl : nRing r ≤ 2 ^ 30) : PureC Tryz.prog 209 [.agg r.row] (.one (.agg r.res)) := by
  refine PureC.intro' tt_ok Tryz.func209 (by kernel_rfl) rfl rfl rfl (Nat.le_of_ble_eq_true rfl) (fun w0 base => ?_)
  unfold nRing at hl
  simp [Ring.row]
  intro b1 b2
  refine ACall.pure (copyEntries_c r.list hl) (by simp) ?_
  simp [Ring.res]
theorem l10Copy_c (r : Ring) (hl : nRing r ≤ 2 ^ 30) : PureC Tryz.prog 283 [.agg r.row] (.one (.agg r.res)) := by
  refine PureC.intro' tt_ok Tryz.func283 (by kernel_rfl) rfl rfl rfl (Nat.le_of_ble_eq_true rfl) (fun w0 base => ?_)
  unfold nRing at hl
  simp [Ring.row]
  intro b1 b2
  refine DrawT.introS eok mix [0, 1, 2, 3, 4, 5, 6, 7] [8, 9, 10] (.child 8 [true, false, false, false, false, false, false, false] [false, true, true, true, true, true, true, true] (.child 9 [false, false, true, false, true, false, true, false] [false, true, false, true, false, true, false, true] (.child 10 [false, true, false, true, false, true, false, true] [false, false, false, false, false, false, false, false] (.leaf [false, false, false, false, false, false, false, false]) .stop) .stop) .stop) (by kernel_rfl) ?_
  simp
  try intros
  refine ACall.pure (l08Entries_c r.list hl) (by simp) ?_
  simp
  try intros
  simp [Ring.res]
theorem l11Sub_c (s : Sub) (hl : nSub s ≤ 2 ^ 30) : PureC Tryz.prog 206 [.agg s.row] (.one (.agg s.res)) := by
  refine PureC.intro' tt_ok Tryz.func206 (by kernel_rfl) rfl rfl rfl (Nat.le_of_ble_eq_true rfl) (fun w0 base => ?_)
  unfold nSub at hl
  simp [Sub.row]
  intro b1 b2
  refine DrawT.introS eok mix [0, 1, 2, 3, 4, 5] [6, 7, 8] (.child 6 [true, false, false, false, false, false] [false, true, true, true, true, true] (.child 7 [false, false, true, false, true, false] [false, true, false, true, false, true] (.child 8 [false, true, false, true, false, true] [false, false, false, false, false, false] (.leaf [false, false, false, false, false, false]) .stop) .stop) .stop) (by kernel_rfl) ?_
  simp
  try intros
  refine ACall.pure (l10Copy_c s.r (by omega)) (by simp [Ring.row]) ?_
  simp [Ring.res]
  try intros
  simp [Sub.res]
theorem copyHub_c (h : Hub) (hl : nHub h ≤ 2 ^ 30) : PureC Tryz.prog 118 [.agg h.row] (.one (.agg h.res)) := by
  refine PureC.intro' tt_ok Tryz.func118 (by kernel_rfl) rfl rfl rfl (Nat.le_of_ble_eq_true rfl) (fun w0 base => ?_)
  obtain ⟨sh, docs, subs, last⟩ := h
  unfold nHub at hl
  simp only at hl
  have hle := nL_len (f := nDoc) (B := 2 ^ 30) (l := docs) (by omega)
  have hls := nL_len (f := nSub) (B := 2 ^ 30) (l := subs) (by omega)
  simp [Hub.row]
  intro b1 b2 b3
  refine LoopT.introG eok (fun x : Nat × Hd => x.1 ≤ docs.length) (fun x => ⟨47, 0, [(16, .v (.int .i64 x.1)), (15, .v (.int .i64 docs.length)), (14, .ro (docs.map Doc.row)), (1, .p 16 b1 0), (2, .p 32 b2 0), (3, .p 48 b3 0)],
    [(48, .vars b3 45 [.v (.bool sh), .sl 5000 x.2 5 0 x.1, .nil, .v (.int .i64 last)]), (32, .vars b2 45 [.v (.bool false), .nil, .nil, .v (.int .i64 0)]),
     (16, .vars b1 45 [.v (.bool sh), .ro (docs.map Doc.row), .ro (subs.map Sub.row), .v (.int .i64 last)]), (5000, .rows x.2 5 ((docs.take x.1).map Doc.row) true)]⟩) (fun x => docs.length - x.1) (0, none) (by simp) (by simp) (fun x hi => Ent.refl ?_)
  obtain ⟨i, H⟩ := x
  simp only at hi ⊢
  by_cases hlt : i < docs.length
  · have hm := nL_mem (f := nDoc) (B := 2 ^ 30) (l := docs) (by omega) (List.getElem_mem hlt)
    have e1 : min i docs.length = i := by omega
    simp [hlt, Doc.row]
    intro b5
    refine DrawT.introS eok mix [0, 1, 2, 6] [3, 4, 5, 7] (.child 3 [false, true, false, false] [true, false, true, true] (.child 4 [false, false, false, false] [true, false, true, true] (.child 5 [false, false, true, false] [true, false, false, true] (.child 7 [true, false, false, true] [false, false, false, false] (.leaf [false, false, false, false]) .stop) .stop) .stop) .stop) (by kernel_rfl) ?_
    simp
    try intros
    refine ACall.pure (copyDoc_c docs[i] hm) (by simp [Doc.row]) ?_
    simp [Doc.res]
    try intros
    simp [e1]
    refine ⟨by omega, fun H' => Ent.refl ⟨i + 1, by omega, by omega, H', ?_⟩⟩
    simp
    exact ⟨i64_suc (by omega), take_snoc (f := Doc.row) hlt⟩
  have hm : i = docs.length := by omega
  subst hm
  simp
  refine LoopT.introG eok (fun x : Nat × Hd => x.1 ≤ subs.length) (fun x => ⟨47, 0, [(31, .v (.int .i64 x.1)), (30, .v (.int .i64 subs.length)), (29, .ro (subs.map Sub.row)), (2, .p 32 b2 0), (3, .p 48 b3 0)],
    [(48, .vars b3 45 [.v (.bool sh), .sl 5000 H 5 0 docs.length, .sl 5001 x.2 6 0 x.1, .v (.int .i64 last)]), (32, .vars b2 45 [.v (.bool false), .nil, .nil, .v (.int .i64 0)]),
     (5000, .rows H 5 (docs.map Doc.row) true), (5001, .rows x.2 6 ((subs.take x.1).map Sub.row) true)]⟩) (fun x => subs.length - x.1) (0, none) (by simp) (by simp) (fun x hi => Ent.refl ?_)
  obtain ⟨i, H'⟩ := x
  simp only at hi ⊢
  by_cases hlt : i < subs.length
  · have hm := nL_mem (f := nSub) (B := 2 ^ 30) (l := subs) (by omega) (List.getElem_mem hlt)
    unfold nSub at hm
    have e1 : min i subs.length = i := by omega
    simp [hlt, Sub.row]
    intro b7
    refine ACall.pure (copyRing_c subs[i].r (by omega)) (by simp [Ring.row]) ?_
    simp [Ring.res]
    intro H7
    simp [e1]
    intro b8
    refine ⟨by omega, fun H'' => Ent.refl ⟨i + 1, by omega, by omega, H'', ?_⟩⟩
    simp
    exact ⟨i64_suc (by omega), take_snoc (f := Sub.row) hlt⟩
  have hm : i = subs.length := by omega
  subst hm
  simp [Hub.res]
theorem l11Copy_c (h : Hub) (hl : nHub h ≤ 2 ^ 30) : PureC Tryz.prog 115 [.agg h.row] (.one (.agg h.res)) := by
  refine PureC.intro' tt_ok Tryz.func115 (by kernel_rfl) rfl rfl rfl (Nat.le_of_ble_eq_true rfl) (fun w0 base => ?_)
  obtain ⟨sh, docs, subs, last⟩ := h
  unfold nHub at hl
  simp only at hl
  have hle := nL_len (f := nDoc) (B := 2 ^ 30) (l := docs) (by omega)
  have hls := nL_len (f := nSub) (B := 2 ^ 30) (l := subs) (by omega)
  simp [Hub.row]
  intro b1 b2 b3
  refine LoopT.introG eok (fun x : Nat × Hd => x.1 ≤ docs.length) (fun x => ⟨44, 0, [(16, .v (.int .i64 x.1)), (15, .v (.int .i64 docs.length)), (14, .ro (docs.map Doc.row)), (1, .p 16 b1 0), (2, .p 32 b2 0), (3, .p 48 b3 0)],
    [(48, .vars b3 45 [.v (.bool sh), .sl 5000 x.2 5 0 x.1, .nil, .v (.int .i64 last)]), (32, .vars b2 45 [.v (.bool false), .nil, .nil, .v (.int .i64 0)]),
     (16, .vars b1 45 [.v (.bool sh), .ro (docs.map Doc.row), .ro (subs.map Sub.row), .v (.int .i64 last)]), (5000, .rows x.2 5 ((docs.take x.1).map Doc.row) true)]⟩) (fun x => docs.length - x.1) (0, none) (by simp) (by simp) (fun x hi => Ent.refl ?_)
  obtain ⟨i, H⟩ := x
  simp only at hi ⊢
  by_cases hlt : i < docs.length
  · have hm := nL_mem (f := nDoc) (B := 2 ^ 30) (l := docs) (by omega) (List.getElem_mem hlt)
    have e1 : min i docs.length = i := by omega
    simp [hlt, Doc.row]
    intro b5
    refine DrawT.introS eok mix [0, 1, 2, 6] [3, 4, 5, 7] (.child 3 [false, true, false, false] [true, false, true, true] (.child 4 [false, false, false, false] [true, false, true, true] (.child 5 [false, false, true, false] [true, false, false, true] (.child 7 [true, false, false, true] [false, false, false, false] (.leaf [false, false, false, false]) .stop) .stop) .stop) .stop) (by kernel_rfl) ?_
    simp
    try intros
    refine ACall.pure (l08Copy_c docs[i] hm) (by simp [Doc.row]) ?_
    simp [Doc.res]
    try intros
    simp [e1]
    refine ⟨by omega, fun H' => Ent.refl ⟨i + 1, by omega, by omega, H', ?_⟩⟩
    simp
    exact ⟨i64_suc (by omega), take_snoc (f := Doc.row) hlt⟩
  have hm : i = docs.length := by omega
  subst hm
  simp
  refine LoopT.introG eok (fun x : Nat × Hd => x.1 ≤ subs.length) (fun x => ⟨44, 0, [(31, .v (.int .i64 x.1)), (30, .v (.int .i64 subs.length)), (29, .ro (subs.map Sub.row)), (2, .p 32 b2 0), (3, .p 48 b3 0)],
    [(48, .vars b3 45 [.v (.bool sh), .sl 5000 H 5 0 docs.length, .sl 5001 x.2 6 0 x.1, .v (.int .i64 last)]), (32, .vars b2 45 [.v (.bool false), .nil, .nil, .v (.int .i64 0)]),
     (5000, .rows H 5 (docs.map Doc.row) true), (5001, .rows x.2 6 ((subs.take x.1).map Sub.row) true)]⟩) (fun x => subs.length - x.1) (0, none) (by simp) (by simp) (fun x hi => Ent.refl ?_)
  obtain ⟨i, H'⟩ := x
  simp only at hi ⊢
  by_cases hlt : i < subs.length
  · have hm := nL_mem (f := nSub) (B := 2 ^ 30) (l := subs) (by omega) (List.getElem_mem hlt)
    have e1 : min i subs.length = i := by omega
    simp [hlt, Sub.row]
    intro b7
    refine DrawT.introS eok mix [0, 1, 2, 6] [3, 4, 5, 7] (.child 3 [false, true, false, false] [true, false, true, true] (.child 4 [false, false, false, false] [true, false, true, true] (.child 5 [false, false, true, false] [true, false, false, true] (.child 7 [true, false, false, true] [false, false, false, false] (.leaf [false, false, false, false]) .stop) .stop) .stop) .stop) (by kernel_rfl) ?_
    simp
    try intros
    refine ACall.pure (l11Sub_c subs[i] hm) (by simp [Sub.row]) ?_
    simp [Sub.res]
    try intros
    simp [e1]
    refine ⟨by omega, fun H'' => Ent.refl ⟨i + 1, by omega, by omega, H'', ?_⟩⟩
    simp
    exact ⟨i64_suc (by omega), take_snoc (f := Sub.row) hlt⟩
  have hm : i = subs.length := by omega
  subst hm
  simp [Hub.res]
end Go.Proofs.YtdfdabjdfmamgaaGreat

namespace Go.Proofs.YtdfdabjdfmamgaaGreat
open Go.AM
set_option maxRecDepth 20000
set_option maxHeartbeats 1600000

theorem specEntrySame_c (p q : Entry) (hl : nEntry p ≤ 2 ^ 40) : PureC Tryz.prog 274 [.agg p.row, .agg q.row] (.one (.c (vb (p = q)) 1)) := by
  refine PureC.intro' tt_ok Tryz.func274 (by kernel_rfl) rfl rfl rfl (Nat.le_of_ble_eq_true rfl) (fun w0 base => ?_)
  obtain ⟨k1, n1, s1⟩ := p
  obtain ⟨k2, n2, s2⟩ := q
  simp [Entry.row]
  intro b1 b2
  by_cases h1 : k1 = k2
  · by_cases h2 : n1 = n2
    · simp [h1, h2]
      refine ACall.pure (specOpSame_c' s1 s2 hl) (by simp) ?_
      simp
    · simp [h1, h2]
  · simp [h1]

theorem implEntrySame_c (p q : Entry) (hl : nEntry p ≤ 2 ^ 40) : PureC Tryz.prog 278 [.agg p.row, .agg q.row] (.one (.c (vb (p = q)) 1)) := by
  refine PureC.intro' tt_ok Tryz.func278 (by kernel_rfl) rfl rfl rfl (Nat.le_of_ble_eq_true rfl) (fun w0 base => ?_)
  obtain ⟨k1, n1, s1⟩ := p
  obtain ⟨k2, n2, s2⟩ := q
  simp [Entry.row]
  intro b1 b2
  by_cases h1 : k1 = k2
  · by_cases h2 : n1 = n2
    · simp [h1, h2]
      refine ACall.pure (implOpSame_c s1 s2 hl) (by simp) ?_
      simp
    · simp [h1, h2]
  · simp [h1]

theorem equalFuncEntry_c (a b : List Entry) (hs : nL nEntry a ≤ 2 ^ 40) : PureC Tryz.prog 277 [.c (.s (a.map Entry.row)), .c (.s (b.map Entry.row)), .c (.v (.func (.func 278) #[] #[]))] (.one (.c (vb (a = b)) 1)) := by
  have hl := nL_len hs
  refine PureC.intro' tt_ok Tryz.func277 (by kernel_rfl) rfl rfl rfl (Nat.le_of_ble_eq_true rfl) (fun w0 base => ?_)
  by_cases h : a.length = b.length
  · simp [h]
    refine LoopT.intro eok (fun i : Nat => i ≤ a.length ∧ a.take i = b.take i) (fun i => ⟨32, 0, [(17, .v (.int .i64 i)), (16, .v (.int .i64 b.length)), (15, .ro (a.map Entry.row)), (2, .v (.func (.func 278) #[] #[])), (1, .ro (b.map Entry.row))], []⟩) (fun i => a.length - i) 0 (by simp) (by simp) (fun i hi => ?_)
    by_cases hlt : i < a.length
    · have hlt' : i < b.length := by omega
      simp [hlt, hlt', Entry.row]
      intro b1 b2
      refine ACall.pure (implEntrySame_c a[i] b[i] (nL_mem hs (List.getElem_mem hlt))) (by simp [Entry.row]) ?_
      simp
      refine Br.mk (fun h1 => ?_) (fun h1 => ?_)
      · simp
        exact ⟨i + 1, ⟨by omega, take_next hlt hlt' hi.2 (of_yes h1)⟩, by omega, i64_suc (by omega)⟩
      · simp [dc_no]
        exact ne_at hlt hlt' (of_no h1)
    · have hlt' : ¬ i < b.length := by omega
      simp [hlt', dc_yes]
      exact take_all (by omega) (by omega) hi.2
  · have hz : ¬ (a.length : Int) = b.length := by omega
    simp [hz, dc_no]
    exact fun h2 => absurd (by rw [h2]) h

theorem implAnswerSame_c (p q : Answer) (hl : nAnswer p ≤ 2 ^ 40) : PureC Tryz.prog 199 [.agg p.row, .agg q.row] (.one (.c (vb (p = q)) 1)) := by
  refine PureC.intro' tt_ok Tryz.func199 (by kernel_rfl) rfl rfl rfl (Nat.le_of_ble_eq_true rfl) (fun w0 base => ?_)
  obtain ⟨n1, f1, t1, l1⟩ := p
  obtain ⟨n2, f2, t2, l2⟩ := q
  unfold nAnswer at hl
  simp only at hl
  simp [Answer.row]
  intro b1 b2
  by_cases h1 : n1 = n2
  rotate_left
  · simp [h1]
  by_cases h2 : f1 = f2
  rotate_left
  · simp [h1, h2]
  simp [h1, h2]
  refine ACall.pure (slEqInt_c t1 t2 (by omega)) (by simp) ?_
  by_cases h3 : t1 = t2
  rotate_left
  · simp [h3]
  simp [h3]
  refine ACall.pure (equalFuncEntry_c l1 l2 (by omega)) (by simp) ?_
  simp
theorem specAnswerSame_c (p q : Answer) (hl : nAnswer p ≤ 2 ^ 40) : PureC Tryz.prog 194 [.agg p.row, .agg q.row] (.one (.c (vb (p = q)) 1)) := by
  refine PureC.intro' tt_ok Tryz.func194 (by kernel_rfl) rfl rfl rfl (Nat.le_of_ble_eq_true rfl) (fun w0 base => ?_)
  obtain ⟨n1, f1, t1, l1⟩ := p
  obtain ⟨n2, f2, t2, l2⟩ := q
  unfold nAnswer at hl
  simp only at hl
  simp [Answer.row]
  intro b1 b2
  by_cases h1 : n1 = n2
  rotate_left
  · simp [h1]
  by_cases h2 : f1 = f2
  rotate_left
  · simp [h1, h2]
  simp [h1, h2]
  refine ACall.pure (signsSame_c t1 t2 (by omega)) (by simp) ?_
  by_cases h3 : t1 = t2
  rotate_left
  · simp [h3]
  subst h3
  by_cases h4 : l1.length = l2.length
  rotate_left
  · have h42 : ¬ (l1.length : Int) = l2.length := by omega
    have h43 : ¬ l1 = l2 := fun h => h4 (by rw [h])
    simp [h42, h43]
  simp [h4]
  refine LoopT.intro eok (fun i : Nat => i ≤ l1.length ∧ l1.take i = l2.take i) (fun i => ⟨53, 0, [(2, .p 32 b1 0), (3, .p 48 b2 0), (39, .v (.int .i64 i)), (38, .v (.int .i64 l2.length)), (37, .ro (l1.map Entry.row))],
    [(32, .vars b1 141 [.v (.int .i64 n2), .v (.int .i64 f2), .ro (t1.map intR), .ro (l1.map Entry.row)]), (48, .vars b2 141 [.v (.int .i64 n2), .v (.int .i64 f2), .ro (t1.map intR), .ro (l2.map Entry.row)])]⟩) (fun i => l1.length - i) 0 (by simp) (by simp) (fun i hi => ?_)
  by_cases hlt : i < l1.length
  · have hlt' : i < l2.length := by omega
    have hll := nL_len (f := nEntry) (B := 2 ^ 40) (l := l1) (by omega)
    have hm := nL_mem (f := nEntry) (B := 2 ^ 40) (l := l1) (by omega) (List.getElem_mem hlt)
    simp [hlt, hlt', Entry.row]
    intro b6
    refine DrawT.quiet eok mix (by kernel_rfl) ?_
    simp [hlt', Entry.row]
    refine ⟨_, _, specEntrySame_c l1[i] l2[i] hm, by simp [Entry.row], ?_⟩
    simp
    by_cases h6 : l1[i] = l2[i]
    · simp [h6]
      exact ⟨i + 1, ⟨by omega, take_next hlt hlt' hi.2 h6⟩, by omega, i64_suc (by omega)⟩
    · have h7 := ne_at hlt hlt' h6
      simp [h6, h7]
  have hlt' : ¬ i < l2.length := by omega
  have hll := take_all (by omega) h4 hi.2
  subst hll
  simp [hlt']
end Go.Proofs.YtdfdabjdfmamgaaGreat

