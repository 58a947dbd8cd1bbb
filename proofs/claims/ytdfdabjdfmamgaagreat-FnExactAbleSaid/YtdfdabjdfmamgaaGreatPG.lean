import Derived.Test.YtdfdabjdfmamgaaGreatPF
import Derived.Test.YtdfdabjdfmamgaaGreatPE
import Derived.Test.YtdfdabjdfmamgaaGreatPD
import Derived.Test.YtdfdabjdfmamgaaGreatPA
namespace Go.Proofs.YtdfdabjdfmamgaaGreat
open Go.AM
set_option maxRecDepth 20000
theorem fRingNew_yes {room rev : Int} (h : ringOk (ringEmpty room rev)) : fRingNew room rev = (ringEmpty room rev, true) := by unfold fRingNew; rw [if_pos h]
theorem fRingNew_no {room rev : Int} (h : ¬ ringOk (ringEmpty room rev)) : fRingNew room rev = (Ring.zero, false) := by unfold fRingNew; rw [if_neg h]
theorem ringEmpty_n (room rev : Int) : nRing (ringEmpty room rev) = 0 := by simp [nRing, ringEmpty, nL, sumN]
theorem fRingPush_no {r : Ring} {e : Entry} (h : ¬ (ringOk r ∧ entryOk e ∧ r.out = false)) : fRingPush r e = r := by unfold fRingPush; rw [if_neg h]
theorem fRingPush_full {r : Ring} {e : Entry} (h : ringOk r ∧ entryOk e ∧ r.out = false) (hc : (r.list.length : Int) = r.cap) : fRingPush r e = ⟨r.cap, r.next, true, []⟩ := by unfold fRingPush; rw [if_pos h, if_pos hc]
theorem fRingPush_room {r : Ring} {e : Entry} (h : ringOk r ∧ entryOk e ∧ r.out = false) (hc : ¬ (r.list.length : Int) = r.cap) : fRingPush r e = ⟨r.cap, r.next, r.out, r.list ++ [e]⟩ := by unfold fRingPush; rw [if_pos h, if_neg hc]
theorem fRingPoll_no {r : Ring} {n : Int} (h : ¬ (ringOk r ∧ 1 ≤ n)) : fRingPoll r n = (r, [], 1) := by unfold fRingPoll; rw [if_neg h]
theorem fRingPoll_out {r : Ring} {n : Int} (h : ringOk r ∧ 1 ≤ n) (ho : r.out = true) : fRingPoll r n = (r, [], 9) := by unfold fRingPoll; rw [if_pos h, if_pos ho]
theorem fRingPoll_yes {r : Ring} {n : Int} (h : ringOk r ∧ 1 ≤ n) (ho : r.out = false) {k : Nat} (hk : k = min n.toNat r.list.length) : fRingPoll r n = (⟨r.cap, r.next + k, r.out, r.list.drop k⟩, r.list.take k, 0) := by
  unfold fRingPoll; rw [if_pos h, if_neg (by rw [ho]; simp)]; subst hk; rcases Nat.le_total n.toNat r.list.length with h1 | h1
  · rw [Nat.min_eq_left h1]
  · rw [Nat.min_eq_right h1, List.drop_eq_nil_of_le h1, List.drop_eq_nil_of_le (Nat.le_refl _), List.take_of_length_le h1, List.take_of_length_le (Nat.le_refl _)]
theorem fRingResync_yes {r : Ring} {rev : Int} (h : ringOk r) : fRingResync r rev = fRingNew r.cap rev := by unfold fRingResync; rw [if_pos h]
theorem fRingResync_no {r : Ring} {rev : Int} (h : ¬ ringOk r) : fRingResync r rev = (Ring.zero, false) := by unfold fRingResync; rw [if_neg h]
end Go.Proofs.YtdfdabjdfmamgaaGreat

namespace Go.Proofs.YtdfdabjdfmamgaaGreat
open Go.AM
set_option maxRecDepth 20000
theorem docIdx_cases (l : List Doc) (name : ByteArray) : (∃ k : Nat, ∃ h : k < l.length, docIdx l name = k ∧ l[k].name = name) ∨ docIdx l name = -1 := by
  rcases fIdx_cases (fun d : Doc => d.name = name) l with ⟨k, h, e, hp, -⟩ | ⟨e, -⟩
  · exact .inl ⟨k, h, e, hp⟩
  · exact .inr e
theorem subIdx_cases (l : List Sub) (id : Int) : (∃ k : Nat, ∃ h : k < l.length, subIdx l id = k ∧ l[k].id = id) ∨ subIdx l id = -1 := by
  rcases fIdx_cases (fun s : Sub => s.id = id) l with ⟨k, h, e, hp, -⟩ | ⟨e, -⟩
  · exact .inl ⟨k, h, e, hp⟩
  · exact .inr e
theorem hub_doc {h : Hub} (c : hubOk h) {k : Nat} (hk : k < h.docs.length) : docOk h.docs[k] := (c.2.2.2.1 k hk).1
theorem hub_sub {h : Hub} (c : hubOk h) {k : Nat} (hk : k < h.subs.length) : ringOk h.subs[k].r ∧ ∃ j : Nat, ∃ _ : j < h.docs.length, docIdx h.docs h.subs[k].doc = j := by
  obtain ⟨-, h2, -, j, hj, e, -⟩ := c.2.2.2.2 k hk; exact ⟨h2, j, hj, e⟩
theorem fHubOpen_no {h : Hub} {name : ByteArray} {t : List Int} (c : ¬ (hubOk h ∧ docOk (doc0 name t))) : fHubOpen h name t = (Hub.zero, 1) := by unfold fHubOpen; rw [if_neg c]
theorem fHubOpen_shut {h : Hub} {name : ByteArray} {t : List Int} (c : hubOk h ∧ docOk (doc0 name t)) (s : h.shut = true) : fHubOpen h name t = (Hub.zero, 12) := by unfold fHubOpen; rw [if_pos c, if_pos s]
theorem fHubOpen_have {h : Hub} {name : ByteArray} {t : List Int} (c : hubOk h ∧ docOk (doc0 name t)) (s : ¬ h.shut = true) (i : 0 ≤ docIdx h.docs name) : fHubOpen h name t = (Hub.zero, 7) := by unfold fHubOpen; rw [if_pos c, if_neg s, if_pos i]
theorem fHubOpen_full {h : Hub} {name : ByteArray} {t : List Int} (c : hubOk h ∧ docOk (doc0 name t)) (s : ¬ h.shut = true) (i : ¬ 0 ≤ docIdx h.docs name) (f : h.docs.length = 5) : fHubOpen h name t = (Hub.zero, 10) := by unfold fHubOpen; rw [if_pos c, if_neg s, if_neg i, if_pos f]
theorem fHubOpen_yes {h : Hub} {name : ByteArray} {t : List Int} (c : hubOk h ∧ docOk (doc0 name t)) (s : ¬ h.shut = true) (i : ¬ 0 ≤ docIdx h.docs name) (f : ¬ h.docs.length = 5) : fHubOpen h name t = (⟨h.shut, docPut (doc0 name t) h.docs, h.subs, h.last⟩, 0) := by
  unfold fHubOpen; rw [if_pos c, if_neg s, if_neg i, if_neg f]
noncomputable def docAhead (name : ByteArray) : List Doc → Nat
  | [] => 0
  | x :: l => open Classical in if sLt x.name name then docAhead name l + 1 else 0
theorem docPut_eq (d : Doc) : ∀ l : List Doc, docPut d l = l.take (docAhead d.name l) ++ d :: l.drop (docAhead d.name l)
  | [] => by simp [docPut, docAhead]
  | x :: l => by
    unfold docPut docAhead
    split
    · rw [docPut_eq d l]; simp
    · simp
theorem docAhead_le (name : ByteArray) : ∀ l : List Doc, docAhead name l ≤ l.length
  | [] => by simp [docAhead]
  | x :: l => by
    unfold docAhead
    split
    · have := docAhead_le name l; simp; omega
    · omega
theorem docAhead_at {name : ByteArray} : ∀ {l : List Doc} {k : Nat}, k ≤ docAhead name l → ∀ hk : k < l.length, sLt l[k].name name ↔ k < docAhead name l
  | x :: l, 0, _, _ => by
    unfold docAhead
    split
    · rename_i h; simpa using h
    · rename_i h; simpa using h
  | x :: l, k + 1, h, hk => by
    unfold docAhead at h ⊢
    split at h
    · rename_i hx
      rw [if_pos hx]; have := docAhead_at (name := name) (l := l) (k := k) (by omega) (by simpa using hk); simp only [List.getElem_cons_succ]; rw [this]; omega
    · omega
theorem fHubSubmit_no {h : Hub} {name : ByteArray} {client seq base : Int} {o : List Part} (c : ¬ hubOk h) : fHubSubmit h name client seq base o = (Hub.zero, 0, 1) := by unfold fHubSubmit; rw [if_neg c]
theorem fHubSubmit_shut {h : Hub} {name : ByteArray} {client seq base : Int} {o : List Part} (c : hubOk h) (s : h.shut = true) : fHubSubmit h name client seq base o = (Hub.zero, 0, 12) := by unfold fHubSubmit; rw [if_pos c, if_pos s]
theorem fHubSubmit_none {h : Hub} {name : ByteArray} {client seq base : Int} {o : List Part} (c : hubOk h) (s : ¬ h.shut = true) (i : docIdx h.docs name = -1) : fHubSubmit h name client seq base o = (Hub.zero, 0, 6) := by
  unfold fHubSubmit; rw [if_pos c, if_neg s, i]
  split
  · rw [if_neg (by omega)]
  · rfl
theorem fHubSubmit_at {h : Hub} {name : ByteArray} {client seq base : Int} {o : List Part} (c : hubOk h) (s : ¬ h.shut = true) {k : Nat} (hk : k < h.docs.length) (i : docIdx h.docs name = k) :
    fHubSubmit h name client seq base o = if (fSubmit h.docs[k] client seq base o).2.2 = 0 then (hubCommit h name k h.docs[k] (fSubmit h.docs[k] client seq base o).1, (fSubmit h.docs[k] client seq base o).2.1, 0) else (Hub.zero, 0, (fSubmit h.docs[k] client seq base o).2.2) := by
  unfold fHubSubmit; rw [if_pos c, if_neg s, i]; simp only [Int.toNat_natCast]; rw [List.getElem?_eq_getElem hk]; simp only; rw [if_pos (by omega)]
theorem fHubSubscribe_no {h : Hub} {name : ByteArray} {room : Int} (c : ¬ (hubOk h ∧ (1 ≤ room ∧ room ≤ 6))) : fHubSubscribe h name room = (Hub.zero, 0, 1) := by unfold fHubSubscribe; rw [if_neg c]
theorem fHubSubscribe_shut {h : Hub} {name : ByteArray} {room : Int} (c : hubOk h ∧ (1 ≤ room ∧ room ≤ 6)) (s : h.shut = true) : fHubSubscribe h name room = (Hub.zero, 0, 12) := by unfold fHubSubscribe; rw [if_pos c, if_pos s]
theorem fHubSubscribe_none {h : Hub} {name : ByteArray} {room : Int} (c : hubOk h ∧ (1 ≤ room ∧ room ≤ 6)) (s : ¬ h.shut = true) (i : docIdx h.docs name = -1) : fHubSubscribe h name room = (Hub.zero, 0, 6) := by
  unfold fHubSubscribe; rw [if_pos c, if_neg s, i]
  split
  · rw [if_neg (by omega)]
  · rfl
theorem fHubSubscribe_at {h : Hub} {name : ByteArray} {room : Int} (c : hubOk h ∧ (1 ≤ room ∧ room ≤ 6)) (s : ¬ h.shut = true) {k : Nat} (hk : k < h.docs.length) (i : docIdx h.docs name = k) :
    fHubSubscribe h name room = if h.subs.length = 6 ∨ h.last = 1000000000 then (Hub.zero, 0, 10) else (⟨h.shut, h.docs, h.subs ++ [⟨h.last + 1, name, (fRingNew room (headRev h.docs[k])).1⟩], h.last + 1⟩, h.last + 1, 0) := by
  unfold fHubSubscribe; rw [if_pos c, if_neg s, i]; simp only [Int.toNat_natCast]; rw [List.getElem?_eq_getElem hk]; simp only; rw [if_pos (by omega)]
theorem fHubPoll_no {h : Hub} {id n : Int} (c : ¬ (hubOk h ∧ 1 ≤ n)) : fHubPoll h id n = (Hub.zero, [], 1) := by unfold fHubPoll; rw [if_neg c]
theorem fHubPoll_none {h : Hub} {id n : Int} (c : hubOk h ∧ 1 ≤ n) (i : subIdx h.subs id = -1) : fHubPoll h id n = (Hub.zero, [], 8) := by
  unfold fHubPoll; rw [if_pos c, i]
  split
  · rw [if_neg (by omega)]
  · rfl
theorem fHubPoll_at {h : Hub} {id n : Int} (c : hubOk h ∧ 1 ≤ n) {k : Nat} (hk : k < h.subs.length) (i : subIdx h.subs id = k) :
    fHubPoll h id n = if (fRingPoll h.subs[k].r n).2.2 = 0 then (⟨h.shut, h.docs, h.subs.set k ⟨h.subs[k].id, h.subs[k].doc, (fRingPoll h.subs[k].r n).1⟩, h.last⟩, (fRingPoll h.subs[k].r n).2.1, 0) else (Hub.zero, [], (fRingPoll h.subs[k].r n).2.2) := by
  unfold fHubPoll; rw [if_pos c, i]; simp only [Int.toNat_natCast]; rw [List.getElem?_eq_getElem hk]; simp only; rw [if_pos (by omega)]
theorem fHubResync_no {h : Hub} {id : Int} (c : ¬ hubOk h) : fHubResync h id = (Hub.zero, [], 0, 1) := by unfold fHubResync; rw [if_neg c]
theorem fHubResync_none {h : Hub} {id : Int} (c : hubOk h) (i : subIdx h.subs id = -1) : fHubResync h id = (Hub.zero, [], 0, 8) := by
  unfold fHubResync; rw [if_pos c, i]
  split
  · rw [if_neg (by omega)]
  · rfl
theorem fHubResync_at {h : Hub} {id : Int} (c : hubOk h) {k : Nat} (hk : k < h.subs.length) (i : subIdx h.subs id = k) {j : Nat} (hj : j < h.docs.length) (e : docIdx h.docs h.subs[k].doc = j) :
    fHubResync h id = (⟨h.shut, h.docs, h.subs.set k ⟨h.subs[k].id, h.subs[k].doc, (fRingResync h.subs[k].r (headRev h.docs[j])).1⟩, h.last⟩, headText h.docs[j], headRev h.docs[j], 0) := by
  unfold fHubResync; rw [if_pos c, i]; simp only [Int.toNat_natCast]; rw [List.getElem?_eq_getElem hk]; simp only; rw [if_pos (by omega), e]; simp only [Int.toNat_natCast]; rw [List.getElem?_eq_getElem hj]
theorem fHubShut_no {h : Hub} (c : ¬ hubOk h) : fHubShut h = (Hub.zero, 1) := by unfold fHubShut; rw [if_neg c]
theorem fHubShut_shut {h : Hub} (c : hubOk h) (s : h.shut = true) : fHubShut h = (Hub.zero, 12) := by unfold fHubShut; rw [if_pos c, if_pos s]
theorem fHubShut_yes {h : Hub} (c : hubOk h) (s : ¬ h.shut = true) : fHubShut h = (⟨true, h.docs, h.subs, h.last⟩, 0) := by unfold fHubShut; rw [if_pos c, if_neg s]
theorem fLook_shut {h : Hub} {c : Call} (s : h.shut = true) : fLook h c = codeA 12 := by unfold fLook; rw [if_pos s]
theorem fLook_none {h : Hub} {c : Call} (s : ¬ h.shut = true) (i : docIdx h.docs c.doc = -1) : fLook h c = codeA 6 := by
  unfold fLook; rw [if_neg s, i]
  split
  · rw [if_neg (by omega)]
  · rfl
theorem fLook_at {h : Hub} {c : Call} (s : ¬ h.shut = true) {k : Nat} (hk : k < h.docs.length) (i : docIdx h.docs c.doc = k) :
    fLook h c = if c.kind = 4 then ⟨0, headRev h.docs[k], headText h.docs[k], []⟩ else ⟨(fFetch h.docs[k] c.n).2, 0, [], (fFetch h.docs[k] c.n).1⟩ := by
  unfold fLook; rw [if_neg s, i]; simp only [Int.toNat_natCast]; rw [List.getElem?_eq_getElem hk]; simp only; rw [if_pos (by omega)]
theorem rows5_set {l : List Doc} {i : Nat} {a b c d e : CD} : ∀ row ∈ (l.map Doc.row).set i [a, b, c, d, e], row.length = 5 := by
  intro row h; rcases List.mem_or_eq_of_mem_set h with h | rfl
  · rw [List.mem_map] at h
    obtain ⟨a, -, rfl⟩ := h; rfl
  · rfl
theorem rows6_set {l : List Sub} {i : Nat} {a b c d e f : CD} : ∀ row ∈ (l.map Sub.row).set i [a, b, c, d, e, f], row.length = 6 := by
  intro row h; rcases List.mem_or_eq_of_mem_set h with h | rfl
  · rw [List.mem_map] at h
    obtain ⟨a, -, rfl⟩ := h; rfl
  · rfl
end Go.Proofs.YtdfdabjdfmamgaaGreat

namespace Go.Proofs.YtdfdabjdfmamgaaGreat
open Go.AM
set_option maxRecDepth 20000
set_option maxHeartbeats 3200000
theorem implHubDoc_c (h : Hub) (hl : nHub h ≤ 2 ^ 40) (name : ByteArray) : PureC Tryz.prog 189 [.agg h.row, .c (.v (.string name))] (.one (.c (vi (docIdx h.docs name)) 1)) := by
  refine PureC.intro' tt_ok Tryz.func189 (by kernel_rfl) rfl rfl rfl (Nat.le_of_ble_eq_true rfl) (fun w0 base => ?_); obtain ⟨sh, l, subs, last⟩ := h; unfold nHub at hl; simp only at hl; have hle := nL_len (f := nDoc) (B := 2 ^ 40) (l := l) (by omega); simp [Hub.row]; intro b2 b3; refine ACall.inline tt_ok Tryz.func271 (by kernel_rfl) rfl rfl rfl (Nat.le_of_ble_eq_true rfl) 20000 (fun w1 F => ?_); simp
  refine LoopT.intro eok (fun i : Nat => i ≤ l.length ∧ ∀ j, j < i → ∀ hj : j < l.length, ¬ l[j].name = name) (fun i => ⟨19, 20000, [(8, .v (.int .i64 i)), (7, .v (.int .i64 l.length)), (0, .ro (l.map Doc.row)), (1, .clo 272 [.p 48 b3 0])],
    [(48, .vars b3 9 [.v (.string name)])]⟩) (fun i => l.length - i) 0 (by simp) (by simp) (fun i hi => ?_)
  by_cases hlt : i < l.length
  · simp [hlt]
    refine ACall.inline tt_ok Tryz.func272 (by kernel_rfl) rfl rfl rfl (Nat.le_of_ble_eq_true rfl) 40000 (fun w2 F2 => ?_); simp [Doc.row]; intro b; by_cases c : l[i].name = name
    · have e : docIdx l name = i := fIdx_at hlt c hi.2
      simp [c, e]
    · simp [c]
      exact ⟨i + 1, ⟨by omega, fun j hj hjl => by
        by_cases hji : j = i
        · subst hji; exact c
        · exact hi.2 j (by omega) hjl⟩, by omega, i64_suc (by omega)⟩
  · have e : docIdx l name = -1 := fIdx_none (fun j hj => hi.2 j (by omega) hj)
    simp [hlt, e]
theorem specHubDoc_c (h : Hub) (hl : nHub h ≤ 2 ^ 40) (name : ByteArray) : PureC Tryz.prog 186 [.agg h.row, .c (.v (.string name))] (.one (.c (vi (docIdx h.docs name)) 1)) := by
  refine PureC.intro' tt_ok Tryz.func186 (by kernel_rfl) rfl rfl rfl (Nat.le_of_ble_eq_true rfl) (fun w0 base => ?_); obtain ⟨sh, l, subs, last⟩ := h; unfold nHub at hl; simp only at hl; have hle := nL_len (f := nDoc) (B := 2 ^ 40) (l := l) (by omega); simp [Hub.row]; intro b2; refine LoopT.intro eok (fun i : Nat => i ≤ l.length ∧ ∀ j, j < i → ∀ hj : j < l.length, ¬ l[j].name = name) (fun i => ⟨21, 0, [(10, .v (.int .i64 i)), (9, .v (.int .i64 l.length)), (8, .ro (l.map Doc.row)), (1, .v (.string name))], []⟩) (fun i => l.length - i) 0 (by simp) (by simp) (fun i hi => ?_); by_cases hlt : i < l.length
  · simp [hlt, Doc.row]
    intro b; by_cases c : l[i].name = name
    · have e : docIdx l name = i := fIdx_at hlt c hi.2
      simp [c, e]
    · simp [c]
      exact ⟨i + 1, ⟨by omega, fun j hj hjl => by
        by_cases hji : j = i
        · subst hji; exact c
        · exact hi.2 j (by omega) hjl⟩, by omega, i64_suc (by omega)⟩
  · have e : docIdx l name = -1 := fIdx_none (fun j hj => hi.2 j (by omega) hj)
    simp [hlt, e]
theorem implRingOk_c (r : Ring) (hl : nRing r ≤ 2 ^ 40) : PureC Tryz.prog 190 [.agg r.row] (.one (.c (vb (ringOk r)) 1)) := by
  refine PureC.intro' tt_ok Tryz.func190 (by kernel_rfl) rfl rfl rfl (Nat.le_of_ble_eq_true rfl) (fun w0 base => ?_); obtain ⟨cp, nx, out, l⟩ := r; unfold nRing at hl; simp only at hl; have hle := nL_len hl; simp [Ring.row]; intro b1; refine ACall.pure (within_c cp 1 6) (by simp) ?_; by_cases c1 : 1 ≤ cp ∧ cp ≤ 6
  rotate_left
  · have h : ¬ ringOk ⟨cp, nx, out, l⟩ := fun h => c1 h.2.1
    simp [dc_neg c1, dc_neg h]
  simp [c1]; refine ACall.pure (within_c nx 1 1000000000) (by simp) ?_; by_cases c2 : 1 ≤ nx ∧ nx ≤ 1000000000
  rotate_left
  · have h : ¬ ringOk ⟨cp, nx, out, l⟩ := fun h => c2 h.2.2.1
    simp [dc_neg c2, dc_neg h]
  simp [c2]; by_cases c3 : (l.length : Int) ≤ cp
  rotate_left
  · have h : ¬ ringOk ⟨cp, nx, out, l⟩ := fun h => c3 h.2.2.2.1
    have c3' : cp < (l.length : Int) := by omega
    simp [c3', dc_neg h]
  have c3' : ¬ cp < (l.length : Int) := by omega
  simp [c3']
  have hcase : out = false ∨ (out = true ∧ l = []) ∨ (out = true ∧ 0 < l.length) := by
    cases out with
    | false => exact .inl rfl
    | true =>
      cases l with
      | nil => exact .inr (.inl ⟨rfl, rfl⟩)
      | cons a l => exact .inr (.inr ⟨rfl, by simp⟩)
  rcases hcase with rfl | ⟨rfl, rfl⟩ | ⟨rfl, c4⟩
  · simp
    refine LoopT.intro eok (fun i : Nat => i ≤ l.length ∧ ∀ e ∈ l.take i, entryOk e) (fun i => ⟨44, 0, [(36, .v (.int .i64 i)), (35, .v (.int .i64 l.length)), (34, .ro (l.map Entry.row))], []⟩) (fun i => l.length - i) 0 (by simp) (by simp) (fun i hi => ?_); by_cases hlt : i < l.length
    · have hm := nL_at hl hlt
      simp [hlt, Entry.row]; intro b4; refine ACall.pure (implEntryOk_c l[i] (by omega)) (by simp [Entry.row]) ?_; by_cases c5 : entryOk l[i]
      · simp [c5]
        exact ⟨i + 1, ⟨by omega, all_suc hlt hi.2 c5⟩, by omega, i64_suc (by omega)⟩
      · have h : ¬ ringOk ⟨cp, nx, false, l⟩ := fun h => c5 (h.1 _ (List.getElem_mem hlt))
        simp [dc_neg c5, dc_neg h]
    · have h : ringOk ⟨cp, nx, false, l⟩ := ⟨all_end (l := l) (by omega) hi.2, c1, c2, c3, by simp⟩
      simp [hlt, h]
  · have h : ringOk ⟨cp, nx, true, []⟩ := ⟨by simp, c1, c2, c3, by simp⟩
    simp; refine LoopT.intro eok (fun i : Nat => i = 0) (fun i => ⟨44, 0, [(36, .v (.int .i64 0)), (35, .v (.int .i64 0)), (34, .ro ([] : List (List CD)))], []⟩) (fun i => 0) 0 (by simp) (by simp) (fun i hi => ?_); simp [h]
  · have h : ¬ ringOk ⟨cp, nx, true, l⟩ := fun h => h.2.2.2.2 ⟨rfl, c4⟩
    have c4' : 0 < (l.length : Int) := by omega
    simp [c4, dc_neg h]
theorem specRingOk_c (r : Ring) (hl : nRing r ≤ 2 ^ 40) : PureC Tryz.prog 187 [.agg r.row] (.one (.c (vb (ringOk r)) 1)) := by
  refine PureC.intro' tt_ok Tryz.func187 (by kernel_rfl) rfl rfl rfl (Nat.le_of_ble_eq_true rfl) (fun w0 base => ?_); obtain ⟨cp, nx, out, l⟩ := r; unfold nRing at hl; simp only at hl; have hle := nL_len hl; simp [Ring.row]; intro b1
  refine LoopT.intro eok (fun i : Nat => i ≤ l.length ∧ ∀ e ∈ l.take i, entryOk e) (fun i => ⟨43, 0, [(8, .v (.int .i64 i)), (7, .v (.int .i64 l.length)), (6, .ro (l.map Entry.row)), (1, .p 16 b1 0)],
    [(16, .vars b1 220 [.v (.int .i64 cp), .v (.int .i64 nx), .v (.bool out), .ro (l.map Entry.row)])]⟩) (fun i => l.length - i) 0 (by simp) (by simp) (fun i hi => ?_)
  by_cases hlt : i < l.length
  · have hm := nL_at hl hlt
    simp [hlt, Entry.row]; intro b4; refine ACall.pure (specEntryOk_c l[i] (by omega)) (by simp [Entry.row]) ?_; by_cases c5 : entryOk l[i]
    · simp [c5]
      exact ⟨i + 1, ⟨by omega, all_suc hlt hi.2 c5⟩, by omega, i64_suc (by omega)⟩
    · have h : ¬ ringOk ⟨cp, nx, out, l⟩ := fun h => c5 (h.1 _ (List.getElem_mem hlt))
      simp [dc_neg c5, dc_neg h]
  have c0 : ∀ e ∈ l, entryOk e := all_end (by omega) hi.2; simp [hlt]; refine ACall.pure (l01In_c cp 1 6) (by simp) ?_; by_cases c1 : 1 ≤ cp ∧ cp ≤ 6
  rotate_left
  · have h : ¬ ringOk ⟨cp, nx, out, l⟩ := fun h => c1 h.2.1
    simp [dc_neg c1, dc_neg h]
  simp [c1]; refine ACall.pure (l01In_c nx 1 1000000000) (by simp) ?_; by_cases c2 : 1 ≤ nx ∧ nx ≤ 1000000000
  rotate_left
  · have h : ¬ ringOk ⟨cp, nx, out, l⟩ := fun h => c2 h.2.2.1
    simp [dc_neg c2, dc_neg h]
  simp [c2]; by_cases c3 : (l.length : Int) ≤ cp
  rotate_left
  · have h : ¬ ringOk ⟨cp, nx, out, l⟩ := fun h => c3 h.2.2.2.1
    simp [c3, dc_neg h]
  simp [c3]
  cases out with
  | false =>
    have h : ringOk ⟨cp, nx, false, l⟩ := ⟨c0, c1, c2, c3, by simp⟩; simp [h]
  | true =>
    by_cases c4 : (l.length : Int) = 0
    · have h : ringOk ⟨cp, nx, true, l⟩ := ⟨c0, c1, c2, c3, fun h => by have := h.2; simp only at this; omega⟩
      simp [c4, h]
    · have h : ¬ ringOk ⟨cp, nx, true, l⟩ := fun h => h.2.2.2.2 ⟨rfl, by simp only; omega⟩
      have c4' : ¬ l = [] := fun h => c4 (by rw [h]; rfl)
      simp [c4', dc_neg h]
end Go.Proofs.YtdfdabjdfmamgaaGreat

namespace Go.Proofs.YtdfdabjdfmamgaaGreat
open Go.AM
set_option maxRecDepth 20000
set_option maxHeartbeats 6400000
theorem hubOk_doc {h : Hub} (h0 : ∀ i, docAt h.docs i) {k : Nat} (hk : k < h.docs.length) : 0 ≤ headRev h.docs[k] ∧ headRev h.docs[k] ≤ 1000000000 := by
  have := docOk_head (h0 k hk).1; omega
theorem docAt_zero {l : List Doc} {d : Doc} (h : 0 < l.length) (e : l[0] = d) (hd : docOk d) : docAt l 0 := fun _ => ⟨by rw [e]; exact hd, fun h => absurd h (by omega)⟩
theorem docAt_suc {l : List Doc} {d y : Doc} {k : Nat} (h : k + 1 < l.length) (e : l[k + 1] = d) (ey : l[k] = y) (hd : docOk d) (hs : sLt y.name d.name) : docAt l (k + 1) := fun _ => ⟨by rw [e]; exact hd, fun _ => by
  simp only [Nat.add_sub_cancel]; rw [e, ey]; exact hs⟩
theorem upto_suc {P : Nat → Prop} {i : Nat} (h : ∀ j, j < i → P j) (hi : P i) : ∀ j, j < i + 1 → P j := fun j hj => by
  by_cases e : j = i
  · subst e; exact hi
  · exact h j (by omega)
theorem implHubOk_c (h : Hub) (hl : nHub h ≤ 2 ^ 30) : PureC Tryz.prog 93 [.agg h.row] (.one (.c (vb (hubOk h)) 1)) := by
  refine PureC.intro' tt_ok Tryz.func93 (by kernel_rfl) rfl rfl rfl (Nat.le_of_ble_eq_true rfl) (fun w0 base => ?_); obtain ⟨sh, docs, subs, last⟩ := h; have hl0 := hl; unfold nHub at hl; simp only at hl; have hle := nL_len (f := nDoc) (B := 2 ^ 30) (l := docs) (by omega); have hls := nL_len (f := nSub) (B := 2 ^ 30) (l := subs) (by omega); simp [Hub.row]; intro b1; by_cases c1 : docs.length ≤ 5
  rotate_left
  · have c1' : 5 < (docs.length : Int) := by omega
    have h : ¬ hubOk ⟨sh, docs, subs, last⟩ := fun h => c1 h.1
    simp [c1', dc_neg h]
  have c1' : ¬ 5 < (docs.length : Int) := by omega
  by_cases c2 : subs.length ≤ 6
  rotate_left
  · have c2' : 6 < (subs.length : Int) := by omega
    have h : ¬ hubOk ⟨sh, docs, subs, last⟩ := fun h => c2 h.2.1
    simp [c1', c2', dc_neg h]
  have c2' : ¬ 6 < (subs.length : Int) := by omega
  simp [c1', c2']; refine ACall.pure (within_c last 0 1000000000) (by simp) ?_; by_cases c3 : 0 ≤ last ∧ last ≤ 1000000000
  rotate_left
  · have h : ¬ hubOk ⟨sh, docs, subs, last⟩ := fun h => c3 h.2.2.1
    simp [dc_neg c3, dc_neg h]
  simp [c3]
  refine LoopT.intro eok (fun i : Nat => i ≤ docs.length ∧ ∀ j, j < i → docAt docs j) (fun i => ⟨119, 0, [(27, .v (.int .i64 i)), (26, .v (.int .i64 docs.length)), (25, .ro (docs.map Doc.row)), (1, .p 16 b1 0)],
    [(16, .vars b1 45 [.v (.bool sh), .ro (docs.map Doc.row), .ro (subs.map Sub.row), .v (.int .i64 last)])]⟩) (fun i => docs.length - i) 0 (by simp) (by simp) (fun i hi => ?_)
  by_cases hlt : i < docs.length
  · have hm := nL_mem (f := nDoc) (B := 2 ^ 30) (l := docs) (by omega) (List.getElem_mem hlt)
    have hno : ¬ docAt docs i → ¬ hubOk ⟨sh, docs, subs, last⟩ := fun h h' => h (h'.2.2.2.1 i)
    obtain ⟨x, hx⟩ : ∃ x, docs[i] = x := ⟨_, rfl⟩; rw [hx] at hm; simp [hlt, hx, Doc.row]; intro b4; refine DrawT.quiet eok mix (by kernel_rfl) ?_; simp; refine ⟨_, _, implDocOk_c x (by omega), by simp [Doc.row], ?_⟩; by_cases s1 : docOk x
    rotate_left
    · have h := hno (fun h => s1 (by have := (h hlt).1; rwa [hx] at this))
      simp [dc_neg s1, dc_neg h]
    simp [s1]
    cases i with
    | zero =>
      simp; exact ⟨1, ⟨by omega, upto_suc hi.2 (docAt_zero hlt hx s1)⟩, by omega, i64_suc (n := 0) (by omega)⟩
    | succ k =>
      have ek : Go.IntKind.i64.wrap (k : Int) = k := i64_nat (by omega); have hk1 : k < docs.length := by omega
      have hk0 : (0 : Int) < (k : Int) + 1 := by omega
      obtain ⟨y, hy⟩ : ∃ y, docs[k] = y := ⟨_, rfl⟩; simp [ek, hk0, hk1, hy, Doc.row]; by_cases s4 : sLt y.name x.name
      rotate_left
      · have h := hno (fun h => s4 (by have := (h hlt).2 (by omega); rw [hx] at this; simp only [Nat.add_sub_cancel] at this; rwa [hy] at this))
        simp [dc_neg s4, dc_neg h]
      simp [s4]; exact ⟨k + 2, ⟨by omega, upto_suc hi.2 (docAt_suc hlt hx hy s1 s4)⟩, by omega, by rw [Go.IntWalk.i64_in _ (by omega)]; omega⟩
  have c4 : ∀ i, docAt docs i := fun i => by
    by_cases h : i < docs.length
    · exact hi.2 i (by omega)
    · exact fun h' => absurd h' h
  simp [hlt]
  refine LoopT.intro eok (fun i : Nat => i ≤ subs.length ∧ ∀ j, j < i → subAt docs last subs j) (fun i => ⟨119, 0, [(55, .v (.int .i64 i)), (54, .v (.int .i64 subs.length)), (53, .ro (subs.map Sub.row)), (1, .p 16 b1 0)],
    [(16, .vars b1 45 [.v (.bool sh), .ro (docs.map Doc.row), .ro (subs.map Sub.row), .v (.int .i64 last)])]⟩) (fun i => subs.length - i) 0 (by simp) (by simp) (fun i hi => ?_)
  by_cases hlt : i < subs.length
  rotate_left
  · have h : hubOk ⟨sh, docs, subs, last⟩ := ⟨c1, c2, c3, c4, fun i => by
      by_cases h : i < subs.length
      · exact hi.2 i (by omega)
      · exact fun h' => absurd h' h⟩
    simp [hlt, h]
  have hm := nL_mem (f := nSub) (B := 2 ^ 30) (l := subs) (by omega) (List.getElem_mem hlt); have hno : ¬ subAt docs last subs i → ¬ hubOk ⟨sh, docs, subs, last⟩ := fun h h' => h (h'.2.2.2.2 i)
  obtain ⟨x, hx⟩ : ∃ x, subs[i] = x := ⟨_, rfl⟩; rw [hx] at hm; unfold nSub at hm; have ew : Go.IntKind.i64.wrap ((i : Int) + 1) = ((i + 1 : Nat) : Int) := i64_suc (by omega); simp [hlt, hx, Sub.row]; intro b6; refine ACall.pure (implHubDoc_c ⟨sh, docs, subs, last⟩ (by omega) x.doc) (by simp [Hub.row]) ?_; simp; have noid : ¬ (1 ≤ x.id ∧ x.id ≤ last) → ¬ hubOk ⟨sh, docs, subs, last⟩ := fun s2 => hno (fun h => s2 (by have := (h hlt).1; rwa [hx] at this))
  have noring : ¬ ringOk x.r → ¬ hubOk ⟨sh, docs, subs, last⟩ := fun s2 => hno (fun h => s2 (by have := (h hlt).2.1; rwa [hx] at this))
  have nodoc : docIdx docs x.doc = -1 → ¬ hubOk ⟨sh, docs, subs, last⟩ := fun s2 => hno (fun h => by
    obtain ⟨k, hk, e, -⟩ := (h hlt).2.2.2; rw [hx, s2] at e; omega)
  have noprev : ∀ _ : 0 < i, ¬ subs[i - 1].id < x.id → ¬ hubOk ⟨sh, docs, subs, last⟩ := fun h0 s2 => hno (fun h => s2 (by have := (h hlt).2.2.1 h0; rwa [hx] at this))
  have hix := fIdx_cases (fun d : Doc => d.name = x.doc) docs
  change (∃ k : Nat, ∃ h : k < docs.length, docIdx docs x.doc = k ∧ _) ∨ (docIdx docs x.doc = -1 ∧ _) at hix
  have norev : ∀ k : Nat, ∀ hk : k < docs.length, docIdx docs x.doc = k → x.r.out = false → ¬ x.r.next + x.r.list.length = headRev docs[k] + 1 → ¬ hubOk ⟨sh, docs, subs, last⟩ := fun k hk e ho s2 => hno (fun h => by
    obtain ⟨k', hk', e', h'⟩ := (h hlt).2.2.2; simp only [hx] at e' h'; have : k = k' := by omega
    subst this; exact s2 (h' ho))
  have fin : ∀ (s1 : 1 ≤ x.id ∧ x.id ≤ last) (s2 : ringOk x.r) (s3 : ∀ _ : 0 < i, subs[i - 1].id < x.id) (k : Nat) (hk : k < docs.length) (e : docIdx docs x.doc = k) (s4 : x.r.out = false → x.r.next + x.r.list.length = headRev docs[k] + 1), ∀ j, j < i + 1 → subAt docs last subs j :=
    fun s1 s2 s3 k hk e s4 => upto_suc hi.2 (fun _ => by simp only [hx]; exact ⟨s1, s2, s3, k, hk, e, s4⟩)
  generalize docIdx docs x.doc = K at hix nodoc norev fin ⊢; refine DrawT.quiet eok mix (by kernel_rfl) ?_; simp; refine ⟨_, _, within_c x.id 1 last, by simp, ?_⟩; by_cases s1 : 1 ≤ x.id ∧ x.id ≤ last
  rotate_left
  · simp [dc_neg s1, dc_neg (noid s1)]
  simp [s1]
  cases i with
  | zero =>
    simp; refine ⟨_, _, implRingOk_c x.r (by omega), by simp [Ring.row], ?_⟩; by_cases s2 : ringOk x.r
    rotate_left
    · simp [dc_neg s2, dc_neg (noring s2)]
    simp [s2]; rcases hix with ⟨k, hk, rfl, -⟩ | ⟨rfl, -⟩; rotate_left
    · simp [dc_neg (nodoc rfl)]
    have hk0' : ¬ (k : Int) < 0 := by omega
    simp [hk0']; have sn := s2.2.2.1; have sl := s2.2.2.2.1; have sc := s2.2.1; have hr := hubOk_doc (h := ⟨sh, docs, subs, last⟩) c4 hk; simp only at hr; have e1 : Go.IntKind.i64.wrap (x.r.next + x.r.list.length) = x.r.next + x.r.list.length := Go.IntWalk.i64_in _ (by omega); have e2 : Go.IntKind.i64.wrap (headRev docs[k] + 1) = headRev docs[k] + 1 := Go.IntWalk.i64_in _ (by omega); refine DrawT.quiet eok mix (by kernel_rfl) ?_; simp
    cases ho : x.r.out with
    | true =>
      have hf := fin s1 s2 (fun h => absurd h (by omega)) k hk rfl (fun h => absurd (ho.symm.trans h) (by simp)); simp; exact ⟨1, ⟨by omega, hf⟩, by omega, i64_suc (n := 0) (by omega)⟩
    | false =>
      simp [hk]; refine ⟨_, _, implHeadRev_c docs[k], by simp [Doc.row], ?_⟩; by_cases s4 : x.r.next + x.r.list.length = headRev docs[k] + 1
      · have hf := fin s1 s2 (fun h => absurd h (by omega)) k hk rfl (fun _ => s4)
        simp [e2, s4]; exact ⟨1, ⟨by omega, hf⟩, by omega, i64_suc (n := 0) (by omega)⟩
      · simp [e1, e2, s4, dc_neg (norev k hk rfl ho s4)]
  | succ m =>
    have hk1 : m < subs.length := by omega
    have ek : Go.IntKind.i64.wrap (m : Int) = m := i64_nat (by omega); have hm0 : (0 : Int) < (m : Int) + 1 := by omega
    obtain ⟨y, hy⟩ : ∃ y, subs[m] = y := ⟨_, rfl⟩; simp [ek, hm0, hk1, hy, Sub.row]; by_cases s3 : y.id < x.id
    rotate_left
    · have s3' : x.id ≤ y.id := by omega
      simp [s3', dc_neg (noprev (by omega) (by simp only [Nat.add_sub_cancel]; rwa [hy]))]
    have s3' : ¬ x.id ≤ y.id := by omega
    have hp : ∀ _ : 0 < m + 1, subs[m + 1 - 1].id < x.id := fun _ => by simp only [Nat.add_sub_cancel]; rwa [hy]
    simp [s3']; refine ⟨_, _, implRingOk_c x.r (by omega), by simp [Ring.row], ?_⟩; by_cases s2 : ringOk x.r
    rotate_left
    · simp [dc_neg s2, dc_neg (noring s2)]
    simp [s2]; rcases hix with ⟨k, hk, rfl, -⟩ | ⟨rfl, -⟩; rotate_left
    · simp [dc_neg (nodoc rfl)]
    have hk0' : ¬ (k : Int) < 0 := by omega
    simp [hk0']; have sn := s2.2.2.1; have sl := s2.2.2.2.1; have sc := s2.2.1; have hr := hubOk_doc (h := ⟨sh, docs, subs, last⟩) c4 hk; simp only at hr; have e1 : Go.IntKind.i64.wrap (x.r.next + x.r.list.length) = x.r.next + x.r.list.length := Go.IntWalk.i64_in _ (by omega); have e2 : Go.IntKind.i64.wrap (headRev docs[k] + 1) = headRev docs[k] + 1 := Go.IntWalk.i64_in _ (by omega); refine DrawT.quiet eok mix (by kernel_rfl) ?_; simp
    cases ho : x.r.out with
    | true =>
      have hf := fin s1 s2 hp k hk rfl (fun h => absurd (ho.symm.trans h) (by simp)); simp; exact ⟨m + 2, ⟨by omega, hf⟩, by omega, by rw [Go.IntWalk.i64_in _ (by omega)]; omega⟩
    | false =>
      simp [hk]; refine ⟨_, _, implHeadRev_c docs[k], by simp [Doc.row], ?_⟩; by_cases s4 : x.r.next + x.r.list.length = headRev docs[k] + 1
      · have hf := fin s1 s2 hp k hk rfl (fun _ => s4)
        simp [e2, s4]; exact ⟨m + 2, ⟨by omega, hf⟩, by omega, by rw [Go.IntWalk.i64_in _ (by omega)]; omega⟩
      · simp [e1, e2, s4, dc_neg (norev k hk rfl ho s4)]
theorem specHubOk_c (h : Hub) (hl : nHub h ≤ 2 ^ 30) : PureC Tryz.prog 91 [.agg h.row] (.one (.c (vb (hubOk h)) 1)) := by
  refine PureC.intro' tt_ok Tryz.func91 (by kernel_rfl) rfl rfl rfl (Nat.le_of_ble_eq_true rfl) (fun w0 base => ?_); obtain ⟨sh, docs, subs, last⟩ := h; have hl0 := hl; unfold nHub at hl; simp only at hl; have hle := nL_len (f := nDoc) (B := 2 ^ 30) (l := docs) (by omega); have hls := nL_len (f := nSub) (B := 2 ^ 30) (l := subs) (by omega); simp [Hub.row]; intro b1; by_cases c1 : docs.length ≤ 5
  rotate_left
  · have c1' : 5 < (docs.length : Int) := by omega
    have h : ¬ hubOk ⟨sh, docs, subs, last⟩ := fun h => c1 h.1
    simp [c1', dc_neg h]
  have c1' : ¬ 5 < (docs.length : Int) := by omega
  by_cases c2 : subs.length ≤ 6
  rotate_left
  · have c2' : 6 < (subs.length : Int) := by omega
    have h : ¬ hubOk ⟨sh, docs, subs, last⟩ := fun h => c2 h.2.1
    simp [c1', c2', dc_neg h]
  have c2' : ¬ 6 < (subs.length : Int) := by omega
  simp [c1', c2']; refine ACall.pure (l01In_c last 0 1000000000) (by simp) ?_; by_cases c3 : 0 ≤ last ∧ last ≤ 1000000000
  rotate_left
  · have h : ¬ hubOk ⟨sh, docs, subs, last⟩ := fun h => c3 h.2.2.1
    simp [dc_neg c3, dc_neg h]
  simp [c3]
  refine LoopT.intro eok (fun i : Nat => i ≤ docs.length ∧ ∀ j, j < i → docAt docs j) (fun i => ⟨119, 0, [(27, .v (.int .i64 i)), (26, .v (.int .i64 docs.length)), (25, .ro (docs.map Doc.row)), (1, .p 16 b1 0)],
    [(16, .vars b1 45 [.v (.bool sh), .ro (docs.map Doc.row), .ro (subs.map Sub.row), .v (.int .i64 last)])]⟩) (fun i => docs.length - i) 0 (by simp) (by simp) (fun i hi => ?_)
  by_cases hlt : i < docs.length
  · have hm := nL_mem (f := nDoc) (B := 2 ^ 30) (l := docs) (by omega) (List.getElem_mem hlt)
    have hno : ¬ docAt docs i → ¬ hubOk ⟨sh, docs, subs, last⟩ := fun h h' => h (h'.2.2.2.1 i)
    obtain ⟨x, hx⟩ : ∃ x, docs[i] = x := ⟨_, rfl⟩; rw [hx] at hm; simp [hlt, hx, Doc.row]; intro b4; refine DrawT.quiet eok mix (by kernel_rfl) ?_; simp; refine ⟨_, _, specDocOk_c x (by omega), by simp [Doc.row], ?_⟩; by_cases s1 : docOk x
    rotate_left
    · have h := hno (fun h => s1 (by have := (h hlt).1; rwa [hx] at this))
      simp [dc_neg s1, dc_neg h]
    simp [s1]
    cases i with
    | zero =>
      simp; exact ⟨1, ⟨by omega, upto_suc hi.2 (docAt_zero hlt hx s1)⟩, by omega, i64_suc (n := 0) (by omega)⟩
    | succ k =>
      have ek : Go.IntKind.i64.wrap (k : Int) = k := i64_nat (by omega); have hk1 : k < docs.length := by omega
      have hk0 : (0 : Int) < (k : Int) + 1 := by omega
      obtain ⟨y, hy⟩ : ∃ y, docs[k] = y := ⟨_, rfl⟩; simp [ek, hk0, hk1, hy, Doc.row]; by_cases s4 : sLt y.name x.name
      rotate_left
      · have h := hno (fun h => s4 (by have := (h hlt).2 (by omega); rw [hx] at this; simp only [Nat.add_sub_cancel] at this; rwa [hy] at this))
        simp [dc_neg s4, dc_neg h]
      simp [s4]; exact ⟨k + 2, ⟨by omega, upto_suc hi.2 (docAt_suc hlt hx hy s1 s4)⟩, by omega, by rw [Go.IntWalk.i64_in _ (by omega)]; omega⟩
  have c4 : ∀ i, docAt docs i := fun i => by
    by_cases h : i < docs.length
    · exact hi.2 i (by omega)
    · exact fun h' => absurd h' h
  simp [hlt]
  refine LoopT.intro eok (fun i : Nat => i ≤ subs.length ∧ ∀ j, j < i → subAt docs last subs j) (fun i => ⟨119, 0, [(55, .v (.int .i64 i)), (54, .v (.int .i64 subs.length)), (53, .ro (subs.map Sub.row)), (1, .p 16 b1 0)],
    [(16, .vars b1 45 [.v (.bool sh), .ro (docs.map Doc.row), .ro (subs.map Sub.row), .v (.int .i64 last)])]⟩) (fun i => subs.length - i) 0 (by simp) (by simp) (fun i hi => ?_)
  by_cases hlt : i < subs.length
  rotate_left
  · have h : hubOk ⟨sh, docs, subs, last⟩ := ⟨c1, c2, c3, c4, fun i => by
      by_cases h : i < subs.length
      · exact hi.2 i (by omega)
      · exact fun h' => absurd h' h⟩
    simp [hlt, h]
  have hm := nL_mem (f := nSub) (B := 2 ^ 30) (l := subs) (by omega) (List.getElem_mem hlt); have hno : ¬ subAt docs last subs i → ¬ hubOk ⟨sh, docs, subs, last⟩ := fun h h' => h (h'.2.2.2.2 i)
  obtain ⟨x, hx⟩ : ∃ x, subs[i] = x := ⟨_, rfl⟩; rw [hx] at hm; unfold nSub at hm; have ew : Go.IntKind.i64.wrap ((i : Int) + 1) = ((i + 1 : Nat) : Int) := i64_suc (by omega); simp [hlt, hx, Sub.row]; intro b6; refine ACall.pure (specHubDoc_c ⟨sh, docs, subs, last⟩ (by omega) x.doc) (by simp [Hub.row]) ?_; simp; have noid : ¬ (1 ≤ x.id ∧ x.id ≤ last) → ¬ hubOk ⟨sh, docs, subs, last⟩ := fun s2 => hno (fun h => s2 (by have := (h hlt).1; rwa [hx] at this))
  have noring : ¬ ringOk x.r → ¬ hubOk ⟨sh, docs, subs, last⟩ := fun s2 => hno (fun h => s2 (by have := (h hlt).2.1; rwa [hx] at this))
  have nodoc : docIdx docs x.doc = -1 → ¬ hubOk ⟨sh, docs, subs, last⟩ := fun s2 => hno (fun h => by
    obtain ⟨k, hk, e, -⟩ := (h hlt).2.2.2; rw [hx, s2] at e; omega)
  have noprev : ∀ _ : 0 < i, ¬ subs[i - 1].id < x.id → ¬ hubOk ⟨sh, docs, subs, last⟩ := fun h0 s2 => hno (fun h => s2 (by have := (h hlt).2.2.1 h0; rwa [hx] at this))
  have hix := fIdx_cases (fun d : Doc => d.name = x.doc) docs
  change (∃ k : Nat, ∃ h : k < docs.length, docIdx docs x.doc = k ∧ _) ∨ (docIdx docs x.doc = -1 ∧ _) at hix
  have norev : ∀ k : Nat, ∀ hk : k < docs.length, docIdx docs x.doc = k → x.r.out = false → ¬ x.r.next + x.r.list.length = headRev docs[k] + 1 → ¬ hubOk ⟨sh, docs, subs, last⟩ := fun k hk e ho s2 => hno (fun h => by
    obtain ⟨k', hk', e', h'⟩ := (h hlt).2.2.2; simp only [hx] at e' h'; have : k = k' := by omega
    subst this; exact s2 (h' ho))
  have fin : ∀ (s1 : 1 ≤ x.id ∧ x.id ≤ last) (s2 : ringOk x.r) (s3 : ∀ _ : 0 < i, subs[i - 1].id < x.id) (k : Nat) (hk : k < docs.length) (e : docIdx docs x.doc = k) (s4 : x.r.out = false → x.r.next + x.r.list.length = headRev docs[k] + 1), ∀ j, j < i + 1 → subAt docs last subs j :=
    fun s1 s2 s3 k hk e s4 => upto_suc hi.2 (fun _ => by simp only [hx]; exact ⟨s1, s2, s3, k, hk, e, s4⟩)
  generalize docIdx docs x.doc = K at hix nodoc norev fin ⊢; refine DrawT.quiet eok mix (by kernel_rfl) ?_; simp; refine ⟨_, _, l01In_c x.id 1 last, by simp, ?_⟩; by_cases s1 : 1 ≤ x.id ∧ x.id ≤ last
  rotate_left
  · simp [dc_neg s1, dc_neg (noid s1)]
  simp [s1]; refine ⟨_, _, specRingOk_c x.r (by omega), by simp [Ring.row], ?_⟩; by_cases s2 : ringOk x.r
  rotate_left
  · simp [dc_neg s2, dc_neg (noring s2)]
  simp [s2]; rcases hix with ⟨k, hk, rfl, -⟩ | ⟨rfl, -⟩; rotate_left
  · simp [dc_neg (nodoc rfl)]
  have hk0' : ¬ (k : Int) < 0 := by omega
  simp [hk0']
  cases i with
  | zero =>
    simp; have sn := s2.2.2.1; have sl := s2.2.2.2.1; have sc := s2.2.1; have hr := hubOk_doc (h := ⟨sh, docs, subs, last⟩) c4 hk; simp only at hr; have e1 : Go.IntKind.i64.wrap (x.r.next + x.r.list.length) = x.r.next + x.r.list.length := Go.IntWalk.i64_in _ (by omega); have e2 : Go.IntKind.i64.wrap (headRev docs[k] + 1) = headRev docs[k] + 1 := Go.IntWalk.i64_in _ (by omega); refine DrawT.quiet eok mix (by kernel_rfl) ?_; simp
    cases ho : x.r.out with
    | true =>
      have hf := fin s1 s2 (fun h => absurd h (by omega)) k hk rfl (fun h => absurd (ho.symm.trans h) (by simp)); simp; exact ⟨1, ⟨by omega, hf⟩, by omega, i64_suc (n := 0) (by omega)⟩
    | false =>
      simp [hk]; refine ⟨_, _, specHeadRev_c docs[k], by simp [Doc.row], ?_⟩; by_cases s4 : x.r.next + x.r.list.length = headRev docs[k] + 1
      · have hf := fin s1 s2 (fun h => absurd h (by omega)) k hk rfl (fun _ => s4)
        simp [e2, s4]; exact ⟨1, ⟨by omega, hf⟩, by omega, i64_suc (n := 0) (by omega)⟩
      · simp [e1, e2, s4, dc_neg (norev k hk rfl ho s4)]
  | succ m =>
    have hk1 : m < subs.length := by omega
    have ek : Go.IntKind.i64.wrap (m : Int) = m := i64_nat (by omega); have hm0 : (0 : Int) < (m : Int) + 1 := by omega
    obtain ⟨y, hy⟩ : ∃ y, subs[m] = y := ⟨_, rfl⟩; simp [ek, hm0, hk1, hy, Sub.row]; by_cases s3 : y.id < x.id
    rotate_left
    · have s3' : x.id ≤ y.id := by omega
      simp [s3', dc_neg (noprev (by omega) (by simp only [Nat.add_sub_cancel]; rwa [hy]))]
    have s3' : ¬ x.id ≤ y.id := by omega
    have hp : ∀ _ : 0 < m + 1, subs[m + 1 - 1].id < x.id := fun _ => by simp only [Nat.add_sub_cancel]; rwa [hy]
    simp [s3']; have sn := s2.2.2.1; have sl := s2.2.2.2.1; have sc := s2.2.1; have hr := hubOk_doc (h := ⟨sh, docs, subs, last⟩) c4 hk; simp only at hr; have e1 : Go.IntKind.i64.wrap (x.r.next + x.r.list.length) = x.r.next + x.r.list.length := Go.IntWalk.i64_in _ (by omega); have e2 : Go.IntKind.i64.wrap (headRev docs[k] + 1) = headRev docs[k] + 1 := Go.IntWalk.i64_in _ (by omega); refine DrawT.quiet eok mix (by kernel_rfl) ?_; simp
    cases ho : x.r.out with
    | true =>
      have hf := fin s1 s2 hp k hk rfl (fun h => absurd (ho.symm.trans h) (by simp)); simp; exact ⟨m + 2, ⟨by omega, hf⟩, by omega, by rw [Go.IntWalk.i64_in _ (by omega)]; omega⟩
    | false =>
      simp [hk]; refine ⟨_, _, specHeadRev_c docs[k], by simp [Doc.row], ?_⟩; by_cases s4 : x.r.next + x.r.list.length = headRev docs[k] + 1
      · have hf := fin s1 s2 hp k hk rfl (fun _ => s4)
        simp [e2, s4]; exact ⟨m + 2, ⟨by omega, hf⟩, by omega, by rw [Go.IntWalk.i64_in _ (by omega)]; omega⟩
      · simp [e1, e2, s4, dc_neg (norev k hk rfl ho s4)]
end Go.Proofs.YtdfdabjdfmamgaaGreat

namespace Go.Proofs.YtdfdabjdfmamgaaGreat
open Go.AM
set_option maxRecDepth 20000
set_option maxHeartbeats 3200000
theorem l10Copy_c (r : Ring) (hl : nRing r ≤ 2 ^ 30) : PureC Tryz.prog 283 [.agg r.row] (.one (.agg r.res)) := by
  refine PureC.intro' tt_ok Tryz.func283 (by kernel_rfl) rfl rfl rfl (Nat.le_of_ble_eq_true rfl) (fun w0 base => ?_); unfold nRing at hl; simp [Ring.row]; intro b1 b2; refine DrawT.introS eok mix [0, 1, 2, 3, 4, 5, 6, 7] [8, 9, 10] (.child 8 [true, false, false, false, false, false, false, false] [false, true, true, true, true, true, true, true] (.child 9 [false, false, true, false, true, false, true, false] [false, true, false, true, false, true, false, true] (.child 10 [false, true, false, true, false, true, false, true] [false, false, false, false, false, false, false, false] (.leaf [false, false, false, false, false, false, false, false]) .stop) .stop) .stop) (by kernel_rfl) ?_; simp
  try intros
  refine ACall.pure (l08Entries_c r.list hl) (by simp) ?_; simp
  try intros
  simp [Ring.res]
theorem l11Sub_c (s : Sub) (hl : nSub s ≤ 2 ^ 30) : PureC Tryz.prog 206 [.agg s.row] (.one (.agg s.res)) := by
  refine PureC.intro' tt_ok Tryz.func206 (by kernel_rfl) rfl rfl rfl (Nat.le_of_ble_eq_true rfl) (fun w0 base => ?_); unfold nSub at hl; simp [Sub.row]; intro b1 b2; refine DrawT.introS eok mix [0, 1, 2, 3, 4, 5] [6, 7, 8] (.child 6 [true, false, false, false, false, false] [false, true, true, true, true, true] (.child 7 [false, false, true, false, true, false] [false, true, false, true, false, true] (.child 8 [false, true, false, true, false, true] [false, false, false, false, false, false] (.leaf [false, false, false, false, false, false]) .stop) .stop) .stop) (by kernel_rfl) ?_; simp
  try intros
  refine ACall.pure (l10Copy_c s.r (by omega)) (by simp [Ring.row]) ?_; simp [Ring.res]
  try intros
  simp [Sub.res]
theorem l11Copy_c (h : Hub) (hl : nHub h ≤ 2 ^ 30) : PureC Tryz.prog 115 [.agg h.row] (.one (.agg h.res)) := by
  refine PureC.intro' tt_ok Tryz.func115 (by kernel_rfl) rfl rfl rfl (Nat.le_of_ble_eq_true rfl) (fun w0 base => ?_); obtain ⟨sh, docs, subs, last⟩ := h; unfold nHub at hl; simp only at hl; have hle := nL_len (f := nDoc) (B := 2 ^ 30) (l := docs) (by omega); have hls := nL_len (f := nSub) (B := 2 ^ 30) (l := subs) (by omega); simp [Hub.row]; intro b1 b2 b3
  refine LoopT.introG eok (fun x : Nat × Hd => x.1 ≤ docs.length) (fun x => ⟨44, 0, [(16, .v (.int .i64 x.1)), (15, .v (.int .i64 docs.length)), (14, .ro (docs.map Doc.row)), (1, .p 16 b1 0), (2, .p 32 b2 0), (3, .p 48 b3 0)],
    [(48, .vars b3 45 [.v (.bool sh), .sl 5000 x.2 5 0 x.1, .nil, .v (.int .i64 last)]), (32, .vars b2 45 [.v (.bool false), .nil, .nil, .v (.int .i64 0)]),
     (16, .vars b1 45 [.v (.bool sh), .ro (docs.map Doc.row), .ro (subs.map Sub.row), .v (.int .i64 last)]), (5000, .rows x.2 5 ((docs.take x.1).map Doc.row) true)]⟩) (fun x => docs.length - x.1) (0, none) (by simp) (by simp) (fun x hi => Ent.refl ?_)
  obtain ⟨i, H⟩ := x; simp only at hi ⊢; by_cases hlt : i < docs.length
  · have hm := nL_mem (f := nDoc) (B := 2 ^ 30) (l := docs) (by omega) (List.getElem_mem hlt)
    have e1 : min i docs.length = i := by omega
    simp [hlt, Doc.row]; intro b5; refine DrawT.introS eok mix [0, 1, 2, 6] [3, 4, 5, 7] (.child 3 [false, true, false, false] [true, false, true, true] (.child 4 [false, false, false, false] [true, false, true, true] (.child 5 [false, false, true, false] [true, false, false, true] (.child 7 [true, false, false, true] [false, false, false, false] (.leaf [false, false, false, false]) .stop) .stop) .stop) .stop) (by kernel_rfl) ?_; simp
    try intros
    refine ACall.pure (l08Copy_c docs[i] hm) (by simp [Doc.row]) ?_; simp [Doc.res]
    try intros
    simp [e1]; refine ⟨by omega, fun H' => Ent.refl ⟨i + 1, by omega, by omega, H', ?_⟩⟩; simp; exact ⟨i64_suc (by omega), take_snoc (f := Doc.row) hlt⟩
  have hm : i = docs.length := by omega
  subst hm; simp
  refine LoopT.introG eok (fun x : Nat × Hd => x.1 ≤ subs.length) (fun x => ⟨44, 0, [(31, .v (.int .i64 x.1)), (30, .v (.int .i64 subs.length)), (29, .ro (subs.map Sub.row)), (2, .p 32 b2 0), (3, .p 48 b3 0)],
    [(48, .vars b3 45 [.v (.bool sh), .sl 5000 H 5 0 docs.length, .sl 5001 x.2 6 0 x.1, .v (.int .i64 last)]), (32, .vars b2 45 [.v (.bool false), .nil, .nil, .v (.int .i64 0)]),
     (5000, .rows H 5 (docs.map Doc.row) true), (5001, .rows x.2 6 ((subs.take x.1).map Sub.row) true)]⟩) (fun x => subs.length - x.1) (0, none) (by simp) (by simp) (fun x hi => Ent.refl ?_)
  obtain ⟨i, H'⟩ := x; simp only at hi ⊢; by_cases hlt : i < subs.length
  · have hm := nL_mem (f := nSub) (B := 2 ^ 30) (l := subs) (by omega) (List.getElem_mem hlt)
    have e1 : min i subs.length = i := by omega
    simp [hlt, Sub.row]; intro b7; refine DrawT.introS eok mix [0, 1, 2, 6] [3, 4, 5, 7] (.child 3 [false, true, false, false] [true, false, true, true] (.child 4 [false, false, false, false] [true, false, true, true] (.child 5 [false, false, true, false] [true, false, false, true] (.child 7 [true, false, false, true] [false, false, false, false] (.leaf [false, false, false, false]) .stop) .stop) .stop) .stop) (by kernel_rfl) ?_; simp
    try intros
    refine ACall.pure (l11Sub_c subs[i] hm) (by simp [Sub.row]) ?_; simp [Sub.res]
    try intros
    simp [e1]; refine ⟨by omega, fun H'' => Ent.refl ⟨i + 1, by omega, by omega, H'', ?_⟩⟩; simp; exact ⟨i64_suc (by omega), take_snoc (f := Sub.row) hlt⟩
  have hm : i = subs.length := by omega
  subst hm; simp [Hub.res]
end Go.Proofs.YtdfdabjdfmamgaaGreat

namespace Go.Proofs.YtdfdabjdfmamgaaGreat
open Go.AM
set_option maxRecDepth 20000
set_option maxHeartbeats 3200000
theorem cut_takeR {l : List Entry} {k : Nat} (_h : k ≤ l.length) : cut (l.map Entry.row) 0 k = (l.take k).map Entry.row := by
  rw [cut_eq, List.drop_zero, List.map_take]
theorem entry3 {l : List Entry} {row : List CD} (h : row ∈ l.map Entry.row) : row.length = 3 := by
  rw [List.mem_map] at h; obtain ⟨a, -, rfl⟩ := h; rfl
theorem specRingNew_c (room rev : Int) (hr : -4611686018427387904 ≤ rev ∧ rev ≤ 4611686018427387904) : PureC Tryz.prog 356 [.c (vi room), .c (vi rev)] (.tup [.agg (fRingNew room rev).1.res, .c (.v (.bool (fRingNew room rev).2)) 1]) := by
  refine PureC.intro' tt_ok Tryz.func356 (by kernel_rfl) rfl rfl rfl (Nat.le_of_ble_eq_true rfl) (fun w0 base => ?_); simp; intro b4; by_cases c1 : 1000000000 < rev
  · have h : ¬ ringOk (ringEmpty room rev) := fun h => by have := h.2.2.1; simp [ringEmpty] at this; omega
    simp [c1, fRingNew_no h, Ring.res, Ring.zero]
  have ew : Go.IntKind.i64.wrap (rev + 1) = rev + 1 := Go.IntWalk.i64_in _ (by omega); simp [c1, ew]; intro b6; refine ACall.pure (specRingOk_c (ringEmpty room rev) (by rw [ringEmpty_n]; omega)) (by simp [ringEmpty, Ring.row]) ?_; by_cases c2 : ringOk (ringEmpty room rev)
  · have e := fRingNew_yes c2
    rw [show ringEmpty room rev = ⟨room, rev + 1, false, []⟩ from rfl] at c2; simp [c2, e, Ring.res, ringEmpty]
  · simp [dc_neg c2, fRingNew_no c2, Ring.res, Ring.zero]
theorem specRingPush_c (r : Ring) (hl : nRing r ≤ 2 ^ 30) (e : Entry) (he : nEntry e ≤ 2 ^ 30) : PureC Tryz.prog 355 [.agg r.row, .agg e.row] (.one (.agg (fRingPush r e).res)) := by
  refine PureC.intro' tt_ok Tryz.func355 (by kernel_rfl) rfl rfl rfl (Nat.le_of_ble_eq_true rfl) (fun w0 base => ?_); have hno := @fRingPush_no r e; have hfull := @fRingPush_full r e; have hroom := @fRingPush_room r e; have hle := nL_len (f := nEntry) (B := 2 ^ 30) (l := r.list) (by unfold nRing at hl; omega); simp [Ring.row, Entry.row]; intro b2 b3 b4; refine ACall.pure (l10Copy_c r hl) (by simp [Ring.row]) ?_; simp [Ring.res]; intro H b5; refine ACall.pure (specRingOk_c r (by omega)) (by simp [Ring.row]) ?_; by_cases c1 : ringOk r
  rotate_left
  · simp [dc_neg c1, hno (fun h => c1 h.1)]
  simp [c1]; refine ACall.pure (specEntryOk_c e (by omega)) (by simp [Entry.row]) ?_; by_cases c2 : entryOk e
  rotate_left
  · simp [dc_neg c2, hno (fun h => c2 h.2.1)]
  simp [c2]
  cases c3 : r.out with
  | true => simp [hno (fun h => by rw [c3] at h; exact absurd h.2.2 (by simp)), c3]
  | false =>
  simp; by_cases c4 : (r.list.length : Int) = r.cap
  · have e1 := hfull ⟨c1, c2, c3⟩ c4
    simp [c4, e1]
  have e1 := hroom ⟨c1, c2, c3⟩ c4; simp [c4]; refine DrawT.introS eok mix [0, 1, 2, 6] [3, 4, 5, 7] (.child 3 [false, true, false, false] [true, false, true, true] (.child 4 [false, false, false, false] [true, false, true, true] (.child 5 [false, false, true, false] [true, false, false, true] (.child 7 [true, false, false, true] [false, false, false, false] (.leaf [false, false, false, false]) .stop) .stop) .stop) .stop) (by kernel_rfl) ?_; simp
  try intros
  refine ACall.pure (l08Entry_c e he) (by simp [Entry.row]) ?_; simp [Entry.res]
  try intros
  refine ⟨by omega, ?_⟩; rw [e1]; simp [c3, Entry.row]
  try (rintro row (⟨a, -, rfl⟩ | rfl) <;> rfl)
theorem specRingPoll_c (r : Ring) (hl : nRing r ≤ 2 ^ 30) (n : Int) : PureC Tryz.prog 358 [.agg r.row, .c (vi n)] (.tup [.agg (fRingPoll r n).1.res, .c (.s ((fRingPoll r n).2.1.map Entry.row)) 3, .c (vi (fRingPoll r n).2.2) 1]) := by
  refine PureC.intro' tt_ok Tryz.func358 (by kernel_rfl) rfl rfl rfl (Nat.le_of_ble_eq_true rfl) (fun w0 base => ?_); have hno := @fRingPoll_no r n; have hout := @fRingPoll_out r n; have hyes := @fRingPoll_yes r n; have hnl : nL nEntry r.list ≤ 2 ^ 30 := by unfold nRing at hl; omega
  have hle := nL_len hnl; simp [Ring.row]; intro b2 b4; refine ACall.pure (l10Copy_c r hl) (by simp [Ring.row]) ?_; simp [Ring.res]; intro H b7; refine ACall.pure (specRingOk_c r (by omega)) (by simp [Ring.row]) ?_; by_cases c1 : ringOk r
  rotate_left
  · simp [dc_neg c1, hno (fun h => c1 h.1)]
  simp [c1]; by_cases c2 : 1 ≤ n
  rotate_left
  · have c2' : n < 1 := by omega
    simp [c2', hno (fun h => c2 h.2)]
  have c2' : ¬ n < 1 := by omega
  simp [c2']; have hnx := c1.2.2.1
  cases c3 : r.out with
  | true => simp [hout ⟨c1, c2⟩ c3, c3]
  | false =>
  simp
  have hdrop : ∀ k, nL nEntry (r.list.drop k) ≤ 2 ^ 30 := fun k => by
    have h := nL_append (f := nEntry) (r.list.take k) (r.list.drop k); rw [List.take_append_drop] at h; omega
  by_cases c4 : (r.list.length : Int) < n
  · have e1 := hyes ⟨c1, c2⟩ c3 (k := r.list.length) (by omega)
    have ew : Go.IntKind.i64.wrap (r.next + (r.list.length : Int)) = r.next + r.list.length := Go.IntWalk.i64_in _ (by omega); have cd := cut_dropE (l := r.list) (k := r.list.length) (Nat.le_refl _); have ct := cut_takeR (l := r.list) (k := r.list.length) (Nat.le_refl _); rw [List.drop_eq_nil_of_le (Nat.le_refl _)] at cd e1; simp at cd; simp [c4]; refine ACall.pure (l08Entries_c [] (by simp [nL, sumN])) (by simp [cd]) ?_; simp [ew]; intro H2; refine DrawT.introS eok mix [0, 1, 2, 3, 4, 8] [5, 6, 7] (.child 5 [false, true, false, false, false, false] [true, false, true, true, true, true] (.child 6 [false, false, false, false, false, true] [true, false, true, true, true, false] (.child 7 [false, false, true, true, true, false] [true, false, false, false, false, false] (.leaf [true, false, false, false, false, false]) .stop) .stop) .stop) (by kernel_rfl) ?_; simp
    try intros
    refine ACall.pure (l08Entries_c r.list hnl) (by simp) ?_; simp
    try intros
    rw [e1]; simp [c3]
  obtain ⟨k, rfl⟩ : ∃ k : Nat, n = k := ⟨n.toNat, by omega⟩; have hk : k ≤ r.list.length := by omega
  have e1 := hyes ⟨c1, c2⟩ c3 (k := k) (by simp; omega); have ew : Go.IntKind.i64.wrap (r.next + (k : Int)) = r.next + k := Go.IntWalk.i64_in _ (by omega); have cd := cut_dropE hk; have ct := cut_takeR hk; simp [c4, hk]; refine ACall.pure (l08Entries_c (r.list.drop k) (hdrop k)) (by simp [cd]) ?_; simp [ew]; intro H2; refine DrawT.introS eok mix [0, 1, 2, 3, 4, 8] [5, 6, 7] (.child 5 [false, true, false, false, false, false] [true, false, true, true, true, true] (.child 6 [false, false, false, false, false, true] [true, false, true, true, true, false] (.child 7 [false, false, true, true, true, false] [true, false, false, false, false, false] (.leaf [true, false, false, false, false, false]) .stop) .stop) .stop) (by kernel_rfl) ?_; simp [hk]
  try intros
  refine ACall.pure (l08Entries_c (r.list.take k) (nL_take hnl)) (by simp [ct]) ?_; simp [hk]
  try intros
  rw [e1]; simp [c3]; exact ⟨fun row h => entry3 (List.mem_of_mem_drop h), fun row h => entry3 (List.mem_of_mem_take h)⟩
theorem specRingResync_c (r : Ring) (hl : nRing r ≤ 2 ^ 30) (rev : Int) (hr : -4611686018427387904 ≤ rev ∧ rev ≤ 4611686018427387904) : PureC Tryz.prog 359 [.agg r.row, .c (vi rev)] (.tup [.agg (fRingResync r rev).1.res, .c (.v (.bool (fRingResync r rev).2)) 1]) := by
  refine PureC.intro' tt_ok Tryz.func359 (by kernel_rfl) rfl rfl rfl (Nat.le_of_ble_eq_true rfl) (fun w0 base => ?_); have hno := @fRingResync_no r rev; have hyes := @fRingResync_yes r rev; simp [Ring.row]; intro b2 b4; refine ACall.pure (specRingOk_c r (by omega)) (by simp [Ring.row]) ?_; by_cases c1 : ringOk r
  rotate_left
  · simp [dc_neg c1, hno c1, Ring.res, Ring.zero]
  simp [c1]; have hc := specRingNew_c r.cap rev hr; rw [← hyes c1] at hc; generalize fRingResync r rev = R at hc ⊢; obtain ⟨R1, R2⟩ := R; refine ACall.pure hc (by simp) ?_; simp [Ring.res]
end Go.Proofs.YtdfdabjdfmamgaaGreat

namespace Go.Proofs.YtdfdabjdfmamgaaGreat
open Go.AM
set_option maxRecDepth 20000
set_option maxHeartbeats 1600000
theorem specDocNew_c (name : ByteArray) (t : List Int) (h1 : name.size ≤ 2 ^ 28) (h2 : t.length ≤ 2 ^ 28) : PureC Tryz.prog 181 [.c (.v (.string name)), .c (.s (t.map intR))] (.tup [.agg (fDocNew name t).1.res, .c (.v (.bool (fDocNew name t).2)) 1]) := by
  refine PureC.intro' tt_ok Tryz.func181 (by kernel_rfl) rfl rfl rfl (Nat.le_of_ble_eq_true rfl) (fun w0 base => ?_); have hn := doc0_n name t; simp; intro b4 b8; refine ⟨by omega, fun H9 b6 => ?_⟩; refine ACall.pure (specDocOk_c (doc0 name t) (by omega)) (by simp [Doc.row, doc0]) ?_; by_cases c : docOk (doc0 name t)
  · have e : fDocNew name t = (doc0 name t, true) := by unfold fDocNew; rw [if_pos c]
    simp [c, e, Doc.res]; simp [doc0]
  · have e : fDocNew name t = (Doc.zero, false) := by unfold fDocNew; rw [if_neg c]
    simp [dc_neg c, e, Doc.res, Doc.zero]
end Go.Proofs.YtdfdabjdfmamgaaGreat

