import Derived.Test.YtdfdabjdfmamgaaGreatPJ
import Derived.Test.YtdfdabjdfmamgaaGreatPL
namespace Go.Proofs.YtdfdabjdfmamgaaGreat
open Go.AM
set_option maxRecDepth 20000
noncomputable def queueAhead (name : ByteArray) : List Queue → Nat
  | [] => 0
  | x :: l => open Classical in if sLt x.doc name then queueAhead name l + 1 else 0
theorem queueAhead_le (name : ByteArray) : ∀ l : List Queue, queueAhead name l ≤ l.length
  | [] => by simp [queueAhead]
  | x :: l => by
    unfold queueAhead
    split
    · have := queueAhead_le name l; simp; omega
    · omega
theorem queueAhead_at {name : ByteArray} : ∀ {l : List Queue} {k : Nat}, k ≤ queueAhead name l → ∀ hk : k < l.length, sLt l[k].doc name ↔ k < queueAhead name l
  | x :: l, 0, _, _ => by
    unfold queueAhead
    split
    · rename_i h; simpa using h
    · rename_i h; simpa using h
  | x :: l, k + 1, h, hk => by
    unfold queueAhead at h ⊢
    split at h
    · rename_i hx
      rw [if_pos hx]; have := queueAhead_at (name := name) (l := l) (k := k) (by omega) (by simpa using hk); simp only [List.getElem_cons_succ]; rw [this]; omega
    · omega
theorem queueIdx_cases (l : List Queue) (name : ByteArray) : (∃ k : Nat, ∃ h : k < l.length, queueIdx l name = k ∧ l[k].doc = name) ∨ queueIdx l name = -1 := by
  rcases fIdx_cases (fun q : Queue => q.doc = name) l with ⟨k, h, e, hp, -⟩ | ⟨e, -⟩
  · exact .inl ⟨k, h, e, hp⟩
  · exact .inr e
noncomputable def fExec (w : Wld) (k : Nat) (t : Task) : Wld := ⟨(fDo w.h t.c).1, w.locks, w.queues, w.tasks.set k ⟨t.c, 3, t.inv, w.step, t.rs, (fDo w.h t.c).2⟩, w.step⟩
noncomputable def fJoin (w : Wld) (k : Nat) (t : Task) : Wld := ⟨w.h, w.locks,
  (match w.queues[(queueIdx w.queues t.c.doc).toNat]? with
   | some q => if 0 ≤ queueIdx w.queues t.c.doc then w.queues.set (queueIdx w.queues t.c.doc).toNat ⟨q.doc, q.list ++ [(k : Int)]⟩ else w.queues.take (queueAhead t.c.doc w.queues) ++ ⟨t.c.doc, [(k : Int)]⟩ :: w.queues.drop (queueAhead t.c.doc w.queues)
   | none => w.queues.take (queueAhead t.c.doc w.queues) ++ ⟨t.c.doc, [(k : Int)]⟩ :: w.queues.drop (queueAhead t.c.doc w.queues)),
  w.tasks.set k ⟨t.c, 2, t.inv, t.lin, t.rs, t.a⟩, w.step⟩
def fullQ (w : Wld) (name : ByteArray) : Prop := ∃ i : Nat, ∃ h : i < w.queues.length, queueIdx w.queues name = i ∧ w.queues[i].list.length = 2
open Classical in
noncomputable def fLocked (w : Wld) (k : Nat) (t : Task) : Wld :=
  if t.c.kind ≠ 2 ∨ w.h.shut = true ∨ docIdx w.h.docs t.c.doc < 0 then fExec ⟨w.h, w.locks.set (stripe t.c.doc w.locks.length) (-1), w.queues, w.tasks, w.step⟩ k t
  else if fullQ w t.c.doc then ⟨w.h, w.locks.set (stripe t.c.doc w.locks.length) (-1), w.queues, w.tasks.set k ⟨t.c, 3, t.inv, t.lin, t.rs, ⟨11, 0, [], []⟩⟩, w.step⟩
  else fJoin ⟨w.h, w.locks.set (stripe t.c.doc w.locks.length) (-1), w.queues, w.tasks, w.step⟩ k t
def stepped (w : Wld) (n : Int) : Wld := ⟨w.h, w.locks, w.queues, w.tasks, n⟩
open Classical in
noncomputable def fPickT (w : Wld) (k : Nat) (t : Task) : Wld × Bool :=
  if t.pc = 0 then
    (if onDoc t.c.kind then
      (if w.locks[stripe t.c.doc w.locks.length]? = some (-1) then (⟨w.h, w.locks.set (stripe t.c.doc w.locks.length) (k : Int), w.queues, w.tasks.set k ⟨t.c, 1, t.inv, t.lin, t.rs, t.a⟩, w.step + 1⟩, true) else (Wld.zero, false))
     else (stepped (fExec w k t) (w.step + 1), true))
  else if t.pc = 1 then (stepped (fLocked w k t) (w.step + 1), true)
  else if t.pc = 3 then (⟨w.h, w.locks, w.queues, w.tasks.set k ⟨t.c, 4, t.inv, t.lin, w.step, t.a⟩, w.step + 1⟩, true)
  else (Wld.zero, false)
open Classical in
noncomputable def fPick (w : Wld) (k : Int) : Wld × Bool :=
  if worldOk w ∧ ¬ w.step = 1000000 ∧ 0 ≤ k then (match w.tasks[k.toNat]? with | some t => fPickT w k.toNat t | none => (Wld.zero, false)) else (Wld.zero, false)
theorem fPick_no {w : Wld} {k : Int} (h : ¬ (worldOk w ∧ ¬ w.step = 1000000 ∧ (0 ≤ k ∧ k ≤ (w.tasks.length : Int) - 1))) : fPick w k = (Wld.zero, false) := by
  unfold fPick
  split
  · rename_i h1
    have hb : ¬ (0 ≤ k ∧ k ≤ (w.tasks.length : Int) - 1) := fun hb => h ⟨h1.1, h1.2.1, hb⟩
    have h2 := h1.2.2; have : w.tasks[k.toNat]? = none := by rw [List.getElem?_eq_none_iff]; omega
    rw [this]
  · rfl
theorem fPick_at {w : Wld} {k : Nat} (h : worldOk w) (hs : ¬ w.step = 1000000) (hk : k < w.tasks.length) : fPick w k = fPickT w k w.tasks[k] := by
  unfold fPick; rw [if_pos ⟨h, hs, by omega⟩]; simp [hk]
theorem fPickT_lock {w : Wld} {k : Nat} {t : Task} (h0 : t.pc = 0) (h1 : onDoc t.c.kind) (h2 : w.locks[stripe t.c.doc w.locks.length]? = some (-1)) :
    fPickT w k t = (⟨w.h, w.locks.set (stripe t.c.doc w.locks.length) (k : Int), w.queues, w.tasks.set k ⟨t.c, 1, t.inv, t.lin, t.rs, t.a⟩, w.step + 1⟩, true) := by unfold fPickT; rw [if_pos h0, if_pos h1, if_pos h2]
theorem fPickT_held {w : Wld} {k : Nat} {t : Task} (h0 : t.pc = 0) (h1 : onDoc t.c.kind) (h2 : ¬ w.locks[stripe t.c.doc w.locks.length]? = some (-1)) : fPickT w k t = (Wld.zero, false) := by unfold fPickT; rw [if_pos h0, if_pos h1, if_neg h2]
theorem fPickT_exec {w : Wld} {k : Nat} {t : Task} (h0 : t.pc = 0) (h1 : ¬ onDoc t.c.kind) : fPickT w k t = (stepped (fExec w k t) (w.step + 1), true) := by unfold fPickT; rw [if_pos h0, if_neg h1]
theorem fPickT_locked {w : Wld} {k : Nat} {t : Task} (h0 : t.pc = 1) : fPickT w k t = (stepped (fLocked w k t) (w.step + 1), true) := by unfold fPickT; rw [if_neg (by omega), if_pos h0]
theorem fPickT_send {w : Wld} {k : Nat} {t : Task} (h0 : t.pc = 3) : fPickT w k t = (⟨w.h, w.locks, w.queues, w.tasks.set k ⟨t.c, 4, t.inv, t.lin, w.step, t.a⟩, w.step + 1⟩, true) := by unfold fPickT; rw [if_neg (by omega), if_neg (by omega), if_pos h0]
theorem fPickT_else {w : Wld} {k : Nat} {t : Task} (h0 : ¬ t.pc = 0) (h1 : ¬ t.pc = 1) (h3 : ¬ t.pc = 3) : fPickT w k t = (Wld.zero, false) := by unfold fPickT; rw [if_neg h0, if_neg h1, if_neg h3]
theorem fLocked_exec {w : Wld} {k : Nat} {t : Task} (q : ¬ t.c.kind = 2 ∨ w.h.shut = true ∨ docIdx w.h.docs t.c.doc < 0) : fLocked w k t = fExec ⟨w.h, w.locks.set (stripe t.c.doc w.locks.length) (-1), w.queues, w.tasks, w.step⟩ k t := by unfold fLocked; rw [if_pos q]
theorem fLocked_busy {w : Wld} {k : Nat} {t : Task} (q : ¬ (¬ t.c.kind = 2 ∨ w.h.shut = true ∨ docIdx w.h.docs t.c.doc < 0)) {i : Nat} (hi : i < w.queues.length) (e : queueIdx w.queues t.c.doc = i) (f : w.queues[i].list.length = 2) :
    fLocked w k t = ⟨w.h, w.locks.set (stripe t.c.doc w.locks.length) (-1), w.queues, w.tasks.set k ⟨t.c, 3, t.inv, t.lin, t.rs, ⟨11, 0, [], []⟩⟩, w.step⟩ := by unfold fLocked; rw [if_neg q, if_pos ⟨i, hi, e, f⟩]
theorem fLocked_have {w : Wld} {k : Nat} {t : Task} (q : ¬ (¬ t.c.kind = 2 ∨ w.h.shut = true ∨ docIdx w.h.docs t.c.doc < 0)) {i : Nat} (hi : i < w.queues.length) (e : queueIdx w.queues t.c.doc = i) (f : ¬ w.queues[i].list.length = 2) :
    fLocked w k t = ⟨w.h, w.locks.set (stripe t.c.doc w.locks.length) (-1), w.queues.set i ⟨w.queues[i].doc, w.queues[i].list ++ [(k : Int)]⟩, w.tasks.set k ⟨t.c, 2, t.inv, t.lin, t.rs, t.a⟩, w.step⟩ := by
  unfold fLocked; rw [if_neg q, if_neg]
  · unfold fJoin
    simp [e, hi]
  · rintro ⟨j, hj, e', f'⟩
    have : j = i := by omega
    subst this; exact f f'
theorem fLocked_new {w : Wld} {k : Nat} {t : Task} (q : ¬ (¬ t.c.kind = 2 ∨ w.h.shut = true ∨ docIdx w.h.docs t.c.doc < 0)) (e : queueIdx w.queues t.c.doc = -1) :
    fLocked w k t = ⟨w.h, w.locks.set (stripe t.c.doc w.locks.length) (-1), w.queues.take (queueAhead t.c.doc w.queues) ++ ⟨t.c.doc, [(k : Int)]⟩ :: w.queues.drop (queueAhead t.c.doc w.queues), w.tasks.set k ⟨t.c, 2, t.inv, t.lin, t.rs, t.a⟩, w.step⟩ := by
  unfold fLocked; rw [if_neg q, if_neg]
  · unfold fJoin
    simp only [e]
    split
    · rw [if_neg (by omega)]
    · rfl
  · rintro ⟨j, hj, e', f'⟩
    omega
def ableAt (w : Wld) (t : Task) : Prop := (t.pc = 0 ∧ onDoc t.c.kind → w.locks[stripe t.c.doc w.locks.length]? = some (-1)) ∧ ¬ t.pc = 2 ∧ ¬ t.pc = 4
theorem fPick_able {w : Wld} {k : Nat} (h : worldOk w) (hs : ¬ w.step = 1000000) (hk : k < w.tasks.length) : (fPick w k).2 = true ↔ ableAt w w.tasks[k] := by
  rw [fPick_at h hs hk]; have hp := (h.1 _ (List.getElem_mem hk)).2.2.1; generalize w.tasks[k] = t at hp; unfold ableAt; by_cases c0 : t.pc = 0
  · by_cases c1 : onDoc t.c.kind
    · by_cases c2 : w.locks[stripe t.c.doc w.locks.length]? = some (-1)
      · rw [fPickT_lock c0 c1 c2]; simp [c0, c2]
      · rw [fPickT_held c0 c1 c2]; simp [c0, c1, c2]
    · rw [fPickT_exec c0 c1]; simp [c0, c1]
  · by_cases c1 : t.pc = 1
    · rw [fPickT_locked c1]; simp [c1]
    · by_cases c3 : t.pc = 3
      · rw [fPickT_send c3]; simp [c3]
      · rw [fPickT_else c0 c1 c3]
        have : t.pc = 2 ∨ t.pc = 4 := by omega
        rcases this with e | e <;> simp [e]
open Classical in
noncomputable def ablesTo (w : Wld) (i : Nat) : List Int := ((List.range i).filter fun k : Nat => decide (∃ h : k < w.tasks.length, ableAt w w.tasks[k])).map (fun k : Nat => (k : Int))
open Classical in
noncomputable def fAble (w : Wld) : List Int := if worldOk w ∧ ¬ w.step = 1000000 then ablesTo w w.tasks.length else []
theorem fAble_no {w : Wld} (h : ¬ (worldOk w ∧ ¬ w.step = 1000000)) : fAble w = [] := by unfold fAble; rw [if_neg h]
theorem ablesTo_zero (w : Wld) : ablesTo w 0 = [] := by simp [ablesTo]
theorem ablesTo_yes {w : Wld} {i : Nat} (h : i < w.tasks.length) (ha : ableAt w w.tasks[i]) : ablesTo w (i + 1) = ablesTo w i ++ [(i : Int)] := by
  classical
  unfold ablesTo; rw [List.range_succ, List.filter_append, List.map_append]; have : decide (∃ h : i < w.tasks.length, ableAt w w.tasks[i]) = true := decide_eq_true ⟨h, ha⟩; simp [this]
theorem ablesTo_no {w : Wld} {i : Nat} (h : i < w.tasks.length) (ha : ¬ ableAt w w.tasks[i]) : ablesTo w (i + 1) = ablesTo w i := by
  classical
  unfold ablesTo; rw [List.range_succ, List.filter_append, List.map_append]; have : decide (∃ h : i < w.tasks.length, ableAt w w.tasks[i]) = false := decide_eq_false fun hb => ha hb.2
  simp [this]
theorem ablesTo_len (w : Wld) (i : Nat) : (ablesTo w i).length ≤ i := by
  unfold ablesTo; rw [List.length_map]; exact Nat.le_trans (List.length_filter_le _ _) (by simp)
open Classical in
noncomputable def outTo (w : Wld) (i : Nat) : List Int := if worldOk w ∧ ¬ w.step = 1000000 then ablesTo w i else []
theorem outTo_zero (w : Wld) : outTo w 0 = [] := by unfold outTo; split <;> simp [ablesTo_zero]
theorem outTo_end (w : Wld) : outTo w w.tasks.length = fAble w := (rfl)
theorem outTo_yes {w : Wld} {i : Nat} (h : i < w.tasks.length) (ha : (fPick w i).2 = true) : outTo w (i + 1) = outTo w i ++ [(i : Int)] := by
  by_cases c : worldOk w ∧ ¬ w.step = 1000000
  · unfold outTo
    rw [if_pos c, if_pos c]; exact ablesTo_yes h ((fPick_able c.1 c.2 h).1 ha)
  · rw [fPick_no (fun h => c ⟨h.1, h.2.1⟩)] at ha
    cases ha
theorem outTo_no {w : Wld} {i : Nat} (h : i < w.tasks.length) (ha : (fPick w i).2 = false) : outTo w (i + 1) = outTo w i := by
  unfold outTo
  split
  · rename_i c
    exact ablesTo_no h (fun hb => by rw [(fPick_able c.1 c.2 h).2 hb] at ha; cases ha)
  · rfl
theorem outTo_len (w : Wld) (i : Nat) : (outTo w i).length ≤ i := by
  unfold outTo
  split
  · exact ablesTo_len w i
  · simp
theorem fAble_b (w : Wld) (_ : w.fits) (h : nWorld w ≤ 2 ^ 20) : (fAble w).length ≤ 2 ^ 40 := by
  have h2 := nL_len (nWorld_parts h).2.2.2; unfold fAble
  split
  · have := ablesTo_len w w.tasks.length; omega
  · simp
end Go.Proofs.YtdfdabjdfmamgaaGreat

namespace Go.Proofs.YtdfdabjdfmamgaaGreat
open Go.AM
set_option maxRecDepth 20000
set_option maxHeartbeats 6400000
theorem rowT15 {l : List Task} {k : Nat} {row : List CD} (h : row.length = 15) : ∀ r ∈ (l.map Task.row).set k row, r.length = 15 := by
  intro r hr; rcases List.mem_or_eq_of_mem_set hr with h1 | h1
  · rw [List.mem_map] at h1
    obtain ⟨x, -, rfl⟩ := h1; rfl
  · rw [h1]; exact h
theorem rowI1 {l : List Int} {k : Nat} {row : List CD} (h : row.length = 1) : ∀ r ∈ (l.map intR).set k row, r.length = 1 := by
  intro r hr; rcases List.mem_or_eq_of_mem_set hr with h1 | h1
  · rw [List.mem_map] at h1
    obtain ⟨x, -, rfl⟩ := h1; rfl
  · rw [h1]; exact h
theorem mod_row {α : Type} {f : α → List CD} {l : List α} {k : Nat} {t : α} (hk : k < l.length) (ht : l[k] = t) (g : List CD → List CD) : (l.map f).modify k g = (l.map f).set k (g (f t)) := by
  refine List.ext_getElem (by simp) (fun j h1 h2 => ?_); simp only [List.getElem_modify, List.getElem_map, List.getElem_set]
  split
  · rename_i e; subst e; rw [ht]
  · rfl
theorem rowQ2 {l : List Queue} {k : Nat} {row : List CD} (h : row.length = 2) : ∀ r ∈ (l.map Queue.row).set k row, r.length = 2 := by
  intro r hr; rcases List.mem_or_eq_of_mem_set hr with h1 | h1
  · rw [List.mem_map] at h1
    obtain ⟨x, -, rfl⟩ := h1; rfl
  · rw [h1]; exact h
theorem queue2 {l : List Queue} {r : List CD} (h : r ∈ l.map Queue.row) : r.length = 2 := by
  rw [List.mem_map] at h; obtain ⟨x, -, rfl⟩ := h; rfl
theorem one_toAV (d : CD) : AV.one (toAV d) = true := by cases d <;> rfl
def qRows (l : List Queue) (qr : List (List CD)) : Prop := qr.length = l.length ∧ ∀ j, ∀ h : j < l.length, ∃ d, qr[j]? = some [.v (.string l[j].doc), d]
theorem qRows_map (l : List Queue) : qRows l (l.map Queue.row) := ⟨by simp, fun j h => ⟨.s (l[j].list.map intR), by simp [h, Queue.row]⟩⟩
theorem qRows_set {l : List Queue} {i : Nat} (hi : i < l.length) (d : CD) : qRows l ((l.map Queue.row).set i [.v (.string l[i].doc), d]) := by
  refine ⟨by simp, fun j h => ?_⟩; by_cases e : i = j
  · subst e; exact ⟨d, by simp [h]⟩
  · exact ⟨.s (l[j].list.map intR), by simp [h, Queue.row, e]⟩
theorem l15QueueG_c (ds ss ls ts : List (List CD)) (sh : Bool) (last step : Int) {qr : List (List CD)} {l : List Queue} (hq : qRows l qr) (hle : l.length ≤ 2 ^ 40) (name : ByteArray) :
    PureC Tryz.prog 322 [.agg [.v (.bool sh), .s ds, .s ss, .v (.int .i64 last), .s ls, .s qr, .s ts, .v (.int .i64 step)], .c (.v (.string name))] (.one (.c (vi (queueIdx l name)) 1)) := by
  refine PureC.intro' tt_ok Tryz.func322 (by kernel_rfl) rfl rfl rfl (Nat.le_of_ble_eq_true rfl) (fun w0 base => ?_); obtain ⟨hq1, hq2⟩ := hq; simp [hq1]; intro b2; refine LoopT.intro eok (fun i : Nat => i ≤ l.length ∧ ∀ j, j < i → ∀ hj : j < l.length, ¬ l[j].doc = name) (fun i => ⟨21, 0, [(10, .v (.int .i64 i)), (9, .v (.int .i64 l.length)), (8, .ro qr), (1, .v (.string name))], []⟩) (fun i => l.length - i) 0 (by simp) (by simp) (fun i hi => ?_); by_cases hlt : i < l.length
  · obtain ⟨d, hd⟩ := hq2 i hlt
    obtain ⟨hd1, hd2⟩ := List.getElem?_eq_some_iff.1 hd; simp [hlt, hq1, hd2, one_toAV]; intro b; by_cases c : l[i].doc = name
    · have e : queueIdx l name = i := fIdx_at hlt c hi.2
      simp [c, e]
    · simp [c]
      exact ⟨i + 1, ⟨by omega, fun j hj hjl => by
        by_cases hji : j = i
        · subst hji; exact c
        · exact hi.2 j (by omega) hjl⟩, by omega, i64_suc (by omega)⟩
  · have e : queueIdx l name = -1 := fIdx_none (fun j hj => hi.2 j (by omega) hj)
    simp [hlt, e]
theorem specPick_i (w : Wld) (hl : nWorld w ≤ 2 ^ 26) (k : Int) : PureC Tryz.prog 164 [.agg w.row, .c (vi k)] (.tup [.agg (fPick w k).1.res, .c (.v (.bool (fPick w k).2)) 1]) := by
  refine PureC.introL tt_ok Tryz.func164 (by kernel_rfl) rfl rfl rfl (Nat.le_of_ble_eq_true rfl) rfl (fun w0 base us hrd => ?_); have hno := @fPick_no w k; have hat := @fPick_at w; have hwo := specWorldOk_i w (by omega); have hcp := l14Copy_c w (by omega); obtain ⟨nh, n2, n3, n4⟩ := nWorld_parts hl; have hle := nL_len n4; have hlq := nL_len n3; simp [Wld.row] at hrd; obtain ⟨r1, r2, r3, r4, r5⟩ := hrd; simp [Wld.row]; intro b2 b4; refine ACall.pure hwo (by simp [Wld.row, r1, r2, r3, r4, r5]) ?_; by_cases c1 : worldOk w
  rotate_left
  · simp [dc_neg c1, hno (fun h => c1 h.1), Wld.res, Wld.zero, Hub.zero]
  simp [c1]; by_cases c2 : w.step = 1000000
  · simp [c2, hno (fun h => h.2.1 c2), Wld.res, Wld.zero, Hub.zero]
  simp [c2]; refine ACall.pure (l01In_c k 0 ((w.tasks.length : Int) - 1)) (by simp; exact (Go.IntWalk.i64_in _ (by omega)).symm) ?_; by_cases c3 : 0 ≤ k ∧ k ≤ (w.tasks.length : Int) - 1
  rotate_left
  · simp [dc_neg c3, hno (fun h => c3 h.2.2), Wld.res, Wld.zero, Hub.zero]
  obtain ⟨k, rfl⟩ : ∃ n : Nat, k = n := ⟨k.toNat, by omega⟩; have hk : k < w.tasks.length := by omega
  rw [hat c1 c2 hk]; simp [c3]; refine ACall.pure hcp (by simp [Wld.row, r1, r2, r3, r4, r5]) ?_; have htk := (c1.1 _ (List.getElem_mem hk)); obtain ⟨t, ht⟩ : ∃ t, w.tasks[k] = t := ⟨_, rfl⟩; rw [ht] at htk ⊢; have hpc := htk.2.2.1; have hm := fun g => mod_row (f := Task.row) hk ht g
  have ew : Go.IntKind.i64.wrap (w.step + 1) = w.step + 1 := Go.IntWalk.i64_in _ (by have := c1.2.2.2.2.1; omega); have hdsz := htk.1.2.1; have hdo := specDo_i w.h (by omega) t.c (by have := callOk_n htk.1; omega); have hs1 := (stripe_eq t.c.doc c1.2.2.1.1); simp [Wld.res, hk, ht, Task.row]; intro H1 H2 H3 H4 H5 b6; by_cases p0 : t.pc = 0
  · simp [p0, hk, ht, Task.row]
    refine ACall.pure (specOnDoc_c t.c.kind) (by simp) ?_; by_cases d : onDoc t.c.kind
    rotate_left
    · rw [fPickT_exec p0 d]
      simp [dc_neg d]; generalize hR : fDo w.h t.c = R at hdo; obtain ⟨h', a'⟩ := R; refine ACall.inlineQ tt_ok Tryz.func253 (by kernel_rfl) rfl rfl rfl (Nat.le_of_ble_eq_true rfl) 20000 rfl (by simp) ?_; refine DrawT.cutS (fun x : (Hd × Hd × Hd × Hd) × Nat × Nat => [(4, .p 20064 x.2.1 0), (5, .p 20080 x.2.2 0)]) (fun x => [(20064, .vars x.2.1 45 [.v (.bool h'.shut), .sl 20305 x.1.1 5 0 h'.docs.length, .sl 20306 x.1.2.1 6 0 h'.subs.length, .v (.int .i64 h'.last)]), (20080, .vars x.2.2 141 [.v (.int .i64 a'.code), .v (.int .i64 a'.rev), .sl 20310 x.1.2.2.1 1 0 a'.text.length, .sl 20311 x.1.2.2.2 3 0 a'.list.length]), (20305, .rows x.1.1 5 (h'.docs.map Doc.row) true), (20306, .rows x.1.2.1 6 (h'.subs.map Sub.row) true), (20310, .rows x.1.2.2.1 1 (a'.text.map intR) true), (20311, .rows x.1.2.2.2 3 (a'.list.map Entry.row) true)]) [0, 1] ?_ ?_
      · refine DrawT.introS eok mix [0, 1, 2, 3, 4, 5, 6, 7, 8, 9, 10, 11] [12, 13, 14, 15, 16, 17, 18, 19] (.child 12 [true, false, false, false, false, false, false, false, true, false, false, false] [false, true, true, true, true, true, true, true, false, true, true, true] (.child 13 [false, false, false, false, false, false, false, false, false, false, false, false] [false, true, true, true, true, true, true, true, false, true, true, true] (.child 14 [false, false, false, false, false, false, false, false, false, false, false, false] [false, true, true, true, true, true, true, true, false, true, true, true] (.child 15 [false, false, false, false, false, false, false, false, false, false, false, false] [false, true, true, true, true, true, true, true, false, true, true, true] (.child 16 [false, false, false, false, false, false, false, false, false, false, false, false] [false, true, true, true, true, true, true, true, false, true, true, true] (.child 17 [false, false, false, false, false, false, false, false, false, false, false, false] [false, true, true, true, true, true, true, true, false, true, true, true] (.child 18 [false, true, true, true, true, true, true, true, false, true, true, true] [false, false, false, false, false, false, false, false, false, false, false, false] (.child 19 [false, false, false, false, false, false, false, false, false, false, false, false] [false, false, false, false, false, false, false, false, false, false, false, false] (.leaf [false, false, false, false, false, false, false, false, false, false, false, false]) .stop) .stop) .stop) (.child 17 [false, false, false, false, false, false, false, false, false, false, false, false] [false, true, true, true, true, true, true, true, false, true, true, true] (.child 16 [false, false, false, false, false, false, false, false, false, false, false, false] [false, true, true, true, true, true, true, true, false, true, true, true] (.child 18 [false, true, true, true, true, true, true, true, false, true, true, true] [false, false, false, false, false, false, false, false, false, false, false, false] (.child 19 [false, false, false, false, false, false, false, false, false, false, false, false] [false, false, false, false, false, false, false, false, false, false, false, false] (.leaf [false, false, false, false, false, false, false, false, false, false, false, false]) .stop) .stop) .stop) .stop)) .stop) .stop) .stop) (.child 16 [false, false, false, false, false, false, false, false, false, false, false, false] [true, true, true, true, true, true, true, true, true, true, true, true] (.child 12 [true, false, false, false, false, false, false, false, true, false, false, false] [false, true, true, true, true, true, true, true, false, true, true, true] (.child 13 [false, false, false, false, false, false, false, false, false, false, false, false] [false, true, true, true, true, true, true, true, false, true, true, true] (.child 14 [false, false, false, false, false, false, false, false, false, false, false, false] [false, true, true, true, true, true, true, true, false, true, true, true] (.child 15 [false, false, false, false, false, false, false, false, false, false, false, false] [false, true, true, true, true, true, true, true, false, true, true, true] (.child 17 [false, false, false, false, false, false, false, false, false, false, false, false] [false, true, true, true, true, true, true, true, false, true, true, true] (.child 18 [false, true, true, true, true, true, true, true, false, true, true, true] [false, false, false, false, false, false, false, false, false, false, false, false] (.child 19 [false, false, false, false, false, false, false, false, false, false, false, false] [false, false, false, false, false, false, false, false, false, false, false, false] (.leaf [false, false, false, false, false, false, false, false, false, false, false, false]) .stop) .stop) .stop) .stop) .stop) .stop) (.child 17 [false, false, false, false, false, false, false, false, false, false, false, false] [true, true, true, true, true, true, true, true, true, true, true, true] (.child 12 [true, false, false, false, false, false, false, false, true, false, false, false] [false, true, true, true, true, true, true, true, false, true, true, true] (.child 13 [false, false, false, false, false, false, false, false, false, false, false, false] [false, true, true, true, true, true, true, true, false, true, true, true] (.child 14 [false, false, false, false, false, false, false, false, false, false, false, false] [false, true, true, true, true, true, true, true, false, true, true, true] (.child 15 [false, false, false, false, false, false, false, false, false, false, false, false] [false, true, true, true, true, true, true, true, false, true, true, true] (.child 18 [false, true, true, true, true, true, true, true, false, true, true, true] [false, false, false, false, false, false, false, false, false, false, false, false] (.child 19 [false, false, false, false, false, false, false, false, false, false, false, false] [false, false, false, false, false, false, false, false, false, false, false, false] (.leaf [false, false, false, false, false, false, false, false, false, false, false, false]) .stop) .stop) .stop) .stop) .stop) .stop) .stop)) (.child 17 [false, false, false, false, false, false, false, false, false, false, false, false] [true, true, true, true, true, true, true, true, true, true, true, true] (.child 12 [true, false, false, false, false, false, false, false, true, false, false, false] [false, true, true, true, true, true, true, true, false, true, true, true] (.child 13 [false, false, false, false, false, false, false, false, false, false, false, false] [false, true, true, true, true, true, true, true, false, true, true, true] (.child 14 [false, false, false, false, false, false, false, false, false, false, false, false] [false, true, true, true, true, true, true, true, false, true, true, true] (.child 15 [false, false, false, false, false, false, false, false, false, false, false, false] [false, true, true, true, true, true, true, true, false, true, true, true] (.child 16 [false, false, false, false, false, false, false, false, false, false, false, false] [false, true, true, true, true, true, true, true, false, true, true, true] (.child 18 [false, true, true, true, true, true, true, true, false, true, true, true] [false, false, false, false, false, false, false, false, false, false, false, false] (.child 19 [false, false, false, false, false, false, false, false, false, false, false, false] [false, false, false, false, false, false, false, false, false, false, false, false] (.leaf [false, false, false, false, false, false, false, false, false, false, false, false]) .stop) .stop) .stop) .stop) .stop) .stop) (.child 16 [false, false, false, false, false, false, false, false, false, false, false, false] [true, true, true, true, true, true, true, true, true, true, true, true] (.child 12 [true, false, false, false, false, false, false, false, true, false, false, false] [false, true, true, true, true, true, true, true, false, true, true, true] (.child 13 [false, false, false, false, false, false, false, false, false, false, false, false] [false, true, true, true, true, true, true, true, false, true, true, true] (.child 14 [false, false, false, false, false, false, false, false, false, false, false, false] [false, true, true, true, true, true, true, true, false, true, true, true] (.child 15 [false, false, false, false, false, false, false, false, false, false, false, false] [false, true, true, true, true, true, true, true, false, true, true, true] (.child 18 [false, true, true, true, true, true, true, true, false, true, true, true] [false, false, false, false, false, false, false, false, false, false, false, false] (.child 19 [false, false, false, false, false, false, false, false, false, false, false, false] [false, false, false, false, false, false, false, false, false, false, false, false] (.leaf [false, false, false, false, false, false, false, false, false, false, false, false]) .stop) .stop) .stop) .stop) .stop) .stop) .stop)) .stop))) (by kernel_rfl) ?_
        simp [hk, ht, Task.row]
        try intros
        rw [Tr_child]; refine ⟨?_, ?_⟩
        · skip
          simp [hk]
          try intros
          refine ACall.pure (hdo) (by simp [Hub.row, Call.row]) ?_; simp [Hub.res, Answer.res]
          try intros
          rw [Tr_child]; refine ⟨?_, ?_⟩
          · skip
            simp [hk]
            try intros
            exact ⟨_, _, _, _, _, _, ⟨rfl, rfl⟩, ⟨rfl, rfl, rfl⟩, ⟨rfl, rfl, rfl⟩, rfl, rfl, rfl, rfl⟩
          · skip
            simp [hk]
            try intros
            exact ⟨_, _, _, _, _, _, ⟨rfl, rfl⟩, ⟨rfl, rfl, rfl⟩, ⟨rfl, rfl, rfl⟩, rfl, rfl, rfl, rfl⟩
        · skip
          rw [Tr_child]; refine ⟨?_, ?_⟩
          · skip
            simp [hk, ht, Task.row]
            try intros
            rw [Tr_child]; refine ⟨?_, ?_⟩
            · skip
              simp [hk]
              try intros
              refine ACall.pure (hdo) (by simp [Hub.row, Call.row]) ?_; simp [Hub.res, Answer.res]
              try intros
              exact ⟨_, _, _, _, _, _, ⟨rfl, rfl⟩, ⟨rfl, rfl, rfl⟩, ⟨rfl, rfl, rfl⟩, rfl, rfl, rfl, rfl⟩
            · skip
              simp [hk, ht, Task.row]
              try intros
              refine ACall.pure (hdo) (by simp [Hub.row, Call.row]) ?_; simp [Hub.res, Answer.res]
              try intros
              exact ⟨_, _, _, _, _, _, ⟨rfl, rfl⟩, ⟨rfl, rfl, rfl⟩, ⟨rfl, rfl, rfl⟩, rfl, rfl, rfl, rfl⟩
          · skip
            simp [hk, ht, Task.row]
            try intros
            rw [Tr_child]; refine ⟨?_, ?_⟩
            · skip
              simp [hk]
              try intros
              refine ACall.pure (hdo) (by simp [Hub.row, Call.row]) ?_; simp [Hub.res, Answer.res]
              try intros
              exact ⟨_, _, _, _, _, _, ⟨rfl, rfl⟩, ⟨rfl, rfl, rfl⟩, ⟨rfl, rfl, rfl⟩, rfl, rfl, rfl, rfl⟩
            · skip
              simp [hk, ht, Task.row]
              try intros
              refine ACall.pure (hdo) (by simp [Hub.row, Call.row]) ?_; simp [Hub.res, Answer.res]
              try intros
              exact ⟨_, _, _, _, _, _, ⟨rfl, rfl⟩, ⟨rfl, rfl, rfl⟩, ⟨rfl, rfl, rfl⟩, rfl, rfl, rfl, rfl⟩
      rintro ⟨⟨K1, K2, K3, K4⟩, e1, e2⟩
      simp; refine DrawT.introS eok mix [0, 1, 2, 3, 4, 5, 6, 7] [8] (.child 8 [true, false, true, true, true, true, true, true] [false, true, false, false, false, false, false, false] (.leaf [false, true, false, false, false, false, false, false]) .stop) (by kernel_rfl) ?_; simp [hk, Task.row, hm]
      try intros
      refine DrawT.introS eok mix [0, 1, 2, 3, 4, 5, 6, 7, 8, 9, 10] [11] (.child 11 [true, false, true, true, true, true, true, true, true, true, true] [false, true, false, false, false, false, false, false, false, false, false] (.leaf [false, true, false, false, false, false, false, false, false, false, false]) .stop) (by kernel_rfl) ?_; simp [hk, modify_set]
      try intros
      simp [ew, stepped, fExec, hR, Task.row]; exact fun r hr => rowT15 rfl r hr
    simp [d]; refine DrawT.introS eok mix [0, 1, 2, 3, 4, 5, 6, 7] [8, 9] (.child 8 [true, false, false, true, false, false, false, false] [false, true, true, false, true, true, true, true] (.child 9 [false, true, true, false, true, true, true, true] [false, false, false, false, false, false, false, false] (.leaf [false, false, false, false, false, false, false, false]) .stop) .stop) (by kernel_rfl) ?_; simp [hk, ht, Task.row]
    try intros
    refine ACall.pure (specStripe_c t.c.doc (by omega) w.locks.length (by omega) (by omega)) (by simp) ?_; simp
    try intros
    have hs2 := hs1.2; simp [hs2]; by_cases f : w.locks[stripe t.c.doc w.locks.length] = -1
    rotate_left
    · rw [fPickT_held p0 d (by rw [List.getElem?_eq_getElem hs2]; simpa using f)]
      simp [f, Wld.zero, Hub.zero]
    rw [fPickT_lock p0 d (by rw [List.getElem?_eq_getElem hs2]; simpa using f)]; simp [f, hs2, hm, hk, Task.row, ew]; exact ⟨fun r hr => rowI1 rfl r hr, fun r hr => rowT15 rfl r hr⟩
  by_cases p1 : t.pc = 1
  · rw [fPickT_locked p1]
    simp [p1]; refine ACall.inlineQ tt_ok Tryz.func254 (by kernel_rfl) rfl rfl rfl (Nat.le_of_ble_eq_true rfl) 30000 rfl (by simp) ?_; have hs2 := hs1.2; simp [hk]
    refine DrawT.introS eok mix [0, 1, 2, 3, 4, 5, 6, 7, 8, 9, 10, 11, 12, 13] [14, 15, 16] (.child 14 [true, false, false, false, false, true, false, false, false, false, false, false, false, false] [false, true, true, true, true, false, true, true, true, true, true, true, true, true] (.child 15 [false, true, true, true, true, false, true, true, true, true, true, true, true, true] [false, false, false, false, false, false, false, false, false, false, false, false, false, false] (.child 16 [false, false, false, false, false, false, false, false, false, false, false, false, false, false] [false, false, false, false, false, false, false, false, false, false, false, false, false, false] (.leaf [false, false, false, false, false, false, false, false, false, false, false, false, false, false]) .stop) .stop) .stop) (by kernel_rfl) ?_; simp [hk, ht, Task.row]
    try intros
    refine ACall.pure (specStripe_c t.c.doc (by omega) w.locks.length (by omega) (by omega)) (by simp) ?_; simp
    try intros
    simp [hs2]; have hdoc := specHubDoc_c w.h (by omega) t.c.doc; obtain ⟨q0, hq0⟩ : ∃ q : Prop, q = (¬ t.c.kind = 2 ∨ w.h.shut = true ∨ docIdx w.h.docs t.c.doc < 0) := ⟨_, rfl⟩; refine DrawT.cutS (fun _ : Unit => [(53, .v (.bool (dc q0)))]) (fun _ => []) [0, 1, 4] ?_ ?_
    · by_cases q1 : t.c.kind = 2
      · cases q2 : w.h.shut with
        | true =>
          have hq : q0 := by rw [hq0]; exact .inr (.inl q2)
          refine DrawT.quiet eok mix (by kernel_rfl) ?_; simp [hk, ht, Task.row, q1, hq]
        | false =>
          have hq : q0 ↔ docIdx w.h.docs t.c.doc < 0 := by rw [hq0, q1, q2]; simp
          refine DrawT.quiet eok mix (by kernel_rfl) ?_; simp [hk, ht, Task.row, q1]; refine ⟨_, _, hdoc, by simp [Hub.row, q2], ?_⟩; simp [hq]
      · have hq : q0 := by rw [hq0]; exact .inl q1
        refine DrawT.quiet eok mix (by kernel_rfl) ?_; simp [hk, ht, Task.row, q1, hq]
    intro _; by_cases q : q0
    · rw [fLocked_exec (by rw [← hq0]; exact q)]
      simp [q]; generalize hR : fDo w.h t.c = R at hdo; obtain ⟨h', a'⟩ := R; refine ACall.inlineQ tt_ok Tryz.func253 (by kernel_rfl) rfl rfl rfl (Nat.le_of_ble_eq_true rfl) 40000 rfl (by simp) ?_; refine DrawT.cutS (fun x : (Hd × Hd × Hd × Hd) × Nat × Nat => [(4, .p 40064 x.2.1 0), (5, .p 40080 x.2.2 0)]) (fun x => [(40064, .vars x.2.1 45 [.v (.bool h'.shut), .sl 40305 x.1.1 5 0 h'.docs.length, .sl 40306 x.1.2.1 6 0 h'.subs.length, .v (.int .i64 h'.last)]), (40080, .vars x.2.2 141 [.v (.int .i64 a'.code), .v (.int .i64 a'.rev), .sl 40310 x.1.2.2.1 1 0 a'.text.length, .sl 40311 x.1.2.2.2 3 0 a'.list.length]), (40305, .rows x.1.1 5 (h'.docs.map Doc.row) true), (40306, .rows x.1.2.1 6 (h'.subs.map Sub.row) true), (40310, .rows x.1.2.2.1 1 (a'.text.map intR) true), (40311, .rows x.1.2.2.2 3 (a'.list.map Entry.row) true)]) [0, 1] ?_ ?_
      · refine DrawT.introS eok mix [0, 1, 2, 3, 4, 5, 6, 7, 8, 9, 10, 11] [12, 13, 14, 15, 16, 17, 18, 19] (.child 12 [true, false, false, false, false, false, false, false, true, false, false, false] [false, true, true, true, true, true, true, true, false, true, true, true] (.child 13 [false, false, false, false, false, false, false, false, false, false, false, false] [false, true, true, true, true, true, true, true, false, true, true, true] (.child 14 [false, false, false, false, false, false, false, false, false, false, false, false] [false, true, true, true, true, true, true, true, false, true, true, true] (.child 15 [false, false, false, false, false, false, false, false, false, false, false, false] [false, true, true, true, true, true, true, true, false, true, true, true] (.child 16 [false, false, false, false, false, false, false, false, false, false, false, false] [false, true, true, true, true, true, true, true, false, true, true, true] (.child 17 [false, false, false, false, false, false, false, false, false, false, false, false] [false, true, true, true, true, true, true, true, false, true, true, true] (.child 18 [false, true, true, true, true, true, true, true, false, true, true, true] [false, false, false, false, false, false, false, false, false, false, false, false] (.child 19 [false, false, false, false, false, false, false, false, false, false, false, false] [false, false, false, false, false, false, false, false, false, false, false, false] (.leaf [false, false, false, false, false, false, false, false, false, false, false, false]) .stop) .stop) .stop) (.child 17 [false, false, false, false, false, false, false, false, false, false, false, false] [false, true, true, true, true, true, true, true, false, true, true, true] (.child 16 [false, false, false, false, false, false, false, false, false, false, false, false] [false, true, true, true, true, true, true, true, false, true, true, true] (.child 18 [false, true, true, true, true, true, true, true, false, true, true, true] [false, false, false, false, false, false, false, false, false, false, false, false] (.child 19 [false, false, false, false, false, false, false, false, false, false, false, false] [false, false, false, false, false, false, false, false, false, false, false, false] (.leaf [false, false, false, false, false, false, false, false, false, false, false, false]) .stop) .stop) .stop) .stop)) .stop) .stop) .stop) (.child 16 [false, false, false, false, false, false, false, false, false, false, false, false] [true, true, true, true, true, true, true, true, true, true, true, true] (.child 12 [true, false, false, false, false, false, false, false, true, false, false, false] [false, true, true, true, true, true, true, true, false, true, true, true] (.child 13 [false, false, false, false, false, false, false, false, false, false, false, false] [false, true, true, true, true, true, true, true, false, true, true, true] (.child 14 [false, false, false, false, false, false, false, false, false, false, false, false] [false, true, true, true, true, true, true, true, false, true, true, true] (.child 15 [false, false, false, false, false, false, false, false, false, false, false, false] [false, true, true, true, true, true, true, true, false, true, true, true] (.child 17 [false, false, false, false, false, false, false, false, false, false, false, false] [false, true, true, true, true, true, true, true, false, true, true, true] (.child 18 [false, true, true, true, true, true, true, true, false, true, true, true] [false, false, false, false, false, false, false, false, false, false, false, false] (.child 19 [false, false, false, false, false, false, false, false, false, false, false, false] [false, false, false, false, false, false, false, false, false, false, false, false] (.leaf [false, false, false, false, false, false, false, false, false, false, false, false]) .stop) .stop) .stop) .stop) .stop) .stop) (.child 17 [false, false, false, false, false, false, false, false, false, false, false, false] [true, true, true, true, true, true, true, true, true, true, true, true] (.child 12 [true, false, false, false, false, false, false, false, true, false, false, false] [false, true, true, true, true, true, true, true, false, true, true, true] (.child 13 [false, false, false, false, false, false, false, false, false, false, false, false] [false, true, true, true, true, true, true, true, false, true, true, true] (.child 14 [false, false, false, false, false, false, false, false, false, false, false, false] [false, true, true, true, true, true, true, true, false, true, true, true] (.child 15 [false, false, false, false, false, false, false, false, false, false, false, false] [false, true, true, true, true, true, true, true, false, true, true, true] (.child 18 [false, true, true, true, true, true, true, true, false, true, true, true] [false, false, false, false, false, false, false, false, false, false, false, false] (.child 19 [false, false, false, false, false, false, false, false, false, false, false, false] [false, false, false, false, false, false, false, false, false, false, false, false] (.leaf [false, false, false, false, false, false, false, false, false, false, false, false]) .stop) .stop) .stop) .stop) .stop) .stop) .stop)) (.child 17 [false, false, false, false, false, false, false, false, false, false, false, false] [true, true, true, true, true, true, true, true, true, true, true, true] (.child 12 [true, false, false, false, false, false, false, false, true, false, false, false] [false, true, true, true, true, true, true, true, false, true, true, true] (.child 13 [false, false, false, false, false, false, false, false, false, false, false, false] [false, true, true, true, true, true, true, true, false, true, true, true] (.child 14 [false, false, false, false, false, false, false, false, false, false, false, false] [false, true, true, true, true, true, true, true, false, true, true, true] (.child 15 [false, false, false, false, false, false, false, false, false, false, false, false] [false, true, true, true, true, true, true, true, false, true, true, true] (.child 16 [false, false, false, false, false, false, false, false, false, false, false, false] [false, true, true, true, true, true, true, true, false, true, true, true] (.child 18 [false, true, true, true, true, true, true, true, false, true, true, true] [false, false, false, false, false, false, false, false, false, false, false, false] (.child 19 [false, false, false, false, false, false, false, false, false, false, false, false] [false, false, false, false, false, false, false, false, false, false, false, false] (.leaf [false, false, false, false, false, false, false, false, false, false, false, false]) .stop) .stop) .stop) .stop) .stop) .stop) (.child 16 [false, false, false, false, false, false, false, false, false, false, false, false] [true, true, true, true, true, true, true, true, true, true, true, true] (.child 12 [true, false, false, false, false, false, false, false, true, false, false, false] [false, true, true, true, true, true, true, true, false, true, true, true] (.child 13 [false, false, false, false, false, false, false, false, false, false, false, false] [false, true, true, true, true, true, true, true, false, true, true, true] (.child 14 [false, false, false, false, false, false, false, false, false, false, false, false] [false, true, true, true, true, true, true, true, false, true, true, true] (.child 15 [false, false, false, false, false, false, false, false, false, false, false, false] [false, true, true, true, true, true, true, true, false, true, true, true] (.child 18 [false, true, true, true, true, true, true, true, false, true, true, true] [false, false, false, false, false, false, false, false, false, false, false, false] (.child 19 [false, false, false, false, false, false, false, false, false, false, false, false] [false, false, false, false, false, false, false, false, false, false, false, false] (.leaf [false, false, false, false, false, false, false, false, false, false, false, false]) .stop) .stop) .stop) .stop) .stop) .stop) .stop)) .stop))) (by kernel_rfl) ?_
        simp [hk, ht, Task.row]
        try intros
        rw [Tr_child]; refine ⟨?_, ?_⟩
        · skip
          simp [hk]
          try intros
          refine ACall.pure (hdo) (by simp [Hub.row, Call.row]) ?_; simp [Hub.res, Answer.res]
          try intros
          rw [Tr_child]; refine ⟨?_, ?_⟩
          · skip
            simp [hk]
            try intros
            exact ⟨_, _, _, _, _, _, ⟨rfl, rfl⟩, ⟨rfl, rfl, rfl⟩, ⟨rfl, rfl, rfl⟩, rfl, rfl, rfl, rfl⟩
          · skip
            simp [hk]
            try intros
            exact ⟨_, _, _, _, _, _, ⟨rfl, rfl⟩, ⟨rfl, rfl, rfl⟩, ⟨rfl, rfl, rfl⟩, rfl, rfl, rfl, rfl⟩
        · skip
          rw [Tr_child]; refine ⟨?_, ?_⟩
          · skip
            simp [hk, ht, Task.row]
            try intros
            rw [Tr_child]; refine ⟨?_, ?_⟩
            · skip
              simp [hk]
              try intros
              refine ACall.pure (hdo) (by simp [Hub.row, Call.row]) ?_; simp [Hub.res, Answer.res]
              try intros
              exact ⟨_, _, _, _, _, _, ⟨rfl, rfl⟩, ⟨rfl, rfl, rfl⟩, ⟨rfl, rfl, rfl⟩, rfl, rfl, rfl, rfl⟩
            · skip
              simp [hk, ht, Task.row]
              try intros
              refine ACall.pure (hdo) (by simp [Hub.row, Call.row]) ?_; simp [Hub.res, Answer.res]
              try intros
              exact ⟨_, _, _, _, _, _, ⟨rfl, rfl⟩, ⟨rfl, rfl, rfl⟩, ⟨rfl, rfl, rfl⟩, rfl, rfl, rfl, rfl⟩
          · skip
            simp [hk, ht, Task.row]
            try intros
            rw [Tr_child]; refine ⟨?_, ?_⟩
            · skip
              simp [hk]
              try intros
              refine ACall.pure (hdo) (by simp [Hub.row, Call.row]) ?_; simp [Hub.res, Answer.res]
              try intros
              exact ⟨_, _, _, _, _, _, ⟨rfl, rfl⟩, ⟨rfl, rfl, rfl⟩, ⟨rfl, rfl, rfl⟩, rfl, rfl, rfl, rfl⟩
            · skip
              simp [hk, ht, Task.row]
              try intros
              refine ACall.pure (hdo) (by simp [Hub.row, Call.row]) ?_; simp [Hub.res, Answer.res]
              try intros
              exact ⟨_, _, _, _, _, _, ⟨rfl, rfl⟩, ⟨rfl, rfl, rfl⟩, ⟨rfl, rfl, rfl⟩, rfl, rfl, rfl, rfl⟩
      rintro ⟨⟨K1, K2, K3, K4⟩, e1, e2⟩
      simp; refine DrawT.introS eok mix [0, 1, 2, 3, 4, 5, 6, 7] [8] (.child 8 [true, false, true, true, true, true, true, true] [false, true, false, false, false, false, false, false] (.leaf [false, true, false, false, false, false, false, false]) .stop) (by kernel_rfl) ?_; simp [hk, Task.row, hm]
      try intros
      refine DrawT.introS eok mix [0, 1, 2, 3, 4, 5, 6, 7, 8, 9, 10] [11] (.child 11 [true, false, true, true, true, true, true, true, true, true, true] [false, true, false, false, false, false, false, false, false, false, false] (.leaf [false, true, false, false, false, false, false, false, false, false, false]) .stop) (by kernel_rfl) ?_; simp [hk, modify_set]
      try intros
      simp [ew, stepped, fExec, hR, Task.row]; exact ⟨fun r hr => rowI1 rfl r hr, fun r hr => rowT15 rfl r hr⟩
    have q' : ¬ (¬ t.c.kind = 2 ∨ w.h.shut = true ∨ docIdx w.h.docs t.c.doc < 0) := by rw [← hq0]; exact q
    have hi1 : ∀ x : Int, intR x = [CD.v (.int .i64 x)] := fun _ => rfl
    simp [dc_neg q]; rcases queueIdx_cases w.queues t.c.doc with ⟨i, hi, eq, hd⟩ | eq
    · have hrow : ∀ d, setC (w.queues.map Queue.row) i 1 d = (w.queues.map Queue.row).set i [.v (.string w.queues[i].doc), d] := fun d => mod_row (f := Queue.row) hi rfl _
      by_cases f : w.queues[i].list.length = 2
      · rw [fLocked_busy q' hi eq f]
        have f' : (w.queues[i].list.length : Int) = 2 := by omega
        refine DrawT.introS eok mix [0, 1, 2, 3, 4, 5, 6, 7] [8, 9] (.child 8 [true, false, false, false, false, true, false, false] [false, true, true, true, true, false, true, true] (.child 9 [false, true, true, true, true, false, true, true] [false, false, false, false, false, false, false, false] (.leaf [false, false, false, false, false, false, false, false]) .stop) .stop) (by kernel_rfl) ?_; simp [hk, ht, Task.row]
        try intros
        refine ACall.pure (l15QueueG_c (w.h.docs.map Doc.row) (w.h.subs.map Sub.row) ((w.locks.map intR).set (stripe t.c.doc w.locks.length) [.v (.int .i64 (-1))]) (w.tasks.map Task.row) w.h.shut w.h.last w.step (qRows_map w.queues) (by omega) t.c.doc) (by simp) ?_; simp
        try intros
        simp [eq, hi, Queue.row, f', hk, Task.row, hm, modify_set, stepped, ew, hi1]; exact ⟨fun r hr => rowI1 rfl r hr, fun r hr => rowT15 rfl r hr⟩
      have f' : ¬ (w.queues[i].list.length : Int) = 2 := by omega
      have hqa := (Classical.byContradiction (p := queueAt w.h w.queues i) fun hn => queuesOk_no hi (queuesRun_bad hi hn) c1.2.2.2.2.2.2.2) hi; have hpos : 0 < w.queues[i].list.length := hqa.2.1.1; have hle2 := hqa.2.1.2; rw [fLocked_have q' hi eq f]; refine DrawT.open (fun _ h => h) (k := 453) (i := i) (j := 1) (k' := 60000) (sz' := 1) (sz := 2) (H := H4) (rows := w.queues.map Queue.row) (srows := w.queues[i].list.map intR) (row := w.queues[i].row) (by simp) (by simp [hi]) rfl (by simp) (by decide) (by simp [intR]) (by simp) (fun G => ?_)
      refine DrawT.introS eok mix [0, 1, 2, 3, 4, 5, 6, 7] [8, 9] (.child 8 [true, false, false, false, false, true, false, false] [false, true, true, true, true, false, true, true] (.child 9 [false, true, true, true, true, false, true, true] [false, false, false, false, false, false, false, false] (.leaf [false, false, false, false, false, false, false, false]) .stop) .stop) (by kernel_rfl) ?_; simp [hk, ht, Task.row, hrow]
      try intros
      refine ACall.pure (l15QueueG_c (w.h.docs.map Doc.row) (w.h.subs.map Sub.row) ((w.locks.map intR).set (stripe t.c.doc w.locks.length) [.v (.int .i64 (-1))]) (w.tasks.map Task.row) w.h.shut w.h.last w.step (qRows_set hi (.h 60000 G 1 w.queues[i].list.length)) (by omega) t.c.doc) (by simp) ?_; simp
      try intros
      simp [eq, hi, f']; refine ACall.inlineQ tt_ok Tryz.func323 (by kernel_rfl) rfl rfl rfl (Nat.le_of_ble_eq_true rfl) 50000 rfl (by simp) ?_; simp [hk, ht, Task.row, hm]; refine ACall.pure (l15QueueG_c (w.h.docs.map Doc.row) (w.h.subs.map Sub.row) ((w.locks.map intR).set (stripe t.c.doc w.locks.length) [.v (.int .i64 (-1))]) ((w.tasks.map Task.row).set k (Task.row ⟨t.c, 2, t.inv, t.lin, t.rs, t.a⟩)) w.h.shut w.h.last w.step (qRows_set hi (.h 60000 G 1 w.queues[i].list.length)) (by omega) t.c.doc) (by simp [Task.row]) ?_; simp [eq]
      refine DrawT.introS eok mix [0, 1, 2, 3, 4, 5, 6, 7, 8, 9, 10, 11, 12, 13, 16, 17] [14, 15, 18] (.child 14 [false, false, true, false, false, false, false, false, false, false, false, false, false, false, false, false] [true, true, false, true, true, true, true, true, true, true, true, true, true, true, true, true] (.child 15 [false, false, false, true, false, false, false, false, false, false, false, false, false, false, false, false] [true, true, false, false, true, true, true, true, true, true, true, true, true, true, true, true] (.child 18 [true, false, false, false, true, true, true, true, true, true, true, true, true, true, true, true] [false, true, false, false, false, false, false, false, false, false, false, false, false, false, false, false] (.leaf [false, true, false, false, false, false, false, false, false, false, false, false, false, false, false, false]) .stop) .stop) .stop) (by kernel_rfl) ?_
      simp [hi, hpos, modify_set]
      try intros
      simp [Queue.row, Task.row, stepped, ew, hi1]; exact ⟨by omega, fun r hr => rowI1 rfl r hr, fun r hr => rowQ2 rfl r hr, fun r hr => rowT15 rfl r hr⟩
    rw [fLocked_new q' eq]; refine DrawT.introS eok mix [0, 1, 2, 3, 4, 5, 6, 7] [8, 9] (.child 8 [true, false, false, false, false, true, false, false] [false, true, true, true, true, false, true, true] (.child 9 [false, true, true, true, true, false, true, true] [false, false, false, false, false, false, false, false] (.leaf [false, false, false, false, false, false, false, false]) .stop) .stop) (by kernel_rfl) ?_; simp [hk, ht, Task.row]
    try intros
    refine ACall.pure (l15QueueG_c (w.h.docs.map Doc.row) (w.h.subs.map Sub.row) ((w.locks.map intR).set (stripe t.c.doc w.locks.length) [.v (.int .i64 (-1))]) (w.tasks.map Task.row) w.h.shut w.h.last w.step (qRows_map w.queues) (by omega) t.c.doc) (by simp) ?_; simp
    try intros
    simp [eq]; refine ACall.inlineQ tt_ok Tryz.func323 (by kernel_rfl) rfl rfl rfl (Nat.le_of_ble_eq_true rfl) 50000 rfl (by simp) ?_; simp [hk, ht, Task.row, hm]; refine ACall.pure (l15QueueG_c (w.h.docs.map Doc.row) (w.h.subs.map Sub.row) ((w.locks.map intR).set (stripe t.c.doc w.locks.length) [.v (.int .i64 (-1))]) ((w.tasks.map Task.row).set k (Task.row ⟨t.c, 2, t.inv, t.lin, t.rs, t.a⟩)) w.h.shut w.h.last w.step (qRows_map w.queues) (by omega) t.c.doc) (by simp [Task.row]) ?_; have hal := queueAhead_le t.c.doc w.queues; have hon := fun {k : Nat} h1 h2 => queueAhead_at (name := t.c.doc) (l := w.queues) (k := k) h1 h2
    generalize queueAhead t.c.doc w.queues = a at hal hon; simp [eq]
    refine LoopT.introG eok (fun m : Nat => m ≤ a) (fun m => ⟨96, 50000, [(6, .v (.int .i64 m)), (0, .p 96 b6 0), (1, .v (.int .i64 k)), (4, .v (.string t.c.doc))],
      [(454, .rows H5 15 ((w.tasks.map Task.row).set k (Task.row ⟨t.c, 2, t.inv, t.lin, t.rs, t.a⟩)) true), (452, .rows H3 1 ((w.locks.map intR).set (stripe t.c.doc w.locks.length) [.v (.int .i64 (-1))]) true),
       (96, .vars b6 71 [.v (.bool w.h.shut), .sl 449 H1 5 0 w.h.docs.length, .sl 450 H2 6 0 w.h.subs.length, .v (.int .i64 w.h.last), .sl 452 H3 1 0 w.locks.length, .sl 453 H4 2 0 w.queues.length, .sl 454 H5 15 0 w.tasks.length, .v (.int .i64 w.step)]),
       (453, .rows H4 2 (w.queues.map Queue.row) true), (450, .rows H2 6 (w.h.subs.map Sub.row) true), (449, .rows H1 5 (w.h.docs.map Doc.row) true),
       (64, .vars b4 71 [.v (.bool false), .nil, .nil, .v (.int .i64 0), .nil, .nil, .nil, .v (.int .i64 0)]),
       (32, .vars b2 71 [.v (.bool w.h.shut), .cv (us 0 1) w.h.docs.length, .cv (us 0 2) w.h.subs.length, .v (.int .i64 w.h.last), .cv (us 0 4) w.locks.length, .cv (us 0 5) w.queues.length, .cv (us 0 6) w.tasks.length, .v (.int .i64 w.step)])]⟩) (fun m => w.queues.length - m) 0 (by simp) (by simp [Task.row]) (fun m hmm => Ent.refl ?_)
    by_cases hlt : m < w.queues.length
    · obtain ⟨x, hx⟩ : ∃ x, w.queues[m] = x := ⟨_, rfl⟩
      have hiff := hon hmm hlt; rw [hx] at hiff; simp [hlt, hx, Queue.row]; by_cases s : sLt x.doc t.c.doc
      · simp [s]
        exact Ent.refl ⟨m + 1, by have := hiff.1 s; omega, by omega, by simp; exact i64_suc (by omega)⟩
      have hka : m = a := by
        have : ¬ m < a := fun h => s (hiff.2 h)
        omega
      subst hka; have hmn : min m w.queues.length = m := by omega
      have hc1 : cut (w.queues.map Queue.row) 0 m = (w.queues.map Queue.row).take m := by rw [cut_eq]; simp
      have hc2 : cut (w.queues.map Queue.row) m (w.queues.length - m) = (w.queues.map Queue.row).drop m := by rw [cut_eq, List.take_of_length_le (by simp)]
      simp [dc_neg s, hc1, hc2, hmn, stepped, ew, Queue.row, hi1, Task.row]; refine ⟨by omega, by omega, by omega, by omega, by omega, by omega, fun r hr => rowI1 rfl r hr, by omega, ?_, ?_, fun r hr => rowT15 rfl r hr⟩
      · rintro row (h | rfl | h)
        · exact queue2 (List.mem_of_mem_take h)
        · rfl
        · exact queue2 (List.mem_of_mem_drop h)
      · exact (cut_len (by simp [hmn]; omega)).symm
    have hka : m = w.queues.length := by omega
    have hka2 : a = w.queues.length := by omega
    subst hka2; subst hka; have hz : cut (w.queues.map Queue.row) w.queues.length 0 = [] := by rw [cut_eq]; simp
    simp [hz, stepped, ew, Queue.row, hi1, Task.row]; refine ⟨by omega, by omega, fun r hr => rowI1 rfl r hr, ?_, fun r hr => rowT15 rfl r hr⟩
    rintro row (⟨a, -, rfl⟩ | rfl) <;> rfl
  by_cases p3 : t.pc = 3
  · rw [fPickT_send p3]
    simp [p3, hm, modify_set, Task.row, hk, ew]; exact fun r hr => rowT15 rfl r hr
  · rw [fPickT_else p0 p1 p3]
    simp [p0, p1, p3, Wld.zero, Hub.zero]
end Go.Proofs.YtdfdabjdfmamgaaGreat

