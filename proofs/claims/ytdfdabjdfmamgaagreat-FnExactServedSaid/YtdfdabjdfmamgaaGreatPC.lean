import Derived.Test.YtdfdabjdfmamgaaGreatPB
import Derived.Test.YtdfdabjdfmamgaaGreatNA
import Derived.Test.YtdfdabjdfmamgaaGreatMF
import Derived.Lib.AppendZerosOnto
import Derived.Lib.Overlaps
import Derived.Laws.IdiomCopy
import Derived.Laws.Externs
import Derived.Test.YtdfdabjdfmamgaaGreatMG
import Derived.Shelf.RegionOpenPlain
namespace Go.Proofs.YtdfdabjdfmamgaaGreat
open Go.AM
set_option maxRecDepth 20000

theorem l03Fits_c (o : List Part) (t : List Int) (hl : nL nPart o ≤ 2 ^ 40) (ht : t.length ≤ 2 ^ 40) : PureC Tryz.prog 324 [.c (.s (o.map Part.row)), .c (.s (t.map intR))] (.one (.c (vb (fits3 o t)) 1)) := by
  refine PureC.intro' tt_ok Tryz.func324 (by kernel_rfl) rfl rfl rfl (Nat.le_of_ble_eq_true rfl) (fun w0 base => ?_)
  simp
  refine ACall.pure (specOpOk_c o hl) (by simp) ?_
  by_cases c1 : opOk o
  rotate_left
  · simp [c1, fits3]
  simp [c1]
  refine ACall.pure (specTextOk_c t ht) (by simp) ?_
  by_cases c2 : textOk t
  rotate_left
  · simp [c2, fits3]
  simp [c2]
  refine ACall.pure (specOpFrom_c o hl) (by simp) ?_
  simp [fits3, c1, c2]

theorem specApply_c (o : List Part) (t : List Int) (hl : nL nPart o ≤ 2 ^ 40) (ht : t.length ≤ 2 ^ 40) : PureC Tryz.prog 256 [.c (.s (o.map Part.row)), .c (.s (t.map intR))] (.tup [.c (.s ((apply o t).1.map intR)) 1, .c (.v (.bool (apply o t).2)) 1]) := by
  refine PureC.intro' tt_ok Tryz.func256 (by kernel_rfl) rfl rfl rfl (Nat.le_of_ble_eq_true rfl) (fun w0 base => ?_)
  simp
  refine ACall.pure (l03Fits_c o t hl ht) (by simp) ?_
  by_cases hf : fits3 o t
  rotate_left
  · have e : dc (fits3 o t) = false := by rw [dc_no]; exact hf
    have e2 : apply o t = ([], false) := by unfold apply; rw [if_neg hf]
    simp [e, e2]
  have e : apply o t = ((apRun o t).1, true) := by unfold apply; rw [if_pos hf]
  have ho := hf.1.1.1
  have hlen := hf.1.1.2
  simp [hf, e]
  intro b
  refine LoopT.intro eok (fun x : Nat × Hd => x.1 ≤ o.length) (fun x => ⟨50, 0, [(17, .v (.int .i64 x.1)), (16, .v (.int .i64 o.length)), (15, .ro (o.map Part.row)), (7, .v (.int .i64 (apRun (o.take x.1) t).2)), (6, .sl 224 x.2 1 0 (apRun (o.take x.1) t).1.length), (1, .ro (t.map intR))], [(224, .rows x.2 1 ((apRun (o.take x.1) t).1.map intR) true)]⟩) (fun x => o.length - x.1) (0, some (b, 0, 0)) (by simp) (by simp [apRun]) (fun x hi => ?_)
  obtain ⟨i, H⟩ := x
  simp only at hi ⊢
  by_cases h : i < o.length
  · have hin := apRun_in hf h
    have hat := apRun_at (t := t) ho i hi
    have hb := (ho _ (List.getElem_mem h)).bounds
    have hs := apRun_suc (t := t) h
    generalize apRun (o.take i) t = s at hin hat hs
    obtain ⟨L, a⟩ := s
    simp only at hin hat hs
    obtain ⟨a', rfl⟩ : ∃ a' : Nat, a = a' := ⟨a.toNat, by omega⟩
    obtain ⟨n, hn⟩ : ∃ n : Nat, o[i].n = n := ⟨o[i].n.toNat, by omega⟩
    have e : Go.IntKind.i64.wrap ((i : Int) + 1) = ((i + 1 : Nat) : Int) := i64_suc (by omega)
    have ea : Go.IntKind.i64.wrap ((a' : Int) + n) = (a' : Int) + n := Go.IntWalk.i64_in _ (by omega)
    rw [hn] at hin
    simp [h, Part.row]
    intro b9
    by_cases k1 : o[i].kind = 1
    · have hle : a' + n ≤ t.length := by have := hin.2.1 (by omega); omega
      have hst : apStep t (L, (a' : Int)) o[i] = (L ++ (t.drop a').take n, (a' : Int) + n) := by simp [apStep, k1, hn]
      rw [hst] at hs
      obtain ⟨m, hm⟩ : ∃ m, (t.drop a').take n = m := ⟨_, rfl⟩
      have hcut : cut (t.map intR) a' n = m.map intR := by rw [cut_eq, ← hm]; simp
      have hlen2 : m.length = n := by rw [← hm]; simp; omega
      rw [hm] at hs
      simp [k1, hn, ea, hle, hcut]
      refine ⟨by omega, fun H2 => ⟨i + 1, by omega, by omega, H2, ?_⟩⟩
      rw [hs]
      simp [e]
    · by_cases k2 : o[i].kind = 2
      · have hst : apStep t (L, (a' : Int)) o[i] = (L ++ o[i].signs, (a' : Int)) := by simp [apStep, k2]
        rw [hst] at hs
        simp [k2]
        refine ⟨by omega, fun H2 => ⟨i + 1, by omega, by omega, H2, ?_⟩⟩
        rw [hs]
        simp [e]
      · have k3 : o[i].kind = 3 := by omega
        have hst : apStep t (L, (a' : Int)) o[i] = (L, (a' : Int) + n) := by simp [apStep, k3, hn]
        rw [hst] at hs
        simp [k1, k2, hn, ea]
        refine ⟨i + 1, by omega, by omega, H, ?_⟩
        rw [hs]
        simp [e]
  · have he : o.take i = o := List.take_of_length_le (by omega)
    rw [he]
    simp [h]

theorem apply_len (o : List Part) (t : List Int) : (apply o t).1.length ≤ 2 ^ 17 := by
  unfold apply
  split
  · rename_i h
    have h1 := (apRun_at (t := t) h.1.1.1 o.length (by omega)).2
    rw [List.take_length] at h1
    have := h.1.1.2
    simp only; omega
  · simp

abbrev partsR (o : List Part) : List CD := [.s (o.map Part.row)]
open Classical in
noncomputable def applyFrom : List (List Part) → List Int → Option (List Int)
  | [], t => some t
  | o :: l, t => if (apply o t).2 = true then applyFrom l (apply o t).1 else none
open Classical in
noncomputable def applyAll (l : List (List Part)) (t : List Int) : List Int × Bool :=
  if textOk t then match applyFrom l t with
    | some u => (u, true)
    | none => ([], false)
  else ([], false)

theorem applyFrom_drop {l : List (List Part)} {i : Nat} {u : List Int} (h : i < l.length) : applyFrom (l.drop i) u = if (apply l[i] u).2 = true then applyFrom (l.drop (i + 1)) (apply l[i] u).1 else none := by
  rw [List.drop_eq_getElem_cons h, applyFrom]

theorem implApplyAll_c (l : List (List Part)) (t : List Int) (hl : l.length ≤ 2 ^ 30) (hs : ∀ o ∈ l, nL nPart o ≤ 2 ^ 40) (ht : t.length ≤ 2 ^ 40) : PureC Tryz.prog 176 [.c (.s (l.map partsR)), .c (.s (t.map intR))] (.tup [.c (.s ((applyAll l t).1.map intR)) 1, .c (.v (.bool (applyAll l t).2)) 1]) := by
  refine PureC.intro' tt_ok Tryz.func176 (by kernel_rfl) rfl rfl rfl (Nat.le_of_ble_eq_true rfl) (fun w0 base => ?_)
  simp
  refine ACall.pure (implTextOk_c t ht) (by simp) ?_
  by_cases c2 : textOk t
  rotate_left
  · have e : dc (textOk t) = false := by rw [dc_no]; exact c2
    have e2 : applyAll l t = ([], false) := by unfold applyAll; rw [if_neg c2]
    simp [e, e2]
  obtain ⟨r, hr⟩ : ∃ r, applyAll l t = r := ⟨_, rfl⟩
  have hr' : (match applyFrom l t with | some u => (u, true) | none => ([], false)) = r := by rw [← hr]; unfold applyAll; rw [if_pos c2]
  rw [hr]
  simp [c2]
  refine ACall.pure (copyInts_c t ht) (by simp) ?_
  simp
  intro H0
  refine LoopT.intro eok (fun x : Nat × Nat × Hd × List Int => x.1 ≤ l.length ∧ x.2.2.2.length ≤ 2 ^ 40 ∧ (match applyFrom (l.drop x.1) x.2.2.2 with | some u => (u, true) | none => ([], false)) = r)
    (fun x => ⟨33, 0, [(18, .v (.int .i64 x.1)), (17, .v (.int .i64 l.length)), (16, .ro (l.map partsR)), (6, .sl x.2.1 x.2.2.1 1 0 x.2.2.2.length)], [(x.2.1, .rows x.2.2.1 1 (x.2.2.2.map intR) true)]⟩) (fun x => l.length - x.1) (0, 240, H0, t) (by simp [ht, hr']) (by simp) (fun x hi => ?_)
  obtain ⟨i, K, H, u⟩ := x
  simp only at hi ⊢
  obtain ⟨hi1, hi2, hi3⟩ := hi
  by_cases h : i < l.length
  · have e : Go.IntKind.i64.wrap ((i : Int) + 1) = ((i + 1 : Nat) : Int) := i64_suc (by omega)
    rw [applyFrom_drop h] at hi3
    have hlen := apply_len l[i] u
    simp [h]
    refine ACall.pure (implApply_c l[i] u (hs _ (List.getElem_mem h)) hi2) (by simp) ?_
    generalize apply l[i] u = q at hi3 hlen
    obtain ⟨v, ok⟩ := q
    simp only at hi3 hlen
    cases ok
    · simp at hi3
      simp [← hi3]
    · simp at hi3
      simp
      intro H2
      exact ⟨i + 1, 400, H2, v, ⟨by omega, by omega, hi3⟩, by omega, ⟨e, rfl, rfl, rfl⟩, .inl rfl⟩
  · have hd : l.drop i = [] := List.drop_eq_nil_of_le (by omega)
    rw [hd] at hi3
    simp [applyFrom] at hi3
    simp [h, ← hi3]

end Go.Proofs.YtdfdabjdfmamgaaGreat

namespace Go.Proofs.YtdfdabjdfmamgaaGreat
open Go.AM
set_option maxRecDepth 20000
theorem apRun_len {o : List Part} {t : List Int} (h : fits3 o t) : ∀ (i : Nat), i ≤ o.length → ((apRun (o.take i) t).1.length : Int) = sumI fK (o.take i) + sumI fP (o.take i) ∧ signsOk (apRun (o.take i) t).1
  | 0, _ => by simp [apRun, sumI, signsOk]
  | i + 1, hi => by
    have hlt : i < o.length := by omega
    obtain ⟨h1, h2⟩ := apRun_len h i (by omega)
    have hin := apRun_in h hlt
    have hpo := h.1.1.1 _ (List.getElem_mem hlt)
    have hb := hpo.bounds
    rw [apRun_suc hlt, sumI_suc hlt, sumI_suc hlt]
    generalize apRun (o.take i) t = s at h1 h2 hin
    generalize o[i] = p at hin hpo hb
    unfold apStep
    rw [show fK p = (if p.kind = 1 then p.n else 0) from rfl, show fP p = (if p.kind = 2 then (p.signs.length : Int) else 0) from rfl]
    rcases hb.1 with k | k | k
    · have := hin.2.1 (by omega)
      have e : ((t.drop s.2.toNat).take p.n.toNat).length = p.n.toNat := by simp; omega
      refine ⟨?_, ?_⟩
      · simp only [k, if_true, List.length_append, e]
        have k2 : ¬ (1 : Int) = 2 := by decide
        simp only [k2, if_false]
        omega
      simp only [k, if_true]
      intro n hn
      rcases List.mem_append.1 hn with hn | hn
      · exact h2 n hn
      · exact h.2.1.2 n (List.mem_of_mem_drop (List.mem_of_mem_take hn))
    · refine ⟨by simp [k]; omega, ?_⟩
      have k1 : ¬ p.kind = 1 := by omega
      simp only [k, if_true]
      rw [partOk_put k] at hpo
      intro n hn
      rcases List.mem_append.1 hn with hn | hn
      · exact h2 n hn
      · exact hpo.2.2 n hn
    · exact ⟨by simp [k]; omega, by simpa [k] using h2⟩
theorem apply_textOk {o : List Part} {t : List Int} (h : fits3 o t) : textOk (apply o t).1 ∧ ((apply o t).1.length : Int) = opTo o := by
  have h1 := apRun_len h o.length (Nat.le_refl _)
  rw [List.take_length] at h1
  have e : apply o t = ((apRun o t).1, true) := by unfold apply; rw [if_pos h]
  have ht : opTo o = sumI fK o + sumI fP o := by unfold opTo l02Sum; rw [if_pos h.1.1]
  have h3 := h.1.2.2
  rw [e]
  refine ⟨⟨by simp only; omega, h1.2⟩, by simp only; omega⟩
theorem apply_yes {o : List Part} {t : List Int} : (apply o t).2 = true ↔ fits3 o t := by
  unfold apply
  split <;> simp_all
def nameOk (s : ByteArray) : Prop := (1 ≤ s.size ∧ s.size ≤ 8) ∧ ∀ (i : Nat) (h : i < s.size), 97 ≤ s[i].toNat ∧ s[i].toNat ≤ 122
def entryOk (e : Entry) : Prop := (1 ≤ e.client ∧ e.client ≤ 8) ∧ (1 ≤ e.seq ∧ e.seq ≤ 1000000000) ∧ isNorm e.o
def seensOk (d : Doc) : Prop := ∀ (i : Nat) (h : i < d.seen.length), (1 ≤ d.seen[i].client ∧ d.seen[i].client ≤ 8) ∧ (1 ≤ d.seen[i].seq ∧ d.seen[i].seq ≤ 1000000000) ∧ (1 ≤ d.seen[i].rev ∧ d.seen[i].rev ≤ headRev d) ∧ (∀ h0 : 0 < i, d.seen[i - 1].client < d.seen[i].client)
def docOk (d : Doc) : Prop := nameOk d.name ∧ (0 ≤ d.fr ∧ d.fr ≤ 999999000) ∧ textOk d.text ∧ d.list.length ≤ 8 ∧ (∀ e ∈ d.list, entryOk e) ∧ (applyFrom (d.list.map Entry.o) d.text).isSome = true ∧ seensOk d
end Go.Proofs.YtdfdabjdfmamgaaGreat

namespace Go.Proofs.YtdfdabjdfmamgaaGreat
open Go.AM
set_option maxRecDepth 20000
end Go.Proofs.YtdfdabjdfmamgaaGreat

namespace Go.Proofs.YtdfdabjdfmamgaaGreat
open Go.AM
set_option maxRecDepth 20000
end Go.Proofs.YtdfdabjdfmamgaaGreat

namespace Go.Proofs.YtdfdabjdfmamgaaGreat
open Go.AM
set_option maxRecDepth 20000
set_option maxHeartbeats 1600000
end Go.Proofs.YtdfdabjdfmamgaaGreat

namespace Go.Proofs.YtdfdabjdfmamgaaGreat
open Go.AM
set_option maxRecDepth 20000
end Go.Proofs.YtdfdabjdfmamgaaGreat

namespace Go.Proofs.YtdfdabjdfmamgaaGreat
open Go.AM
set_option maxRecDepth 20000
end Go.Proofs.YtdfdabjdfmamgaaGreat

namespace Go.Proofs.YtdfdabjdfmamgaaGreat
open Go.AM
set_option maxRecDepth 20000
set_option maxHeartbeats 1600000
end Go.Proofs.YtdfdabjdfmamgaaGreat

namespace Go.Proofs.YtdfdabjdfmamgaaGreat
open Go.AM
set_option maxRecDepth 20000
set_option maxHeartbeats 1600000
theorem dc_neg {p : Prop} (h : ¬ p) : dc p = false := by rw [dc_no]; exact h
theorem entryOk_n {e : Entry} (hl : nEntry e ≤ 2 ^ 40) : nL nPart e.o ≤ 2 ^ 40 := by unfold nEntry at hl; omega
theorem implEntryOk_c (e : Entry) (hl : nEntry e ≤ 2 ^ 40) : PureC Tryz.prog 270 [.agg e.row] (.one (.c (vb (entryOk e)) 1)) := by
  refine PureC.intro' tt_ok Tryz.func270 (by kernel_rfl) rfl rfl rfl (Nat.le_of_ble_eq_true rfl) (fun w0 base => ?_)
  simp [Entry.row]
  intros
  refine ACall.pure (within_c e.client 1 8) (by simp) ?_
  by_cases c1 : 1 ≤ e.client ∧ e.client ≤ 8
  rotate_left
  · have h : ¬ entryOk e := fun h => c1 h.1
    simp [dc_neg c1, dc_neg h]
  simp [c1]
  refine ACall.pure (within_c e.seq 1 1000000000) (by simp) ?_
  by_cases c2 : 1 ≤ e.seq ∧ e.seq ≤ 1000000000
  rotate_left
  · have h : ¬ entryOk e := fun h => c2 h.2.1
    simp [dc_neg c2, dc_neg h]
  simp [c2]
  refine ACall.pure (implIsNorm_c e.o (entryOk_n hl)) (by simp) ?_
  by_cases c3 : isNorm e.o
  · have h : entryOk e := ⟨c1, c2, c3⟩
    simp [c3, h]
  · have h : ¬ entryOk e := fun h => c3 h.2.2
    simp [dc_neg c3, dc_neg h]
theorem specEntryOk_c (e : Entry) (hl : nEntry e ≤ 2 ^ 40) : PureC Tryz.prog 268 [.agg e.row] (.one (.c (vb (entryOk e)) 1)) := by
  refine PureC.intro' tt_ok Tryz.func268 (by kernel_rfl) rfl rfl rfl (Nat.le_of_ble_eq_true rfl) (fun w0 base => ?_)
  simp [Entry.row]
  intros
  refine ACall.pure (l01In_c e.client 1 8) (by simp) ?_
  by_cases c1 : 1 ≤ e.client ∧ e.client ≤ 8
  rotate_left
  · have h : ¬ entryOk e := fun h => c1 h.1
    simp [dc_neg c1, dc_neg h]
  simp [c1]
  refine ACall.pure (l01In_c e.seq 1 1000000000) (by simp) ?_
  by_cases c2 : 1 ≤ e.seq ∧ e.seq ≤ 1000000000
  rotate_left
  · have h : ¬ entryOk e := fun h => c2 h.2.1
    simp [dc_neg c2, dc_neg h]
  simp [c2]
  refine ACall.pure (specIsNorm_c e.o (entryOk_n hl)) (by simp) ?_
  by_cases c3 : isNorm e.o
  · have h : entryOk e := ⟨c1, c2, c3⟩
    simp [c3, h]
  · have h : ¬ entryOk e := fun h => c3 h.2.2
    simp [dc_neg c3, dc_neg h]
end Go.Proofs.YtdfdabjdfmamgaaGreat

namespace Go.Proofs.YtdfdabjdfmamgaaGreat
open Go.AM
set_option maxRecDepth 20000
set_option maxHeartbeats 1600000
end Go.Proofs.YtdfdabjdfmamgaaGreat

namespace Go.Proofs.YtdfdabjdfmamgaaGreat
open Go.AM
set_option maxRecDepth 20000
end Go.Proofs.YtdfdabjdfmamgaaGreat

namespace Go.Proofs.YtdfdabjdfmamgaaGreat
open Go.AM
set_option maxRecDepth 20000
set_option maxHeartbeats 1600000
def nameAt (s : ByteArray) (i : Nat) : Prop := ∀ h : i < s.size, 97 ≤ s[i].toNat ∧ s[i].toNat ≤ 122
theorem nDoc_list {d : Doc} {B : Nat} (h : nDoc d ≤ B) : nL nEntry d.list ≤ B ∧ d.text.length ≤ B ∧ d.name.size ≤ B ∧ d.seen.length ≤ B := by unfold nDoc at h; omega
def seenAt (d : Doc) (i : Nat) : Prop := ∀ h : i < d.seen.length, (1 ≤ d.seen[i].client ∧ d.seen[i].client ≤ 8) ∧ (1 ≤ d.seen[i].seq ∧ d.seen[i].seq ≤ 1000000000) ∧ (1 ≤ d.seen[i].rev ∧ d.seen[i].rev ≤ headRev d) ∧ (∀ h0 : 0 < i, d.seen[i - 1].client < d.seen[i].client)
theorem applyAll_some {l : List (List Part)} {t : List Int} (h : textOk t) : (applyAll l t).2 = true ↔ (applyFrom l t).isSome = true := by
  unfold applyAll
  rw [if_pos h]
  cases applyFrom l t <;> simp
theorem docOk_head {d : Doc} (h : docOk d) : headRev d = d.fr + d.list.length ∧ 0 ≤ d.fr ∧ d.fr ≤ 999999000 ∧ d.list.length ≤ 8 := by
  have h1 := h.2.1
  have h2 := h.2.2.2.1
  refine ⟨?_, h1.1, h1.2, h2⟩
  unfold headRev
  rw [Go.IntWalk.i64_in _ (by omega)]
def Doc.zero : Doc := ⟨⟨#[]⟩, 0, [], [], []⟩
def Net.zero : Net := ⟨Doc.zero, []⟩
end Go.Proofs.YtdfdabjdfmamgaaGreat

namespace Go.Proofs.YtdfdabjdfmamgaaGreat
open Go.AM
set_option maxRecDepth 20000
theorem specHeadRev_c (d : Doc) : PureC Tryz.prog 148 [.agg d.row] (.one (.c (vi (headRev d)) 1)) := by
  refine PureC.intro' tt_ok Tryz.func148 (by kernel_rfl) rfl rfl rfl (Nat.le_of_ble_eq_true rfl) (fun w0 base => ?_)
  simp [Doc.row, headRev]
theorem implHeadRev_c (d : Doc) : PureC Tryz.prog 157 [.agg d.row] (.one (.c (vi (headRev d)) 1)) := by
  refine PureC.intro' tt_ok Tryz.func157 (by kernel_rfl) rfl rfl rfl (Nat.le_of_ble_eq_true rfl) (fun w0 base => ?_)
  simp [Doc.row, headRev]
end Go.Proofs.YtdfdabjdfmamgaaGreat

namespace Go.Proofs.YtdfdabjdfmamgaaGreat
open Go.AM
set_option maxRecDepth 20000
set_option maxHeartbeats 1600000

theorem implNameOk_c (s : ByteArray) (hl : s.size ≤ 2 ^ 40) : PureC Tryz.prog 269 [.c (.v (.string s))] (.one (.c (vb (nameOk s)) 1)) := by
  refine PureC.intro' tt_ok Tryz.func269 (by kernel_rfl) rfl rfl rfl (Nat.le_of_ble_eq_true rfl) (fun w0 base => ?_)
  simp
  refine LoopT.intro eok (fun i : Nat => i ≤ s.size ∧ ∀ j, j < i → nameAt s j) (fun i => ⟨23, 0, [(3, .v (.int .i64 i)), (0, .v (.string s))], []⟩) (fun i => s.size - i) 0 (by simp) (by simp) (fun i hi => ?_)
  by_cases hlt : i < s.size
  · simp [hlt]
    by_cases h1 : (s[i].toNat : Int) < 97
    · have hno : ¬ nameOk s := fun h => by have := (h.2 i hlt).1; omega
      simp [h1, dc_neg hno]
    · by_cases h2 : 122 < (s[i].toNat : Int)
      · have hno : ¬ nameOk s := fun h => by have := (h.2 i hlt).2; omega
        simp [h1, h2, hlt, dc_neg hno]
      · simp [h1, h2, hlt]
        refine ⟨i + 1, ⟨by omega, fun j hj => ?_⟩, by omega, i64_suc (by omega)⟩
        by_cases hji : j = i
        · subst hji; exact fun _ => by omega
        · exact hi.2 j (by omega)
  · simp [hlt]
    refine ACall.pure (within_c s.size 1 8) (by simp) ?_
    have hsz : (1 ≤ (s.size : Int) ∧ (s.size : Int) ≤ 8) ↔ (1 ≤ s.size ∧ s.size ≤ 8) := by omega
    by_cases h3 : 1 ≤ s.size ∧ s.size ≤ 8
    · have hy : nameOk s := ⟨h3, fun j hj => hi.2 j (by omega) hj⟩
      have h4 := hsz.2 h3
      simp [h4, hy]
    · have hno : ¬ nameOk s := fun h => h3 h.1
      have h4 : ¬ (1 ≤ (s.size : Int) ∧ (s.size : Int) ≤ 8) := fun h => h3 (hsz.1 h)
      simp [dc_neg h4, dc_neg hno]
theorem specNameOk_c (s : ByteArray) (hl : s.size ≤ 2 ^ 40) : PureC Tryz.prog 267 [.c (.v (.string s))] (.one (.c (vb (nameOk s)) 1)) := by
  refine PureC.intro' tt_ok Tryz.func267 (by kernel_rfl) rfl rfl rfl (Nat.le_of_ble_eq_true rfl) (fun w0 base => ?_)
  simp
  refine LoopT.intro eok (fun i : Nat => i ≤ s.size ∧ ∀ j, j < i → nameAt s j) (fun i => ⟨23, 0, [(3, .v (.int .i64 i)), (0, .v (.string s))], []⟩) (fun i => s.size - i) 0 (by simp) (by simp) (fun i hi => ?_)
  by_cases hlt : i < s.size
  · simp [hlt]
    by_cases h1 : (s[i].toNat : Int) < 97
    · have hno : ¬ nameOk s := fun h => by have := (h.2 i hlt).1; omega
      simp [h1, dc_neg hno]
    · by_cases h2 : 122 < (s[i].toNat : Int)
      · have hno : ¬ nameOk s := fun h => by have := (h.2 i hlt).2; omega
        simp [h1, h2, hlt, dc_neg hno]
      · simp [h1, h2, hlt]
        refine ⟨i + 1, ⟨by omega, fun j hj => ?_⟩, by omega, i64_suc (by omega)⟩
        by_cases hji : j = i
        · subst hji; exact fun _ => by omega
        · exact hi.2 j (by omega)
  · simp [hlt]
    refine ACall.pure (l01In_c s.size 1 8) (by simp) ?_
    have hsz : (1 ≤ (s.size : Int) ∧ (s.size : Int) ≤ 8) ↔ (1 ≤ s.size ∧ s.size ≤ 8) := by omega
    by_cases h3 : 1 ≤ s.size ∧ s.size ≤ 8
    · have hy : nameOk s := ⟨h3, fun j hj => hi.2 j (by omega) hj⟩
      have h4 := hsz.2 h3
      simp [h4, hy]
    · have hno : ¬ nameOk s := fun h => h3 h.1
      have h4 : ¬ (1 ≤ (s.size : Int) ∧ (s.size : Int) ≤ 8) := fun h => h3 (hsz.1 h)
      simp [dc_neg h4, dc_neg hno]

theorem opsOf_c (l : List Entry) (hl : nL nEntry l ≤ 2 ^ 30) : PureC Tryz.prog 264 [.c (.s (l.map Entry.row))] (.one (.c (.s ((l.map Entry.o).map partsR)) 1)) := by
  refine PureC.intro' tt_ok Tryz.func264 (by kernel_rfl) rfl rfl rfl (Nat.le_of_ble_eq_true rfl) (fun w0 base => ?_)
  have hle := nL_len hl
  simp
  refine LoopT.introG eok (fun x : Nat × Hd => x.1 ≤ l.length) (fun x => ⟨20, 0, [(8, .v (.int .i64 x.1)), (7, .v (.int .i64 l.length)), (6, .ro (l.map Entry.row)), (3, .sl 5000 x.2 1 0 x.1)], [(5000, .rows x.2 1 (((l.take x.1).map Entry.o).map partsR) true)]⟩) (fun x => l.length - x.1) (0, none) (by simp) (by simp) (fun x hx => Ent.refl ?_)
  obtain ⟨i, H⟩ := x
  simp only at hx ⊢
  by_cases hlt : i < l.length
  · have hm := nL_at hl hlt
    unfold nEntry at hm
    simp [hlt, Entry.row]
    intro b5
    refine ACall.pure (copyOp_c l[i].o hm) (by simp) ?_
    simp
    intro H1 b
    have e1 : i = min i l.length := by omega
    refine ⟨e1, by omega, fun H2 => Ent.refl ⟨i + 1, by omega, by omega, H2, ?_⟩⟩
    simp
    exact ⟨i64_suc (by omega), take_snoc (f := fun e : Entry => partsR e.o) hlt⟩
  · have e : l.length = i := by omega
    simp [hlt]
    have e1 : i ≤ min i l.length := by omega
    refine ⟨e1, ?_, ?_⟩
    · intro row hr
      have := List.mem_of_mem_take hr
      simp at this
      obtain ⟨x, -, rfl⟩ := this
      rfl
    · rw [List.take_of_length_le (by simp; omega)]
      simp [cut, e]

theorem implDocOk_c (d : Doc) (hl : nDoc d ≤ 2 ^ 30) : PureC Tryz.prog 188 [.agg d.row] (.one (.c (vb (docOk d)) 1)) := by
  refine PureC.intro' tt_ok Tryz.func188 (by kernel_rfl) rfl rfl rfl (Nat.le_of_ble_eq_true rfl) (fun w0 base => ?_)
  obtain ⟨n1, n2, n3, n4⟩ := nDoc_list hl
  have hle := nL_len n1
  simp [Doc.row]
  intro b1
  refine ACall.pure (implNameOk_c d.name (by omega)) (by simp) ?_
  by_cases c1 : nameOk d.name
  rotate_left
  · have h : ¬ docOk d := fun h => c1 h.1
    simp [dc_neg c1, dc_neg h]
  simp [c1]
  refine ACall.pure (within_c d.fr 0 999999000) (by simp) ?_
  by_cases c2 : 0 ≤ d.fr ∧ d.fr ≤ 999999000
  rotate_left
  · have h : ¬ docOk d := fun h => c2 h.2.1
    simp [dc_neg c2, dc_neg h]
  simp [c2]
  refine ACall.pure (implTextOk_c d.text (by omega)) (by simp) ?_
  by_cases c3 : textOk d.text
  rotate_left
  · have h : ¬ docOk d := fun h => c3 h.2.2.1
    simp [dc_neg c3, dc_neg h]
  simp [c3]
  by_cases c4 : d.list.length ≤ 8
  rotate_left
  · have h : ¬ docOk d := fun h => c4 h.2.2.2.1
    have c4' : 8 < (d.list.length : Int) := by omega
    simp [c4', dc_neg h]
  have c4' : ¬ 8 < (d.list.length : Int) := by omega
  simp [c4']
  refine LoopT.intro eok (fun i : Nat => i ≤ d.list.length ∧ ∀ e ∈ d.list.take i, entryOk e) (fun i => ⟨96, 0, [(34, .v (.int .i64 i)), (33, .v (.int .i64 d.list.length)), (32, .ro (d.list.map Entry.row)), (1, .p 16 b1 0)],
    [(16, .vars b1 35 [.v (.string d.name), .v (.int .i64 d.fr), .ro (d.text.map intR), .ro (d.list.map Entry.row), .ro (d.seen.map Seen.row)])]⟩) (fun i => d.list.length - i) 0 (by simp) (by simp) (fun i hi => ?_)
  by_cases hlt : i < d.list.length
  · have hm := nL_at n1 hlt
    simp [hlt, Entry.row]
    intro b4
    refine ACall.pure (implEntryOk_c d.list[i] (by omega)) (by simp [Entry.row]) ?_
    by_cases c5 : entryOk d.list[i]
    · simp [c5]
      exact ⟨i + 1, ⟨by omega, all_suc hlt hi.2 c5⟩, by omega, i64_suc (by omega)⟩
    · have h : ¬ docOk d := fun h => c5 (h.2.2.2.2.1 _ (List.getElem_mem hlt))
      simp [dc_neg c5, dc_neg h]
  have c5 : ∀ e ∈ d.list, entryOk e := all_end (by omega) hi.2
  simp [hlt]
  refine DrawT.quiet eok mix (by kernel_rfl) ?_
  simp
  refine ⟨_, _, opsOf_c d.list n1, by simp, ?_⟩
  simp
  have hops : ∀ o ∈ d.list.map Entry.o, nL nPart o ≤ 2 ^ 40 := by
    intro o ho
    rw [List.mem_map] at ho
    obtain ⟨e, he, rfl⟩ := ho
    have := nL_mem n1 he
    unfold nEntry at this
    omega
  refine ⟨_, _, implApplyAll_c (d.list.map Entry.o) d.text (by simp; omega) hops (by omega), by simp, ?_⟩
  have hsome := applyAll_some (l := d.list.map Entry.o) c3
  generalize applyAll (d.list.map Entry.o) d.text = A at hsome ⊢
  obtain ⟨u, ok⟩ := A
  simp only at hsome ⊢
  cases ok with
  | false =>
    have h : ¬ docOk d := fun h => by have := hsome.2 h.2.2.2.2.2.1; simp at this
    simp [dc_neg h]
  | true =>
    have c6 := hsome.1 rfl
    simp
    have hno : ∀ i, ¬ seenAt d i → ¬ docOk d := fun i h hd => h (fun hh => hd.2.2.2.2.2.2 i hh)
    refine LoopT.intro eok (fun i : Nat => i ≤ d.seen.length ∧ ∀ j, j < i → seenAt d j) (fun i => ⟨96, 0, [(56, .v (.int .i64 i)), (55, .v (.int .i64 d.seen.length)), (54, .ro (d.seen.map Seen.row)), (1, .p 16 b1 0)],
      [(16, .vars b1 35 [.v (.string d.name), .v (.int .i64 d.fr), .ro (d.text.map intR), .ro (d.list.map Entry.row), .ro (d.seen.map Seen.row)])]⟩) (fun i => d.seen.length - i) 0 (by simp) (by simp) (fun i hi => ?_)
    by_cases hlt : i < d.seen.length
    rotate_left
    · have h : docOk d := ⟨c1, c2, c3, c4, c5, c6, fun j hj => hi.2 j (by omega) hj⟩
      simp [hlt, h]
    obtain ⟨x, hx⟩ : ∃ x, d.seen[i] = x := ⟨_, rfl⟩
    simp [hlt, hx, Seen.row]
    intro b8
    refine DrawT.quiet eok mix (by kernel_rfl) ?_
    simp
    refine ⟨_, _, within_c x.client 1 8, by simp, ?_⟩
    by_cases s1 : 1 ≤ x.client ∧ x.client ≤ 8
    rotate_left
    · have h := hno i (fun h => s1 (by have := (h hlt).1; rwa [hx] at this))
      simp [dc_neg s1, dc_neg h]
    simp [s1]
    have fin : (∀ h0 : 0 < i, d.seen[i - 1].client < x.client) → (1 ≤ x.seq ∧ x.seq ≤ 1000000000) → (1 ≤ x.rev ∧ x.rev ≤ headRev d) → ∀ j, j < i + 1 → seenAt d j := by
      intro h1 h2 h3 j hj
      by_cases hji : j = i
      · subst hji; intro hh; rw [hx]; exact ⟨s1, h2, h3, h1⟩
      · exact hi.2 j (by omega)
    have noq : ¬ (1 ≤ x.seq ∧ x.seq ≤ 1000000000) → ¬ docOk d := fun s2 => hno i (fun h => s2 (by have := (h hlt).2.1; rwa [hx] at this))
    have nor : ¬ (1 ≤ x.rev ∧ x.rev ≤ headRev d) → ¬ docOk d := fun s2 => hno i (fun h => s2 (by have := (h hlt).2.2.1; rwa [hx] at this))
    cases i with
    | zero =>
      simp
      refine ⟨_, _, within_c x.seq 1 1000000000, by simp, ?_⟩
      by_cases s2 : 1 ≤ x.seq ∧ x.seq ≤ 1000000000
      rotate_left
      · simp [dc_neg s2, dc_neg (noq s2)]
      simp [s2]
      refine ⟨_, _, implHeadRev_c d, by simp [Doc.row], ?_⟩
      simp
      refine ⟨_, _, within_c x.rev 1 (headRev d), by simp, ?_⟩
      by_cases s3 : 1 ≤ x.rev ∧ x.rev ≤ headRev d
      rotate_left
      · simp [dc_neg s3, dc_neg (nor s3)]
      simp [s3]
      exact ⟨1, ⟨by omega, fin (by simp) s2 s3⟩, by omega, i64_suc (n := 0) (by omega)⟩
    | succ k =>
      have ek : Go.IntKind.i64.wrap (k : Int) = k := i64_nat (by omega)
      have hk1 : k < d.seen.length := by omega
      have hk0 : (0 : Int) < (k : Int) + 1 := by omega
      obtain ⟨y, hy⟩ : ∃ y, d.seen[k] = y := ⟨_, rfl⟩
      simp [ek, hk0, hk1, hy, Seen.row]
      by_cases s4 : y.client < x.client
      rotate_left
      · have h := hno (k + 1) (fun h => s4 (by have := (h hlt).2.2.2 (by omega); rw [hx] at this; simp only [Nat.add_sub_cancel] at this; rwa [hy] at this))
        have s4' : x.client ≤ y.client := by omega
        simp [s4', dc_neg h]
      have s4' : ¬ x.client ≤ y.client := by omega
      simp [s4']
      refine ⟨_, _, within_c x.seq 1 1000000000, by simp, ?_⟩
      by_cases s2 : 1 ≤ x.seq ∧ x.seq ≤ 1000000000
      rotate_left
      · simp [dc_neg s2, dc_neg (noq s2)]
      simp [s2]
      refine ⟨_, _, implHeadRev_c d, by simp [Doc.row], ?_⟩
      simp
      refine ⟨_, _, within_c x.rev 1 (headRev d), by simp, ?_⟩
      by_cases s3 : 1 ≤ x.rev ∧ x.rev ≤ headRev d
      rotate_left
      · simp [dc_neg s3, dc_neg (nor s3)]
      simp [s3]
      exact ⟨k + 2, ⟨by omega, fin (fun _ => by simp only [Nat.add_sub_cancel]; rw [hy]; exact s4) s2 s3⟩, by omega, by rw [Go.IntWalk.i64_in _ (by omega)]; omega⟩
theorem specDocOk_c (d : Doc) (hl : nDoc d ≤ 2 ^ 30) : PureC Tryz.prog 185 [.agg d.row] (.one (.c (vb (docOk d)) 1)) := by
  refine PureC.intro' tt_ok Tryz.func185 (by kernel_rfl) rfl rfl rfl (Nat.le_of_ble_eq_true rfl) (fun w0 base => ?_)
  obtain ⟨n1, n2, n3, n4⟩ := nDoc_list hl
  have hle := nL_len n1
  simp [Doc.row]
  intro b1
  refine ACall.pure (specNameOk_c d.name (by omega)) (by simp) ?_
  by_cases c1 : nameOk d.name
  rotate_left
  · have h : ¬ docOk d := fun h => c1 h.1
    simp [dc_neg c1, dc_neg h]
  simp [c1]
  refine ACall.pure (l01In_c d.fr 0 999999000) (by simp) ?_
  by_cases c2 : 0 ≤ d.fr ∧ d.fr ≤ 999999000
  rotate_left
  · have h : ¬ docOk d := fun h => c2 h.2.1
    simp [dc_neg c2, dc_neg h]
  simp [c2]
  refine ACall.pure (specTextOk_c d.text (by omega)) (by simp) ?_
  by_cases c3 : textOk d.text
  rotate_left
  · have h : ¬ docOk d := fun h => c3 h.2.2.1
    simp [dc_neg c3, dc_neg h]
  simp [c3]
  by_cases c4 : d.list.length ≤ 8
  rotate_left
  · have h : ¬ docOk d := fun h => c4 h.2.2.2.1
    have c4' : 8 < (d.list.length : Int) := by omega
    simp [c4', dc_neg h]
  have c4' : ¬ 8 < (d.list.length : Int) := by omega
  simp [c4']
  refine LoopT.introG eok (fun x : Nat × List Int => x.1 ≤ d.list.length ∧ (∀ e ∈ d.list.take x.1, entryOk e) ∧ textOk x.2 ∧ applyFrom ((d.list.map Entry.o).drop x.1) x.2 = applyFrom (d.list.map Entry.o) d.text) (fun x => ⟨105, 0, [(37, .v (.int .i64 x.1)), (36, .v (.int .i64 d.list.length)), (35, .ro (d.list.map Entry.row)), (3, .ro (x.2.map intR)), (1, .p 16 b1 0)],
    [(16, .vars b1 35 [.v (.string d.name), .v (.int .i64 d.fr), .ro (d.text.map intR), .ro (d.list.map Entry.row), .ro (d.seen.map Seen.row)])]⟩) (fun x => d.list.length - x.1) (0, d.text) ⟨by simp, by simp, c3, by simp⟩ (by simp) (fun x hi => Ent.refl ?_)
  obtain ⟨i, t⟩ := x
  obtain ⟨hi1, hi2, hi3, hi4⟩ := hi
  simp only at hi1 hi2 hi3 hi4 ⊢
  by_cases hlt : i < d.list.length
  · have hm := nL_at n1 hlt
    have hmo := entryOk_n (e := d.list[i]) (by omega)
    rw [applyFrom_drop (show i < (d.list.map Entry.o).length by simpa using hlt)] at hi4
    simp only [List.getElem_map] at hi4
    have hyes := @apply_yes d.list[i].o t
    have htok := @apply_textOk d.list[i].o t
    obtain ⟨e, he⟩ : ∃ e, d.list[i] = e := ⟨_, rfl⟩
    have hmem : e ∈ d.list := he ▸ List.getElem_mem hlt
    have c5' : entryOk e → ∀ e ∈ d.list.take (i + 1), entryOk e := fun h => all_suc hlt hi2 (he ▸ h)
    rw [he] at hi4 hyes htok hm hmo
    simp [hlt, he, Entry.row]
    intro b5
    refine ACall.pure (specApply_c e.o t hmo (by have := hi3.1; omega)) (by simp) ?_
    generalize apply e.o t = A at hi4 hyes htok ⊢
    obtain ⟨u, ok⟩ := A
    simp only at hi4 hyes htok ⊢
    simp
    intro H1
    cases ok with
    | false =>
      have h : ¬ docOk d := fun h => by have := h.2.2.2.2.2.1; rw [← hi4] at this; simp at this
      simp [dc_neg h]
    | true =>
      simp only [if_true] at hi4
      have hu := (htok (hyes.1 rfl)).1
      simp
      refine ACall.pure (specEntryOk_c e (by omega)) (by simp [Entry.row]) ?_
      by_cases c5 : entryOk e
      rotate_left
      · have h : ¬ docOk d := fun h => c5 (h.2.2.2.2.1 _ hmem)
        simp [dc_neg c5, dc_neg h]
      simp [c5]
      refine ACall.pure (specTextOk_c u (by have := hu.1; omega)) (by simp) ?_
      simp [hu]
      refine Ent.frzT 3 720 (sz := 1) (off := 0) (len := u.length) (H := H1) (rows := u.map intR) (own := true) (by simp) (by simp) (by simp) (Ent.refl ⟨i + 1, u, ⟨by omega, c5' c5, hu, hi4⟩, by omega, ?_⟩)
      simp
      exact i64_suc (by omega)
  · have c5 : ∀ e ∈ d.list, entryOk e := all_end (by omega) hi2
    have c6 : (applyFrom (d.list.map Entry.o) d.text).isSome = true := by
      rw [← hi4, List.drop_eq_nil_of_le (by simp; omega)]
      simp [applyFrom]
    simp [hlt]
    have hno : ∀ i, ¬ seenAt d i → ¬ docOk d := fun i h hd => h (fun hh => hd.2.2.2.2.2.2 i hh)
    refine LoopT.intro eok (fun i : Nat => i ≤ d.seen.length ∧ ∀ j, j < i → seenAt d j) (fun i => ⟨105, 0, [(65, .v (.int .i64 i)), (64, .v (.int .i64 d.seen.length)), (63, .ro (d.seen.map Seen.row)), (1, .p 16 b1 0)],
      [(16, .vars b1 35 [.v (.string d.name), .v (.int .i64 d.fr), .ro (d.text.map intR), .ro (d.list.map Entry.row), .ro (d.seen.map Seen.row)])]⟩) (fun i => d.seen.length - i) 0 (by simp) (by simp) (fun i hi => ?_)
    by_cases hlt : i < d.seen.length
    rotate_left
    · have h : docOk d := ⟨c1, c2, c3, c4, c5, c6, fun j hj => hi.2 j (by omega) hj⟩
      simp [hlt, h]
    obtain ⟨x, hx⟩ : ∃ x, d.seen[i] = x := ⟨_, rfl⟩
    simp [hlt, hx, Seen.row]
    intro b8
    refine DrawT.quiet eok mix (by kernel_rfl) ?_
    simp
    refine ⟨_, _, l01In_c x.client 1 8, by simp, ?_⟩
    by_cases s1 : 1 ≤ x.client ∧ x.client ≤ 8
    rotate_left
    · have h := hno i (fun h => s1 (by have := (h hlt).1; rwa [hx] at this))
      simp [dc_neg s1, dc_neg h]
    simp [s1]
    have fin : (∀ h0 : 0 < i, d.seen[i - 1].client < x.client) → (1 ≤ x.seq ∧ x.seq ≤ 1000000000) → (1 ≤ x.rev ∧ x.rev ≤ headRev d) → ∀ j, j < i + 1 → seenAt d j := by
      intro h1 h2 h3 j hj
      by_cases hji : j = i
      · subst hji; intro hh; rw [hx]; exact ⟨s1, h2, h3, h1⟩
      · exact hi.2 j (by omega)
    have noq : ¬ (1 ≤ x.seq ∧ x.seq ≤ 1000000000) → ¬ docOk d := fun s2 => hno i (fun h => s2 (by have := (h hlt).2.1; rwa [hx] at this))
    have nor : ¬ (1 ≤ x.rev ∧ x.rev ≤ headRev d) → ¬ docOk d := fun s2 => hno i (fun h => s2 (by have := (h hlt).2.2.1; rwa [hx] at this))
    refine ⟨_, _, l01In_c x.seq 1 1000000000, by simp, ?_⟩
    by_cases s2 : 1 ≤ x.seq ∧ x.seq ≤ 1000000000
    rotate_left
    · simp [dc_neg s2, dc_neg (noq s2)]
    simp [s2]
    refine ⟨_, _, specHeadRev_c d, by simp [Doc.row], ?_⟩
    simp
    refine ⟨_, _, l01In_c x.rev 1 (headRev d), by simp, ?_⟩
    by_cases s3 : 1 ≤ x.rev ∧ x.rev ≤ headRev d
    rotate_left
    · simp [dc_neg s3, dc_neg (nor s3)]
    simp [s3]
    cases i with
    | zero =>
      simp
      exact ⟨1, ⟨by omega, fin (by simp) s2 s3⟩, by omega, i64_suc (n := 0) (by omega)⟩
    | succ k =>
      have ek : Go.IntKind.i64.wrap (k : Int) = k := i64_nat (by omega)
      have hk1 : k < d.seen.length := by omega
      have hk0 : (0 : Int) < (k : Int) + 1 := by omega
      obtain ⟨y, hy⟩ : ∃ y, d.seen[k] = y := ⟨_, rfl⟩
      simp [ek, hk0, hk1, hy, Seen.row]
      by_cases s4 : y.client < x.client
      rotate_left
      · have h := hno (k + 1) (fun h => s4 (by have := (h hlt).2.2.2 (by omega); rw [hx] at this; simp only [Nat.add_sub_cancel] at this; rwa [hy] at this))
        have s4' : x.client ≤ y.client := by omega
        simp [s4', dc_neg h]
      have s4' : ¬ x.client ≤ y.client := by omega
      simp [s4']
      exact ⟨k + 2, ⟨by omega, fin (fun _ => by simp only [Nat.add_sub_cancel]; rw [hy]; exact s4) s2 s3⟩, by omega, by rw [Go.IntWalk.i64_in _ (by omega)]; omega⟩
end Go.Proofs.YtdfdabjdfmamgaaGreat

namespace Go.Proofs.YtdfdabjdfmamgaaGreat
open Go.AM
set_option maxRecDepth 20000
set_option maxHeartbeats 1600000
end Go.Proofs.YtdfdabjdfmamgaaGreat

namespace Go.Proofs.YtdfdabjdfmamgaaGreat
open Go.AM
set_option maxRecDepth 20000
set_option maxHeartbeats 1600000
end Go.Proofs.YtdfdabjdfmamgaaGreat

namespace Go.Proofs.YtdfdabjdfmamgaaGreat
set_option maxRecDepth 20000
end Go.Proofs.YtdfdabjdfmamgaaGreat

namespace Go.Proofs.YtdfdabjdfmamgaaGreat
open Go.AM
set_option maxRecDepth 20000
end Go.Proofs.YtdfdabjdfmamgaaGreat

namespace Go.Proofs.YtdfdabjdfmamgaaGreat
open Go.AM
set_option maxRecDepth 20000
set_option maxHeartbeats 1600000
end Go.Proofs.YtdfdabjdfmamgaaGreat

namespace Go.Proofs.YtdfdabjdfmamgaaGreat
open Go.AM
set_option maxRecDepth 20000
set_option maxHeartbeats 1600000
end Go.Proofs.YtdfdabjdfmamgaaGreat

namespace Go.Proofs.YtdfdabjdfmamgaaGreat
open Go.AM
set_option maxRecDepth 20000
set_option maxHeartbeats 1600000
end Go.Proofs.YtdfdabjdfmamgaaGreat

/-
  slices.Insert of one element: what its cells are, and what that is to the machine.
-/
namespace Go.AM
open Go.RowKit
/-- behind the call: the rows' block is new, or the old one; all others are as they were -/
structure Placed (w w' : World) (ob : Option Nat) (nb no nC n sz : Nat) (us : List Value) : Prop where
  at_ : ∃ cs T, w'.heap[nb]? = some (.cells cs T (0, 0)) ∧ no + nC * sz ≤ cs.size ∧ ∀ j, j < n * sz → cs.getD (no + j) undef = us.getD j undef
  le : n ≤ nC
  cap : nC ≤ maxLen
  size : w.heap.size ≤ w'.heap.size
  same : Same w w'
  blk : w.heap.size ≤ nb ∨ ob = some nb
  frame : ∀ c, c < w.heap.size → c ≠ nb → w'.heap[c]? = w.heap[c]?
/-- rows are put down in a block: a new one, or the one that they had -/
theorem Rep.place {w0 : World} {base : Bs} {st : ASt} {a : Act} {w w' : World} (hR : Rep w0 base st a w) {h' : AH} {E' : Nat → Nat → Prop} (H' : HRel base h' w E') (tr : Tr st.h.M w h'.M w) {k : Nat} {ob : Option Nat} (hob : (h'.get k).blk = ob)
    {nb no nC sz : Nat} {us : List Value} {rows : List (List CD)} (own : Bool) (hp : Placed w w' ob nb no nC rows.length sz us) (hsz : 0 < sz) (hrl : ∀ row ∈ rows, row.length = sz) (F : Nat → Nat → Nat → Prop)
    (hr : ∀ i j row d, rows[i]? = some row → row[j]? = some d → Rd w own (F i j) (us.getD (i * sz + j) undef) d) (hF : ∀ i j c, F i j c → ¬ h'.M c)
    (hown : own = true → ∀ i j c, F i j c → ¬ base.G c ∧ ∀ q, q ≠ k → ¬ E' q c) (hinj : own = true → ∀ i j i' j' c, F i j c → F i' j' c → i = i' ∧ j = j') :
    Moved w0 base st a w ((k, .rows (some (nb, no, nC)) sz rows own) :: h') w' := by
  obtain ⟨cs, T, hb, hfit, hcs⟩ := hp.at_
  have hnb : ∀ c, c < w.heap.size → c = nb → (h'.get k).blk = some c := by
    intro c hc e
    subst e
    rcases hp.blk with h | h
    · omega
    · rw [hob]; exact h
  have hfr : ∀ c, c < w.heap.size → (¬ h'.M c ∨ ∃ j, j ≠ k ∧ (h'.get j).blk = some c) → w'.heap[c]? = w.heap[c]? := by
    intro c hc h
    refine hp.frame c hc (fun e => ?_)
    have hk := hnb c hc e
    rcases h with h | ⟨j, hne, hj⟩
    · exact h ⟨k, hk⟩
    · exact hne (H'.inj _ _ _ hj hk)
  have t : Tr h'.M w (AH.M ((k, .rows (some (nb, no, nC)) sz rows own) :: h')) w' := Tr.upd H' hp.size (fun c hc hM => hfr c hc (.inl hM)) (fun c hc => by
    simp [AObj.blk] at hc
    subst hc
    rcases hp.blk with h | h
    · exact .inl h
    · exact .inr (by rw [hob]; exact h))
  have lt : ∀ i j, i < rows.length → j < sz → i * sz + j < rows.length * sz := by
    intro i j hi hj
    have := Nat.mul_le_mul_right sz (show i + 1 ≤ rows.length by omega)
    have e : (i + 1) * sz = i * sz + sz := Nat.succ_mul i sz
    omega
  refine (hR.move H' tr ⟨rfl, rfl, rfl⟩).move (H'.upd (Ek := fun c => own = true ∧ c < w.heap.size ∧ ∃ i j, F i j c) hp.size hfr (fun c hc => ?_)
    ⟨cs, T, fun i j c => c < w.heap.size ∧ F i j c, hb, hp.le, hp.cap, hsz, hfit, hrl, ?_, ?_, ?_⟩ ?_) t hp.same
  · simp [AObj.blk] at hc
    subst hc
    rcases hp.blk with h | h
    · exact ⟨hR.newer h, .inl h⟩
    · have hk : (h'.get k).blk = some nb := by rw [hob]; exact h
      exact ⟨H'.low k _ hk, .inr hk⟩
  · rintro i j c ⟨hlt, hc⟩
    exact ⟨fun ho => ⟨ho, hlt, i, j, hc⟩, fun hM => hF i j c hc (t.mono c hlt hM)⟩
  · rintro ho i j i' j' c ⟨-, hc⟩ ⟨-, hc'⟩
    exact hinj ho i j i' j' c hc hc'
  · intro i j row d hi hj
    have h1 : i < rows.length := (List.getElem?_eq_some_iff.1 hi).1
    have h2 : j < sz := by rw [← hrl _ (List.mem_of_getElem? hi)]; exact (List.getElem?_eq_some_iff.1 hj).1
    rw [hcs _ (lt i j h1 h2)]
    exact (hr i j row d hi hj).map (fun c hc hl => hfr c hl (.inl (hF i j c hc))) (fun c hc hl => ⟨hl, hc⟩)
  · rintro c ⟨ho, hlt, i, j, hc⟩
    obtain ⟨h1, h2⟩ := hown ho i j c hc
    exact ⟨h1, Nat.lt_of_lt_of_le hlt hp.size, h2, fun hM => hF i j c hc (t.mono c hlt hM)⟩
end Go.AM

namespace Go.Proofs.YtdfdabjdfmamgaaGreat
open Go.AM Go.RowKit
set_option maxRecDepth 100000
set_option maxHeartbeats 4000000
set_option linter.unusedVariables false
set_option linter.unusedSimpArgs false
end Go.Proofs.YtdfdabjdfmamgaaGreat

namespace Go.Proofs.YtdfdabjdfmamgaaGreat
open Go.AM
set_option maxRecDepth 20000
set_option maxHeartbeats 3200000
end Go.Proofs.YtdfdabjdfmamgaaGreat

namespace Go.Proofs.YtdfdabjdfmamgaaGreat
open Go.AM
set_option maxRecDepth 20000
end Go.Proofs.YtdfdabjdfmamgaaGreat

/-
  The abstract machine: the order of strings.
-/
namespace Go.AM
open Go.RowKit
def sLt (s u : ByteArray) : Prop := Op.bytesLess s.toList u.toList = true
theorem b_dc (b : Bool) : b = dc (b = true) := by cases b <;> simp [dc]
section
variable {tb : Prop} {F : AV → Prop} {s u : ByteArray}
theorem B_slss : aBin tb .lss (.string s) (.string u) F = F (.v (.bool (dc (sLt s u)))) := by
  simp only [aBin]; rw [b_dc (Op.bytesLess s.toList u.toList)]; rfl
theorem B_sgeq : aBin tb .geq (.string s) (.string u) F = F (.v (.bool (!dc (sLt s u)))) := by
  simp only [aBin]; rw [b_dc (Op.bytesLess s.toList u.toList)]; rfl
end
attribute [simp ↓] B_slss B_sgeq
end Go.AM

