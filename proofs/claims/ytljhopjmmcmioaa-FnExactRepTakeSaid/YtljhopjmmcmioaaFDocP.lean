import Derived.Test.YtljhopjmmcmioaaFRepNew
import Derived.Test.YtljhopjmmcmioaaFApply2
namespace Go.Proofs.Ytljhopjmmcmioaa
open Go.AM
set_option maxRecDepth 20000

theorem apRun_len {o : List Part} {t : List Int} (h : fits3 o t) : ∀ (i : Nat), i ≤ o.length → ((apRun (o.take i) t).1.length : Int) = sumI fK (o.take i) + sumI fP (o.take i) ∧ signsOk (apRun (o.take i) t).1
  | 0, _ => by simp [apRun, sumI, signsOk]
  | i + 1, hi => by
    have hlt : i < o.length := by omega
    obtain ⟨h1, h2⟩ := apRun_len h i (by omega)
    have hin := apRun_in h hlt
    have hpo := h.1.1.1 _ (List.getElem_mem hlt)
    have hb := hpo.bounds
    rw [apRun_suc hlt, sumI_suc hlt, sumI_suc hlt]
    generalize apRun (o.take i) t = s at h1 h2 hin
    generalize o[i] = p at hin hpo hb
    unfold apStep
    rw [show fK p = (if p.kind = 1 then p.n else 0) from rfl, show fP p = (if p.kind = 2 then (p.signs.length : Int) else 0) from rfl]
    rcases hb.1 with k | k | k
    · have := hin.2.1 (by omega)
      have e : ((t.drop s.2.toNat).take p.n.toNat).length = p.n.toNat := by simp; omega
      refine ⟨?_, ?_⟩
      · simp only [k, if_true, List.length_append, e]
        have k2 : ¬ (1 : Int) = 2 := by decide
        simp only [k2, if_false]
        omega
      simp only [k, if_true]
      intro n hn
      rcases List.mem_append.1 hn with hn | hn
      · exact h2 n hn
      · exact h.2.1.2 n (List.mem_of_mem_drop (List.mem_of_mem_take hn))
    · refine ⟨by simp [k]; omega, ?_⟩
      have k1 : ¬ p.kind = 1 := by omega
      simp only [k, if_true]
      rw [partOk_put k] at hpo
      intro n hn
      rcases List.mem_append.1 hn with hn | hn
      · exact h2 n hn
      · exact hpo.2.2 n hn
    · exact ⟨by simp [k]; omega, by simpa [k] using h2⟩
theorem apply_textOk {o : List Part} {t : List Int} (h : fits3 o t) : textOk (apply o t).1 ∧ ((apply o t).1.length : Int) = opTo o := by
  have h1 := apRun_len h o.length (Nat.le_refl _)
  rw [List.take_length] at h1
  have e : apply o t = ((apRun o t).1, true) := by unfold apply; rw [if_pos h]
  have ht : opTo o = sumI fK o + sumI fP o := by unfold opTo l02Sum; rw [if_pos h.1.1]
  have h3 := h.1.2.2
  rw [e]
  refine ⟨⟨by simp only; omega, h1.2⟩, by simp only; omega⟩
theorem apply_yes {o : List Part} {t : List Int} : (apply o t).2 = true ↔ fits3 o t := by
  unfold apply
  split <;> simp_all

def nameOk (s : ByteArray) : Prop := (1 ≤ s.size ∧ s.size ≤ 8) ∧ ∀ (i : Nat) (h : i < s.size), 97 ≤ s[i].toNat ∧ s[i].toNat ≤ 122
def entryOk (e : Entry) : Prop := (1 ≤ e.client ∧ e.client ≤ 8) ∧ (1 ≤ e.seq ∧ e.seq ≤ 1000000000) ∧ isNorm e.o
def seensOk (d : Doc) : Prop := ∀ (i : Nat) (h : i < d.seen.length), (1 ≤ d.seen[i].client ∧ d.seen[i].client ≤ 8) ∧ (1 ≤ d.seen[i].seq ∧ d.seen[i].seq ≤ 1000000000) ∧ (1 ≤ d.seen[i].rev ∧ d.seen[i].rev ≤ headRev d) ∧ (∀ h0 : 0 < i, d.seen[i - 1].client < d.seen[i].client)
def docOk (d : Doc) : Prop := nameOk d.name ∧ (0 ≤ d.fr ∧ d.fr ≤ 999999000) ∧ textOk d.text ∧ d.list.length ≤ 8 ∧ (∀ e ∈ d.list, entryOk e) ∧ (applyFrom (d.list.map Entry.o) d.text).isSome = true ∧ seensOk d
open Classical in
noncomputable def textAt (d : Doc) (rev : Int) : List Int × Bool := if docOk d ∧ d.fr ≤ rev ∧ rev ≤ headRev d then applyAll ((d.list.take (rev - d.fr).toNat).map Entry.o) d.text else ([], false)
noncomputable def headText (d : Doc) : List Int := (textAt d (headRev d)).1
open Classical in
noncomputable def seenOf (d : Doc) (c : Int) : Seen × Bool := match d.seen.find? (fun s => decide (s.client = c)) with
  | some s => (s, true)
  | none => (⟨0, 0, 0⟩, false)

noncomputable def sentRep (r : Rep) : Rep := ⟨r.client, r.seq + 1, r.rev, r.text, true, r.buf, keeping (opTo r.buf)⟩
open Classical in
noncomputable def fRepSend (r : Rep) : Rep × Call × Bool := if repOk r ∧ r.has = false ∧ ¬ idle r.buf ∧ r.seq ≠ 999999999 then (sentRep r, ⟨2, ⟨#[]⟩, r.client, r.seq + 1, r.rev, r.buf, []⟩, true) else (Rep.zero, ⟨0, ⟨#[]⟩, 0, 0, 0, [], []⟩, false)
end Go.Proofs.Ytljhopjmmcmioaa
