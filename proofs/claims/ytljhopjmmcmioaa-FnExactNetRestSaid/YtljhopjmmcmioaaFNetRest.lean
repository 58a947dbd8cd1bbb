import Derived.Test.YtljhopjmmcmioaaFRepOk
import Derived.Test.YtljhopjmmcmioaaDNet
namespace Go.Proofs.Ytljhopjmmcmioaa
open Go.AM
set_option maxRecDepth 20000

def netRest (n : Net) : Prop := ∀ r ∈ n.reps, repClean r ∧ r.rev = headRev n.d
theorem specHeadRev_c (d : Doc) : PureC Try.prog 77 [.agg d.row] (.one (.c (vi (headRev d)) 1)) := by
  refine PureC.intro' tt_ok Try.func77 (by kernel_rfl) rfl rfl rfl (Nat.le_of_ble_eq_true rfl) (fun w0 base => ?_)
  simp [Doc.row, headRev]
theorem specNetRest_i (n : Net) (hl : nNet n ≤ 2 ^ 40) : PureC Try.prog 22 [.agg n.row] (.one (.c (vb (netRest n)) 1)) := by
  refine PureC.intro' tt_ok Try.func22 (by kernel_rfl) rfl rfl rfl (Nat.le_of_ble_eq_true rfl) (fun w0 base => ?_)
  obtain ⟨d, l⟩ := n
  unfold nNet at hl
  simp only at hl
  have hle := nL_len (f := nRep) (B := 2 ^ 40) (l := l) (by omega)
  simp [Net.row]
  intro b1
  refine LoopT.intro eok (fun i : Nat => i ≤ l.length ∧ ∀ r ∈ l.take i, repClean r ∧ r.rev = headRev d) (fun i => ⟨24, 0, [(1, .p 16 b1 0), (8, .v (.int .i64 i)), (7, .v (.int .i64 l.length)), (6, .ro (l.map Rep.row))],
    [(16, .vars b1 55 [.v (.string d.name), .v (.int .i64 d.fr), .ro (d.text.map intR), .ro (d.list.map Entry.row), .ro (d.seen.map Seen.row), .ro (l.map Rep.row)])]⟩) (fun i => l.length - i) 0 (by simp) (by simp) (fun i hi => ?_)
  by_cases hlt : i < l.length
  · have hm := nL_mem (f := nRep) (B := 2 ^ 40) (l := l) (by omega) (List.getElem_mem hlt)
    have hne : ∀ h : ¬ (repClean l[i] ∧ l[i].rev = headRev d), ¬ netRest ⟨d, l⟩ := fun h hn => h (hn l[i] (List.getElem_mem hlt))
    simp [hlt, Rep.row]
    intro b4
    refine DrawT.quiet eok mix (by kernel_rfl) ?_
    simp [Rep.row]
    refine ⟨_, _, specRepClean_i l[i] hm, by simp [Rep.row], ?_⟩
    by_cases c1 : repClean l[i]
    · simp [c1]
      refine ⟨_, _, specHeadRev_c d, by simp [Doc.row], ?_⟩
      by_cases c2 : l[i].rev = headRev d
      · simp [c2]
        refine ⟨i + 1, ⟨by omega, fun r hr => ?_⟩, by omega, i64_suc (by omega)⟩
        rw [← List.take_append_getElem hlt] at hr
        rcases List.mem_append.1 hr with hr | hr
        · exact hi.2 r hr
        · simp at hr; subst hr; exact ⟨c1, c2⟩
      · have h3 : dc (netRest ⟨d, l⟩) = false := by rw [dc_no]; exact hne (fun h => c2 h.2)
        simp [c2, h3]
    · have c12 : dc (repClean l[i]) = false := by rw [dc_no]; exact c1
      have h3 : dc (netRest ⟨d, l⟩) = false := by rw [dc_no]; exact hne (fun h => c1 h.1)
      simp [c12, h3]
  · have h3 : netRest ⟨d, l⟩ := fun r hr => hi.2 r (by rw [List.take_of_length_le (by omega)]; exact hr)
    simp [hlt, h3]
theorem implHeadRev_c (d : Doc) : PureC Try.prog 81 [.agg d.row] (.one (.c (vi (headRev d)) 1)) := by
  refine PureC.intro' tt_ok Try.func81 (by kernel_rfl) rfl rfl rfl (Nat.le_of_ble_eq_true rfl) (fun w0 base => ?_)
  simp [Doc.row, headRev]
theorem implNetRest_i (n : Net) (hl : nNet n ≤ 2 ^ 40) : PureC Try.prog 24 [.agg n.row] (.one (.c (vb (netRest n)) 1)) := by
  refine PureC.intro' tt_ok Try.func24 (by kernel_rfl) rfl rfl rfl (Nat.le_of_ble_eq_true rfl) (fun w0 base => ?_)
  obtain ⟨d, l⟩ := n
  unfold nNet at hl
  simp only at hl
  have hle := nL_len (f := nRep) (B := 2 ^ 40) (l := l) (by omega)
  simp [Net.row]
  intro b1
  refine LoopT.intro eok (fun i : Nat => i ≤ l.length ∧ ∀ r ∈ l.take i, repClean r ∧ r.rev = headRev d) (fun i => ⟨24, 0, [(1, .p 16 b1 0), (8, .v (.int .i64 i)), (7, .v (.int .i64 l.length)), (6, .ro (l.map Rep.row))],
    [(16, .vars b1 55 [.v (.string d.name), .v (.int .i64 d.fr), .ro (d.text.map intR), .ro (d.list.map Entry.row), .ro (d.seen.map Seen.row), .ro (l.map Rep.row)])]⟩) (fun i => l.length - i) 0 (by simp) (by simp) (fun i hi => ?_)
  by_cases hlt : i < l.length
  · have hm := nL_mem (f := nRep) (B := 2 ^ 40) (l := l) (by omega) (List.getElem_mem hlt)
    have hne : ∀ h : ¬ (repClean l[i] ∧ l[i].rev = headRev d), ¬ netRest ⟨d, l⟩ := fun h hn => h (hn l[i] (List.getElem_mem hlt))
    simp [hlt, Rep.row]
    intro b4
    refine DrawT.quiet eok mix (by kernel_rfl) ?_
    simp [Rep.row]
    refine ⟨_, _, implRepClean_i l[i] hm, by simp [Rep.row], ?_⟩
    by_cases c1 : repClean l[i]
    · simp [c1]
      refine ⟨_, _, implHeadRev_c d, by simp [Doc.row], ?_⟩
      by_cases c2 : l[i].rev = headRev d
      · simp [c2]
        refine ⟨i + 1, ⟨by omega, fun r hr => ?_⟩, by omega, i64_suc (by omega)⟩
        rw [← List.take_append_getElem hlt] at hr
        rcases List.mem_append.1 hr with hr | hr
        · exact hi.2 r hr
        · simp at hr; subst hr; exact ⟨c1, c2⟩
      · have h3 : dc (netRest ⟨d, l⟩) = false := by rw [dc_no]; exact hne (fun h => c2 h.2)
        simp [c2, h3]
    · have c12 : dc (repClean l[i]) = false := by rw [dc_no]; exact c1
      have h3 : dc (netRest ⟨d, l⟩) = false := by rw [dc_no]; exact hne (fun h => c1 h.1)
      simp [c12, h3]
  · have h3 : netRest ⟨d, l⟩ := fun r hr => hi.2 r (by rw [List.take_of_length_le (by omega)]; exact hr)
    simp [hlt, h3]

noncomputable def fNetRest (n : Net) : Bool := dc (netRest n)
theorem fNetRest_b (n : Net) (_ : n.fits) (_ : nNet n ≤ 2 ^ 20) : True := trivial
theorem specNetRest_c (n : Net) (_ : n.fits) (h : nNet n ≤ 2 ^ 20) : PureC Try.prog 22 [.agg n.row] (.one (.c (.v (.bool (fNetRest n))) 1)) := specNetRest_i n (by omega)
theorem implNetRest_c (n : Net) (_ : n.fits) (h : nNet n ≤ 2 ^ 20) : PureC Try.prog 24 [.agg n.row] (.one (.c (.v (.bool (fNetRest n))) 1)) := implNetRest_i n (by omega)
end Go.Proofs.Ytljhopjmmcmioaa
