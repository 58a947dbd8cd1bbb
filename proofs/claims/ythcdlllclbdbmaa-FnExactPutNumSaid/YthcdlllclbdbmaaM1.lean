import Derived.Test.YthcdlllclbdbmaaDat
import Derived.Test.YthcdlllclbdbmaaMk
import Derived.Test.YthcdlllclbdbmaaFp
namespace Go.Proofs.Ythcdlllclbdbmaa
open Go.AM
set_option maxRecDepth 20000

theorem i64_step {k : Int} {c d : Nat} (h : k + (c + d : Nat) ≤ 9223372036854775807) (h0 : 0 ≤ k) : Go.IntKind.i64.wrap (k + (c : Nat) + (d : Nat)) = k + ((c + d : Nat) : Int) := by
  rw [Go.IntWalk.i64_in _ (by omega)]; omega

theorem markByteS_c (l : List UInt8) (k : Int) (h0 : 0 ≤ k) (hk : k + l.length ≤ 4611686018427387904) : MarkC Try.prog 21 (.c (.s (l.map byteR)) 1) k (k + l.length) (.c (.s ((markL byteM one l k).map byteR)) 1) := by
  refine MarkC.intro tt_ok Try.func21 (by kernel_rfl) rfl rfl rfl (by decide) (fun w0 base => ?_)
  simp
  intro H
  refine LoopT.introG eok (fun i : Nat => i ≤ l.length) (fun i => ⟨20, 0, [(5, .v (.int .i64 i)), (1, .v (.int .i64 (k + i))), (0, .ml 0 H 1 l.length)], [(0, .rows H 1 (marked byteM one byteR l k i) true)]⟩) (fun i => l.length - i) 0 (by simp) (by simp [marked_0]) (fun i hi => Ent.refl ?_)
  by_cases h : i < l.length
  · simp [h, marked_length]
    refine Ent.refl ⟨i + 1, by omega, by omega, ?_⟩
    have e1 : Go.IntKind.i64.wrap (k + (i : Int) + 1) = k + ((i + 1 : Nat) : Int) := by rw [Go.IntWalk.i64_in _ (by omega)]; omega
    have e2 : Go.IntKind.i64.wrap ((i : Int) + 1) = ((i + 1 : Nat) : Int) := i64_suc (by omega)
    simp [e1, e2]
    refine marked_set h ?_
    simp [byteR, cntL_one, byteM_wrap (b := l[i])]
    rw [Nat.min_eq_left (by omega)]
  · have : i = l.length := by omega
    subst this
    simp [marked_all, markL_length]

theorem markL_cell {α : Type} {mk : α → Int → α} {cn : α → Nat} {l : List α} {k : Int} {i : Nat} (h : i < l.length) : (markL mk cn l k)[i]'(by rw [markL_length]; exact h) = mk l[i] (k + cntL cn (l.take i)) := by
  have := markL_get (mk := mk) (cn := cn) (k := k) h
  rw [List.getElem?_eq_getElem (by rw [markL_length]; exact h)] at this
  exact Option.some.inj this

theorem heldByteS_c (l : List UInt8) (k : Int) (h0 : 0 ≤ k) (hk : k + l.length ≤ 4611686018427387904) : PureC Try.prog 22 [.c (.s ((markL byteM one l k).map byteR)), .c (vi k)] (.one (.c (vi (k + l.length)) 1)) := by
  refine PureC.intro' tt_ok Try.func22 (by kernel_rfl) rfl rfl rfl (Nat.le_of_ble_eq_true rfl) (fun w0 base => ?_)
  simp
  refine LoopT.intro eok (fun i : Nat => i ≤ l.length) (fun i => ⟨22, 0, [(5, .v (.int .i64 i)), (1, .v (.int .i64 (k + i))), (0, .ro ((markL byteM one l k).map byteR))], []⟩) (fun i => l.length - i) 0 (by simp) (by simp) (fun i hi => ?_)
  by_cases h : i < l.length
  · have e1 : Go.IntKind.i64.wrap (k + (i : Int) + 1) = k + ((i + 1 : Nat) : Int) := by rw [Go.IntWalk.i64_in _ (by omega)]; omega
    have e2 : Go.IntKind.i64.wrap ((i : Int) + 1) = ((i + 1 : Nat) : Int) := i64_suc (by omega)
    have hm : (markL byteM one l k)[i]'(by rw [markL_length]; exact h) = byteM l[i] (k + i) := by
      rw [markL_cell h, cntL_one, List.length_take, Nat.min_eq_left (by omega)]
    simp [h, markL_length, hm, byteM_wrap (b := l[i])]
    refine ⟨i + 1, by omega, by omega, ?_, ?_⟩
    · exact e2
    · exact e1
  · have : i = l.length := by omega
    subst this
    simp [markL_length]

theorem markIntS_c (l : List Int) (k : Int) (h0 : 0 ≤ k) (hk : k + l.length ≤ 4611686018427387904) : MarkC Try.prog 52 (.c (.s (l.map intR)) 1) k (k + l.length) (.c (.s ((markL intM one l k).map intR)) 1) := by
  refine MarkC.intro tt_ok Try.func52 (by kernel_rfl) rfl rfl rfl (by decide) (fun w0 base => ?_)
  simp
  intro H
  refine LoopT.introG eok (fun i : Nat => i ≤ l.length) (fun i => ⟨19, 0, [(5, .v (.int .i64 i)), (1, .v (.int .i64 (k + i))), (0, .ml 0 H 1 l.length)], [(0, .rows H 1 (marked intM one intR l k i) true)]⟩) (fun i => l.length - i) 0 (by simp) (by simp [marked_0]) (fun i hi => Ent.refl ?_)
  by_cases h : i < l.length
  · simp [h, marked_length]
    refine Ent.refl ⟨i + 1, by omega, by omega, ?_⟩
    have e1 : Go.IntKind.i64.wrap (k + (i : Int) + 1) = k + ((i + 1 : Nat) : Int) := by rw [Go.IntWalk.i64_in _ (by omega)]; omega
    have e2 : Go.IntKind.i64.wrap ((i : Int) + 1) = ((i + 1 : Nat) : Int) := i64_suc (by omega)
    simp [e1, e2]
    refine marked_set h ?_
    simp [intR, cntL_one]
    omega
  · have : i = l.length := by omega
    subst this
    simp [marked_all, markL_length]

theorem heldIntS_c (l : List Int) (k : Int) (h0 : 0 ≤ k) (hk : k + l.length ≤ 4611686018427387904) : PureC Try.prog 60 [.c (.s ((markL intM one l k).map intR)), .c (vi k)] (.one (.c (vi (k + l.length)) 1)) := by
  refine PureC.intro' tt_ok Try.func60 (by kernel_rfl) rfl rfl rfl (Nat.le_of_ble_eq_true rfl) (fun w0 base => ?_)
  simp
  refine LoopT.intro eok (fun i : Nat => i ≤ l.length) (fun i => ⟨21, 0, [(5, .v (.int .i64 i)), (1, .v (.int .i64 (k + i))), (0, .ro ((markL intM one l k).map intR))], []⟩) (fun i => l.length - i) 0 (by simp) (by simp) (fun i hi => ?_)
  by_cases h : i < l.length
  · have e1 : Go.IntKind.i64.wrap (k + (i : Int) + 1) = k + ((i + 1 : Nat) : Int) := by rw [Go.IntWalk.i64_in _ (by omega)]; omega
    have e2 : Go.IntKind.i64.wrap ((i : Int) + 1) = ((i + 1 : Nat) : Int) := i64_suc (by omega)
    have hm : (markL intM one l k)[i]'(by rw [markL_length]; exact h) = k + i := by
      rw [markL_cell h, cntL_one, List.length_take, Nat.min_eq_left (by omega)]
    simp [h, markL_length, hm]
    refine ⟨i + 1, by omega, by omega, ?_, ?_⟩
    · exact e2
    · exact e1
  · have : i = l.length := by omega
    subst this
    simp [markL_length]

def Part.mark (p : Part) (k : Int) : Part := ⟨k, k + 1, markL intM one p.signs (k + 2)⟩
def Part.cnt (p : Part) : Nat := 2 + p.signs.length

theorem markPartS_c (l : List Part) (k : Int) (h0 : 0 ≤ k) (hk : k + cntL Part.cnt l ≤ 4611686018427387904) (hl : l.length ≤ 4611686018427387904) : MarkC Try.prog 38 (.c (.s (l.map Part.row)) 3) k (k + cntL Part.cnt l) (.c (.s ((markL Part.mark Part.cnt l k).map Part.row)) 3) := by
  refine MarkC.intro tt_ok Try.func38 (by kernel_rfl) rfl rfl rfl (by decide) (fun w0 base => ?_)
  simp
  intro H
  refine LoopT.introG eok (fun i : Nat => i ≤ l.length) (fun i => ⟨34, 0, [(5, .v (.int .i64 i)), (1, .v (.int .i64 (k + cntL Part.cnt (l.take i)))), (0, .ml 0 H 3 l.length)], [(0, .rows H 3 (marked Part.mark Part.cnt Part.row l k i) true)]⟩) (fun i => l.length - i) 0 (by simp) (by simp [marked_0, cntL]) (fun i hi => ?_)
  by_cases h : i < l.length
  · have hc := cntL_cell_le (cn := Part.cnt) h
    have hs := cntL_take_suc (cn := Part.cnt) h
    obtain ⟨q, hq⟩ : ∃ q, k + ((cntL Part.cnt (l.take i) : Nat) : Int) = q := ⟨_, rfl⟩
    have hpc : Part.cnt l[i] = 2 + l[i].signs.length := rfl
    rw [hq, ← marked_row h]
    refine Ent.open (fun _ h => h) (k := 0) (i := i) (j := 2) (k' := 900) (sz' := 1) (sz := 3) (H := H) (rows := (marked Part.mark Part.cnt Part.row l k i).set i l[i].row) (srows := l[i].signs.map intR) (row := Part.row l[i]) (by simp) (by simp [marked_length, h]) rfl (by simp) (by decide) (by simp [intR]) (by simp) (fun H' => Ent.refl ?_)
    have e1 : Go.IntKind.i64.wrap (q + 1) = q + 1 := Go.IntWalk.i64_in _ (by omega)
    have e2 : Go.IntKind.i64.wrap (q + 1 + 1) = q + 2 := by rw [Go.IntWalk.i64_in _ (by omega)]; omega
    have e3 : Go.IntKind.i64.wrap ((i : Int) + 1) = ((i + 1 : Nat) : Int) := i64_suc (by omega)
    simp [h, marked_length, Part.row, setC_set, modify_set, e1, e2]
    refine ACall.mark (markIntS_c l[i].signs (q + 2) (by omega) (by omega)) rfl (fun _ h => h) (by simp) ?_
    simp [e3]
    refine Ent.close (k := 0) (i := i) (j := 2) (k' := 900) (sz' := 1) (sz := 3) (H := H) (rows := (marked Part.mark Part.cnt Part.row l k i).set i [vi q, vi (q + 1), .h 900 H' 1 l[i].signs.length]) (row := [vi q, vi (q + 1), .h 900 H' 1 l[i].signs.length]) (H' := H') (srows := (markL intM one l[i].signs (q + 2)).map intR) (by simp) (by simp [marked_length, h]) (by simp [markL_length]) (by simp) (by decide) (by simp) (Ent.refl ?_)
    refine ⟨i + 1, by omega, by omega, ?_⟩
    simp [setC_set, hs, hpc]
    refine ⟨by omega, ?_⟩
    refine marked_set h ?_
    rw [hq]
    rfl
  · have : i = l.length := by omega
    subst this
    refine Ent.refl ?_
    simp [marked_all, markL_length, Part.row]
end Go.Proofs.Ythcdlllclbdbmaa
