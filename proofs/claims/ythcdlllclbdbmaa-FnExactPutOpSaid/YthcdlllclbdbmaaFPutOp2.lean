import Derived.Test.YthcdlllclbdbmaaFPutOp
namespace Go.Proofs.Ythcdlllclbdbmaa
open Go.AM
set_option maxRecDepth 20000

theorem l21Num_c (b : List UInt8) (hb : b.length ≤ 2 ^ 40) (n : Int) (hn : inR n) : PureC Try.prog 81 [.c (.s (b.map byteR)), .c (vi n)] (.one (.c (.s ((b ++ encN [n]).map byteR)) 1)) := by
  refine PureC.intro' tt_ok Try.func81 (by kernel_rfl) rfl rfl rfl (Nat.le_of_ble_eq_true rfl) (fun w0 base => ?_)
  have hdc : dc (0 ≤ n ∧ n ≤ 1114111000) = true := by rw [dc_yes]; exact hn
  have hp := specPutNum_c b hb n
  rw [putNum_in hn] at hp
  simp only [vb, hdc] at hp
  generalize b ++ encN [n] = c at hp
  simp
  refine ACall.pure hp (by simp) ?_
  simp

theorem specPutOp_c (b : List UInt8) (_ : b.length ≤ 9223372036854775807) (n0 : b.length ≤ 2 ^ 20) (o : List Part) (_ : o.length ≤ 9223372036854775807 ∧ ∀ y ∈ o, y.fits) (n1 : nL nPart o ≤ 2 ^ 20) :
    PureC Try.prog 34 [.c (.s (b.map byteR)), .c (.s (o.map Part.row))] (.tup [.c (.s ((fPutOp b o).1.map byteR)) 1, .c (.v (.bool (fPutOp b o).2)) 1]) := by
  refine PureC.intro' tt_ok Try.func34 (by kernel_rfl) rfl rfl rfl (Nat.le_of_ble_eq_true rfl) (fun w0 base => ?_)
  simp
  refine ACall.pure (specOpOk_c o (by omega)) (by simp) ?_
  by_cases hok : opOk o
  rotate_left
  · have e : fPutOp b o = ([], false) := by unfold fPutOp; rw [if_neg hok]
    have e2 : dc (opOk o) = false := by rw [dc_no]; exact hok
    simp [e2, e]
  have er : fPutOp b o = (b ++ encN (nums (opNorm o)), true) := by unfold fPutOp; rw [if_pos hok]
  have hnf := opNorm_nf o
  have hnn := opNorm_n o
  have hc := specOpNorm_c o (by omega)
  rw [er]
  generalize opNorm o = l at hnf hnn hc
  have hle := nL_len hnn
  have hin := nums_in hnf hnn
  have hel := encN_len hin
  rw [nums_length] at hel
  simp [hok]
  refine ACall.pure hc (by simp) ?_
  simp
  intro Ho
  have hl0 : inR (l.length : Int) := hin _ (List.mem_cons_self ..)
  refine ACall.pure (l21Num_c b (by omega) l.length hl0) (by simp) ?_
  generalize hc0 : b ++ encN [(l.length : Int)] = c0
  simp
  intro H0
  refine LoopT.intro eok (fun x : Nat × Nat × Hd × List UInt8 => x.1 ≤ l.length ∧ x.2.2.2 = b ++ encN ((l.length : Int) :: (l.take x.1).flatMap numsP) ∧ x.2.1 ≠ 256 ∧ x.2.1 ≠ 144)
    (fun x => ⟨52, 0, [(23, .v (.int .i64 x.1)), (22, .v (.int .i64 l.length)), (21, .sl 256 Ho 3 0 l.length), (7, .sl x.2.1 x.2.2.1 1 0 x.2.2.2.length)], [(256, .rows Ho 3 (l.map Part.row) true), (x.2.1, .rows x.2.2.1 1 (x.2.2.2.map byteR) true)]⟩) (fun x => l.length - x.1) (0, 320, H0, c0) (by simp [← hc0]) (by simp) (fun x hi => ?_)
  obtain ⟨i, K, H, c⟩ := x
  simp only at hi ⊢
  obtain ⟨hi, hcc, hK1, hK2⟩ := hi
  by_cases h : i < l.length
  rotate_left
  · have he : l.take i = l := List.take_of_length_le (by omega)
    rw [he] at hcc
    have hcn : c = b ++ encN (nums l) := hcc
    subst hcn
    simp [h, hK1]
    rintro row (⟨a, -, rfl⟩ | ⟨a, -, rfl⟩) <;> rfl
  have e : Go.IntKind.i64.wrap ((i : Int) + 1) = ((i + 1 : Nat) : Int) := i64_suc (by omega)
  have hq := hnf _ (List.getElem_mem h)
  have hsz := nL_at hnn h
  have hk := hq.k
  have hn := hq.n
  have hcs : (l.length : Int) :: (l.take (i + 1)).flatMap numsP = ((l.length : Int) :: (l.take i).flatMap numsP) ++ numsP l[i] := by rw [nums_suc h]; simp
  have hin2 : ∀ j, ∀ n ∈ (l.length : Int) :: (l.take j).flatMap numsP, inR n := by
    intro j n hm
    rcases List.mem_cons.1 hm with rfl | hm
    · exact hl0
    · refine hin n (List.mem_cons_of_mem _ ?_)
      rw [List.mem_flatMap] at hm ⊢
      obtain ⟨q, hq, hm⟩ := hm
      exact ⟨q, List.mem_of_mem_take hq, hm⟩
  have hcl : c.length ≤ 2 ^ 30 := by
    have h1 := encN_len (hin2 i)
    have h2 := nums_len (l.take i)
    have h3 := nL_take_le l i
    rw [hcc]
    simp only [List.length_append, List.length_cons, h2] at h1 ⊢
    omega
  unfold nPart at hsz
  have e0 : Go.IntKind.i64.wrap (l[i].n + (l[i].signs.length : Int)) = l[i].n + l[i].signs.length := Go.IntWalk.i64_in _ (by omega)
  have e1 : Go.IntKind.i64.wrap (4 * (l[i].n + (l[i].signs.length : Int))) = 4 * (l[i].n + l[i].signs.length) := Go.IntWalk.i64_in _ (by omega)
  have e2 : Go.IntKind.i64.wrap (4 * (l[i].n + (l[i].signs.length : Int)) + l[i].kind) = 4 * (l[i].n + l[i].signs.length) + l[i].kind := Go.IntWalk.i64_in _ (by omega)
  simp [h, Part.row, e0, e1, e2]
  intro b9
  have hpin : inR (numP l[i]) := numP_in hq (by omega)
  refine ACall.pure (l21Num_c c (by omega) (numP l[i]) hpin) (by simp [numP, hK1, hK2]) ?_
  have hc1l : (c ++ encN [numP l[i]]).length ≤ 2 ^ 30 + 5 := by
    have := encN_len (l := [numP l[i]]) (by simp; exact hpin)
    simp at this ⊢; omega
  generalize hc1 : c ++ encN [numP l[i]] = c1 at hc1l
  simp
  intro H1
  have hsl : l[i].signs.length ≤ 2 ^ 20 := by omega
  have hsin := signs_in hq
  have hfin : b ++ encN ((l.length : Int) :: (l.take (i + 1)).flatMap numsP) = c1 ++ encN l[i].signs := by
    rw [hcs, encN_append, ← List.append_assoc, ← hcc, ← hc1, numsP, encN_cons]
    simp [encN]
  generalize l[i].signs = g at hsl hsin hfin
  refine LoopT.intro eok (fun y : Nat × Nat × Hd × List UInt8 => y.1 ≤ g.length ∧ y.2.2.2 = c1 ++ encN (g.take y.1) ∧ y.2.1 ≠ 256 ∧ y.2.1 ≠ 144)
    (fun y => ⟨52, 0, [(42, .v (.int .i64 y.1)), (41, .v (.int .i64 g.length)), (40, .ro (g.map intR)), (23, .v (.int .i64 i)), (22, .v (.int .i64 l.length)), (21, .sl 256 Ho 3 0 l.length), (7, .sl y.2.1 y.2.2.1 1 0 y.2.2.2.length)], [(256, .rows Ho 3 (l.map Part.row) true), (y.2.1, .rows y.2.2.1 1 (y.2.2.2.map byteR) true)]⟩) (fun y => g.length - y.1) (0, 608, H1, c1) (by simp [encN]) (by simp) (fun y hy => ?_)
  obtain ⟨j, K2, H2, d⟩ := y
  simp only at hy ⊢
  obtain ⟨hy, hd, hK3, hK4⟩ := hy
  by_cases h2 : j < g.length
  rotate_left
  · have he : g.take j = g := List.take_of_length_le (by omega)
    rw [he] at hd
    simp [h2, hK3]
    exact ⟨i + 1, K2, H2, d, ⟨by omega, by rw [hd, hfin], hK3, hK4⟩, by omega, ⟨e, rfl, rfl, rfl⟩, .inl (by simp [hK3])⟩
  have e3 : Go.IntKind.i64.wrap ((j : Int) + 1) = ((j + 1 : Nat) : Int) := i64_suc (by omega)
  have hdl : d.length ≤ 2 ^ 40 := by
    have h1 := encN_len (l := g.take j) (fun n hn => hsin n (List.mem_of_mem_take hn))
    rw [hd]; simp at h1 ⊢; omega
  have hgin := hsin _ (List.getElem_mem h2)
  simp [h2]
  refine ACall.pure (l21Num_c d hdl g[j] hgin) (by simp [hK3, hK4]) ?_
  have hd2 : c1 ++ encN (g.take (j + 1)) = d ++ encN [g[j]] := by rw [hd, ← List.take_append_getElem h2, encN_append, List.append_assoc]
  generalize hd' : d ++ encN [g[j]] = d' at hd2
  simp
  intro H3
  exact ⟨j + 1, 768, H3, d', ⟨by omega, hd2.symm, by decide, by decide⟩, by omega, ⟨e3, rfl, rfl, rfl⟩, .inl rfl⟩
end Go.Proofs.Ythcdlllclbdbmaa
