import Derived.Test.YthcdlllclbdbmaaFPutNum
import Derived.Test.YthcdlllclbdbmaaFIdle
namespace Go.Proofs.Ythcdlllclbdbmaa
open Go.AM
set_option maxRecDepth 20000

/-- what the parts of a normal form are -/
structure NfOk (q : Part) : Prop where
  k : 1 ≤ q.kind ∧ q.kind ≤ 3
  n : 0 ≤ q.n ∧ q.n ≤ 120000
  s : signsOk q.signs

theorem nbFlush_nf {L : List Part} {P : List Int} {D : Int} (hL : ∀ q ∈ L, NfOk q) (hP : signsOk P) (h0 : 0 ≤ D) (hD : D ≤ 120000) : ∀ q ∈ nbFlush L P D, NfOk q := by
  intro q hq
  unfold nbFlush at hq
  simp only [List.mem_append] at hq
  rcases hq with hq | hq | hq
  · exact hL q hq
  · split at hq
    · simp at hq
    · simp at hq; subst hq; exact ⟨by simp, by simp, hP⟩
  · split at hq
    · simp at hq; subst hq; exact ⟨by simp, ⟨h0, hD⟩, by intro n hn; simp at hn⟩
    · simp at hq
theorem nbRun_nf {o : List Part} (ho : ∀ p ∈ o, partOk p) (hl : o.length ≤ 600) : ∀ (i : Nat), i ≤ o.length → (∀ q ∈ (nbRun (o.take i)).1, NfOk q) ∧ signsOk (nbRun (o.take i)).2.1
  | 0, _ => by simp [nbRun, signsOk]
  | i + 1, hi => by
    obtain ⟨h1, h2⟩ := nbRun_nf ho hl i (by omega)
    have hok := nbRun_ok ho i (by omega)
    have hlt : i < o.length := by omega
    have hpo := ho _ (List.getElem_mem hlt)
    have hp := hpo.bounds
    have hok2 := nbRun_ok ho (i + 1) (by omega)
    rw [nbRun_suc hlt] at hok2 ⊢
    have hsig : o[i].kind = 2 → signsOk o[i].signs := fun hk => by rw [partOk_put hk] at hpo; exact hpo.2.2
    generalize nbRun (o.take i) = s at h1 h2 hok hok2
    generalize o[i] = p at hp hpo hok2 hsig
    obtain ⟨L, P, D⟩ := s
    obtain ⟨k1, k2, k3, k4, k5⟩ := hok
    simp only at h1 h2 k1 k2 k3 k4 k5
    unfold nbStep at hok2 ⊢
    by_cases c2 : p.kind = 2
    · simp only [c2, if_true]
      refine ⟨h1, ?_⟩
      intro n hn
      rcases List.mem_append.1 hn with hn | hn
      · exact h2 n hn
      · exact hsig c2 n hn
    · by_cases c3 : p.kind = 3
      · simp only [c2, c3, if_true, if_false]
        exact ⟨h1, h2⟩
      · by_cases cn : 0 < p.n
        · simp only [c2, c3, cn, if_true, if_false] at hok2 ⊢
          refine ⟨?_, by intro n hn; simp at hn⟩
          have f := nbFlush_nf h1 h2 k3 (show D ≤ 120000 by omega)
          have hq5 := hok2.q
          simp only at hq5
          intro q hq
          have hqn := hq5 q hq
          simp only [nbKeep] at hq
          split at hq
          · split at hq
            · rcases List.mem_or_eq_of_mem_set hq with hq | rfl
              · exact f q hq
              · have := f _ (List.getElem_mem (show (nbFlush L P D).length - 1 < (nbFlush L P D).length by omega))
                exact ⟨by simp, by simp only at hqn ⊢; omega, this.s⟩
            · rcases List.mem_append.1 hq with hq | hq
              · exact f q hq
              · simp at hq; subst hq; exact ⟨by simp, by simp; omega, by intro n hn; simp at hn⟩
          · simp at hq; subst hq; exact ⟨by simp, by simp; omega, by intro n hn; simp at hn⟩
        · simp only [c2, c3, cn, if_false]
          exact ⟨h1, h2⟩
theorem opNorm_nf (o : List Part) : ∀ q ∈ opNorm o, NfOk q := by
  unfold opNorm
  split
  · rename_i h
    have h1 := nbRun_nf h.1.1 h.1.2 o.length (by omega)
    have h2 := nbRun_ok h.1.1 o.length (by omega)
    rw [List.take_length] at h1 h2
    have := h.1.2
    have := h2.d
    exact nbFlush_nf h1.1 h1.2 h2.d0 (by omega)
  · simp
theorem opNorm_len (o : List Part) : (opNorm o).length ≤ 1802 := by
  unfold opNorm
  split
  · rename_i h
    have h1 := normal_len h.1.1
    have h2 := h.1.2
    omega
  · simp

def numP (p : Part) : Int := 4 * (p.n + p.signs.length) + p.kind
def numsP (p : Part) : List Int := numP p :: p.signs
def nums (l : List Part) : List Int := (l.length : Int) :: l.flatMap numsP
def encN (l : List Int) : List UInt8 := l.flatMap fun n => varint n.toNat
theorem encN_append (a b : List Int) : encN (a ++ b) = encN a ++ encN b := by simp [encN]
theorem encN_cons (a : Int) (b : List Int) : encN (a :: b) = varint a.toNat ++ encN b := by simp [encN]
def inR (n : Int) : Prop := 0 ≤ n ∧ n ≤ 1114111000
theorem putNum_in {b : List UInt8} {n : Int} (h : inR n) : putNum b n = b ++ encN [n] := by unfold putNum; rw [if_pos (show 0 ≤ n ∧ n ≤ 1114111000 from h)]; simp [encN]
theorem numP_in {p : Part} (h : NfOk p) (hs : p.signs.length ≤ 2 ^ 20) : inR (numP p) := by
  have := h.k; have := h.n
  unfold inR numP
  omega
theorem signs_in {p : Part} (h : NfOk p) : ∀ n ∈ p.signs, inR n := fun n hn => by have := (h.s n hn).1; unfold inR; omega

theorem varint_len5 {n : Nat} (h : n ≤ 1114111000) : (varint n).length ≤ 5 := by
  by_cases h1 : n < 128
  · rw [varint_small h1]; simp
  rw [varint_big h1]
  by_cases h2 : n / 128 < 128
  · rw [varint_small h2]; simp
  rw [varint_big h2]
  by_cases h3 : n / 128 / 128 < 128
  · rw [varint_small h3]; simp
  rw [varint_big h3]
  by_cases h4 : n / 128 / 128 / 128 < 128
  · rw [varint_small h4]; simp
  rw [varint_big h4]
  have h5 : n / 128 / 128 / 128 / 128 < 128 := by omega
  rw [varint_small h5]; simp
theorem encN_len : ∀ {l : List Int}, (∀ n ∈ l, inR n) → (encN l).length ≤ 5 * l.length
  | [], _ => by simp [encN]
  | n :: l, h => by
    rw [encN_cons]
    have h1 := encN_len (l := l) (fun m hm => h m (List.mem_cons_of_mem _ hm))
    have h2 := h n (List.mem_cons_self ..)
    have h3 := varint_len5 (n := n.toNat) (by unfold inR at h2; omega)
    simp; omega

theorem implPutNums_c (b : List UInt8) (hb : b.length ≤ 2 ^ 30) (l : List Int) (hl : l.length ≤ 2 ^ 30) (hin : ∀ n ∈ l, inR n) : PureC Try.prog 86 [.c (.s (b.map byteR)), .c (.s (l.map intR))] (.tup [.c (.s ((b ++ encN l).map byteR)) 1, .c (.v (.bool true)) 1]) := by
  refine PureC.intro' tt_ok Try.func86 (by kernel_rfl) rfl rfl rfl (Nat.le_of_ble_eq_true rfl) (fun w0 base => ?_)
  simp
  refine ⟨by omega, fun H0 => ?_⟩
  refine LoopT.intro eok (fun x : Nat × Nat × Hd × List UInt8 => x.1 ≤ l.length ∧ x.2.2.2 = b ++ encN (l.take x.1)) (fun x => ⟨30, 0, [(15, .v (.int .i64 x.1)), (14, .v (.int .i64 l.length)), (13, .ro (l.map intR)), (6, .sl x.2.1 x.2.2.1 1 0 x.2.2.2.length)], [(x.2.1, .rows x.2.2.1 1 (x.2.2.2.map byteR) true)]⟩) (fun x => l.length - x.1) (0, 192, H0, b) (by simp [encN]) (by simp) (fun x hi => ?_)
  obtain ⟨i, K, H, c⟩ := x
  simp only at hi ⊢
  obtain ⟨hi, hc⟩ := hi
  by_cases h : i < l.length
  · have e : Go.IntKind.i64.wrap ((i : Int) + 1) = ((i + 1 : Nat) : Int) := i64_suc (by omega)
    have hn := hin _ (List.getElem_mem h)
    have hlen := encN_len (l := l.take i) (fun n hn => hin n (List.mem_of_mem_take hn))
    have hs : b ++ encN (l.take (i + 1)) = putNum c l[i] := by
      rw [hc, putNum_in hn, ← List.take_append_getElem h, encN_append, List.append_assoc]
    have hbl : c.length ≤ 2 ^ 40 := by rw [hc]; simp at hlen ⊢; omega
    have hdc : dc (0 ≤ l[i] ∧ l[i] ≤ 1114111000) = true := by rw [dc_yes]; exact hn
    have hp := implPutNum_c c hbl l[i]
    rw [← hs] at hp
    simp only [vb, hdc] at hp
    generalize hq : b ++ encN (l.take (i + 1)) = c' at hp
    simp [h]
    refine ACall.pure hp (by simp) ?_
    simp
    intro H2
    exact ⟨i + 1, 352, H2, c', ⟨by omega, hq.symm⟩, by omega, ⟨e, rfl, rfl, rfl⟩, .inl rfl⟩
  · have he : l.take i = l := List.take_of_length_le (by omega)
    rw [he] at hc
    subst hc
    simp [h]
    rintro row (⟨a, -, rfl⟩ | ⟨a, -, rfl⟩) <;> rfl

theorem size_c' (p : Part) (h0 : 0 ≤ p.n) (h1 : p.n ≤ 2 ^ 40) (h2 : p.signs.length ≤ 2 ^ 40) : PureC Try.prog 85 [.agg p.row] (.one (.c (vi (p.n + p.signs.length)) 1)) := by
  refine PureC.intro' tt_ok Try.func85 (by kernel_rfl) rfl rfl rfl (Nat.le_of_ble_eq_true rfl) (fun w0 base => ?_)
  have e : Go.IntKind.i64.wrap (p.n + (p.signs.length : Int)) = p.n + p.signs.length := Go.IntWalk.i64_in _ (by omega)
  simp [Part.row, e]

theorem nums_suc {l : List Part} {i : Nat} (h : i < l.length) : (l.take (i + 1)).flatMap numsP = (l.take i).flatMap numsP ++ numsP l[i] := by
  rw [← List.take_append_getElem h, List.flatMap_append]; simp
theorem nums_len : ∀ (l : List Part), (l.flatMap numsP).length = nL nPart l
  | [] => by simp [nL, sumN]
  | p :: l => by
    have := nums_len l
    simp only [List.flatMap_cons, List.length_append, this, numsP, nL, sumN, List.length_cons, nPart]
    omega
theorem nL_take_le (l : List Part) (i : Nat) : nL nPart (l.take i) ≤ nL nPart l := by
  have h : sumN nPart (l.take i) + sumN nPart (l.drop i) = sumN nPart l := by rw [← sumN_append, List.take_append_drop]
  unfold nL; simp; omega
theorem nums_in {l : List Part} (h : ∀ q ∈ l, NfOk q) (hn : nL nPart l ≤ 2 ^ 20) : ∀ n ∈ nums l, inR n := by
  intro n hm
  unfold nums at hm
  rcases List.mem_cons.1 hm with rfl | hm
  · have := nL_len hn
    unfold inR; omega
  · rw [List.mem_flatMap] at hm
    obtain ⟨q, hq, hm⟩ := hm
    have h1 := h q hq
    have h2 := nL_mem hn hq
    rcases List.mem_cons.1 hm with rfl | hm
    · exact numP_in h1 h2
    · exact signs_in h1 n hm

open Classical in
noncomputable def fPutOp (b : List UInt8) (o : List Part) : List UInt8 × Bool := if opOk o then (b ++ encN (nums (opNorm o)), true) else ([], false)
theorem nums_length (l : List Part) : (nums l).length = nL nPart l + 1 := by unfold nums; rw [List.length_cons, nums_len]
theorem fPutOp_b (b : List UInt8) (_ : b.length ≤ 9223372036854775807) (n0 : b.length ≤ 2 ^ 20) (o : List Part) (_ : o.length ≤ 9223372036854775807 ∧ ∀ y ∈ o, y.fits) (n1 : nL nPart o ≤ 2 ^ 20) : (fPutOp b o).1.length ≤ 2 ^ 40 := by
  unfold fPutOp
  split
  · have h1 := encN_len (nums_in (opNorm_nf o) (opNorm_n o))
    have h2 := opNorm_n o
    rw [nums_length] at h1
    simp only [List.length_append]
    omega
  · simp

theorem implPutOp_c (b : List UInt8) (_ : b.length ≤ 9223372036854775807) (n0 : b.length ≤ 2 ^ 20) (o : List Part) (_ : o.length ≤ 9223372036854775807 ∧ ∀ y ∈ o, y.fits) (n1 : nL nPart o ≤ 2 ^ 20) :
    PureC Try.prog 36 [.c (.s (b.map byteR)), .c (.s (o.map Part.row))] (.tup [.c (.s ((fPutOp b o).1.map byteR)) 1, .c (.v (.bool (fPutOp b o).2)) 1]) := by
  refine PureC.intro' tt_ok Try.func36 (by kernel_rfl) rfl rfl rfl (Nat.le_of_ble_eq_true rfl) (fun w0 base => ?_)
  simp
  refine ACall.pure (implOpOk_c o (by omega)) (by simp) ?_
  by_cases hok : opOk o
  rotate_left
  · have e : fPutOp b o = ([], false) := by unfold fPutOp; rw [if_neg hok]
    have e2 : dc (opOk o) = false := by rw [dc_no]; exact hok
    simp [e2, e]
  have er : fPutOp b o = (b ++ encN (nums (opNorm o)), true) := by unfold fPutOp; rw [if_pos hok]
  have hnf := opNorm_nf o
  have hnn := opNorm_n o
  have hc := implOpNorm_c o (by omega)
  rw [er]
  generalize opNorm o = l at hnf hnn hc
  have hle := nL_len hnn
  simp [hok]
  refine ACall.pure hc (by simp) ?_
  simp
  intro Ho b1
  refine LoopT.intro eok (fun x : Nat × Hd × List Int => x.1 ≤ l.length ∧ x.2.2 = (l.length : Int) :: (l.take x.1).flatMap numsP) (fun x => ⟨43, 0, [(20, .v (.int .i64 x.1)), (19, .v (.int .i64 l.length)), (18, .sl 224 Ho 3 0 l.length), (7, .sl 272 x.2.1 1 0 x.2.2.length), (0, .ro (b.map byteR))], [(224, .rows Ho 3 (l.map Part.row) true), (272, .rows x.2.1 1 (x.2.2.map intR) true)]⟩) (fun x => l.length - x.1) (0, some (b1, 0, 1), [(l.length : Int)]) (by simp) (by simp) (fun x hi => ?_)
  obtain ⟨i, H, c⟩ := x
  simp only at hi ⊢
  obtain ⟨hi, hcc⟩ := hi
  by_cases h : i < l.length
  · have e : Go.IntKind.i64.wrap ((i : Int) + 1) = ((i + 1 : Nat) : Int) := i64_suc (by omega)
    have hq := hnf _ (List.getElem_mem h)
    have hsz := nL_at hnn h
    have hk := hq.k
    have hn := hq.n
    have hcl : c.length ≤ 2 ^ 20 + 1 := by
      rw [hcc]
      have h1 := nums_len (l.take i)
      have h2 := nL_take_le l i
      simp only [List.length_cons, h1]
      omega
    have hcs : (l.length : Int) :: (l.take (i + 1)).flatMap numsP = c ++ numsP l[i] := by rw [nums_suc h, hcc]; simp
    unfold nPart at hsz
    have e1 : Go.IntKind.i64.wrap (4 * (l[i].n + (l[i].signs.length : Int))) = 4 * (l[i].n + l[i].signs.length) := Go.IntWalk.i64_in _ (by omega)
    have e2 : Go.IntKind.i64.wrap (4 * (l[i].n + (l[i].signs.length : Int)) + l[i].kind) = 4 * (l[i].n + l[i].signs.length) + l[i].kind := Go.IntWalk.i64_in _ (by omega)
    simp [h, Part.row]
    intro b9
    refine DrawT.introP eok mix [0, 1, 2, 3, 4, 5, 6] [7, 8, 9] [([true, false, false, false, false, false, false], [false, true, true, true, true, true, true]), ([false, false, false, false, true, false, true], [false, true, true, true, false, true, false]), ([false, true, true, true, false, true, false], [false, false, false, false, false, false, false])] [false, false, false, false, false, false, false] (by kernel_rfl) ?_
    simp
    refine ⟨_, _, size_c' l[i] (by omega) (by omega) (by omega), by simp [Part.row], ?_⟩
    simp [e1, e2, Part.row]
    intro b10
    refine ⟨⟨_, _, size_c' l[i] (by omega) (by omega) (by omega), by simp [Part.row], by simp⟩, by omega, by omega, fun H2 => ⟨i + 1, H2, c ++ numsP l[i], ⟨by omega, hcs.symm⟩, by omega, ?_⟩⟩
    simp [e, numsP, numP]
    omega
  · have he : l.take i = l := List.take_of_length_le (by omega)
    rw [he] at hcc
    have hcn : c = nums l := hcc
    subst hcn
    have hl2 := nums_length l
    simp [h]
    refine ACall.pure (implPutNums_c b (by omega) (nums l) (by omega) (nums_in hnf hnn)) (by simp) ?_
    simp
    rintro row (⟨a, -, rfl⟩ | ⟨a, -, rfl⟩) <;> rfl
end Go.Proofs.Ythcdlllclbdbmaa
