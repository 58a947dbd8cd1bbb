import Derived.Test.YtljhopjmmcmioaaFRest3
namespace Go.Proofs.Ytljhopjmmcmioaa
open Go.AM
set_option maxRecDepth 20000
set_option maxHeartbeats 1600000

theorem fCompose_no {a b : List Part} (h : ¬ (opOk a ∧ opOk b ∧ opTo a = opFrom b)) : fCompose a b = ([], false) := by unfold fCompose; rw [if_neg h]
theorem fCompose_yes {a b : List Part} (h1 : opOk a) (h2 : opOk b) (h3 : opTo a = opFrom b) : (opOk (normal (cmp a b)) → fCompose a b = (normal (cmp a b), true)) ∧ (¬ opOk (normal (cmp a b)) → fCompose a b = ([], false)) := by
  unfold fCompose
  rw [if_pos ⟨h1, h2, h3⟩]
  exact ⟨fun h => by rw [if_pos h], fun h => by rw [if_neg h]⟩
theorem implCompose_i (a b : List Part) (ha : nL nPart a ≤ 2 ^ 40) (hb : nL nPart b ≤ 2 ^ 40) : PureC Try.prog 88 [.c (.s (a.map Part.row)), .c (.s (b.map Part.row))] (.tup [.c (.s ((fCompose a b).1.map Part.row)) 3, .c (.v (.bool (fCompose a b).2)) 1]) := by
  refine PureC.intro' tt_ok Try.func88 (by kernel_rfl) rfl rfl rfl (Nat.le_of_ble_eq_true rfl) (fun w0 base => ?_)
  simp
  refine ACall.pure (implOpOk_c a ha) (by simp) ?_
  by_cases c1 : opOk a
  rotate_left
  · have e := fCompose_no (a := a) (b := b) (fun h => c1 h.1)
    have e2 : dc (opOk a) = false := by rw [dc_no]; exact c1
    simp [e2, e]
  simp [c1]
  refine ACall.pure (implOpOk_c b hb) (by simp) ?_
  by_cases c2 : opOk b
  rotate_left
  · have e := fCompose_no (a := a) (b := b) (fun h => c2 h.2.1)
    have e2 : dc (opOk b) = false := by rw [dc_no]; exact c2
    simp [e2, e]
  simp [c2]
  refine ACall.pure (implOpTo_c a ha) (by simp) ?_
  simp
  refine ACall.pure (implOpFrom_c b hb) (by simp) ?_
  by_cases c3 : opTo a = opFrom b
  rotate_left
  · have e := fCompose_no (a := a) (b := b) (fun h => c3 h.2.2)
    simp [c3, e]
  have hf := fCompose_yes c1 c2 c3
  simp [c3]
  intro bx by_
  have t1 := tsz_ok c1
  have t2 := tsz_ok c2
  refine LoopT.introG eok (fun x : List Part × List Part × List Part × Hd => CInv x.1 x.2.1 ∧ x.2.2.1 ++ cmp x.1 x.2.1 = cmp a b ∧ (∀ p ∈ x.2.2.1, partOk p) ∧ x.2.2.1.length + (tsz x.1 + tsz x.2.1) ≤ 800 ∧ x.1.length ≤ 1000 ∧ x.2.1.length ≤ 1000)
    (fun x => ⟨98, 0, [(6, .p 464 bx 0), (7, .p 512 by_ 0), (8, .sl 5000 x.2.2.2 3 0 x.2.2.1.length)],
    [(464, .vars bx 183 [.ro (x.1.map Part.row)]), (512, .vars by_ 183 [.ro (x.2.1.map Part.row)]), (5000, .rows x.2.2.2 3 (x.2.2.1.map Part.row) false)]⟩) (fun x => tsz x.1 + tsz x.2.1) (a, b, [], none)
    ⟨cinv_of c1 c2 c3, by simp, by simp, by simp; omega, by have := c1.1.2; simp only; omega, by have := c2.1.2; simp only; omega⟩ (by simp) (fun x hx => Ent.refl ?_)
  obtain ⟨X, Y, L, H⟩ := x
  obtain ⟨hi, hcmp, hL, hlen, hlx, hly⟩ := hx
  simp only at hi hcmp hL hlen hlx hly ⊢
  have xl := nxt_len X
  have yl := nxt_len Y
  obtain ⟨h0, hh0⟩ : ∃ h0 : AH, [(464, .vars bx 183 [.ro (X.map Part.row)]), (512, .vars by_ 183 [.ro (Y.map Part.row)]), (5000, .rows H 3 (L.map Part.row) false)] = h0 := ⟨_, rfl⟩
  have R : RS 464 512 bx by_ h0 h0 X Y := ⟨by decide, by decide, by decide, by rw [← hh0]; simp, by rw [← hh0]; simp, fun _ _ _ _ => rfl⟩
  have g5 : AH.get h0 5000 = .rows H 3 (L.map Part.row) false := by rw [← hh0]; simp
  rw [hh0]
  clear hh0
  simp
  refine R.next hi.px (fun h1 R => ?_)
  have okx : ∀ p ∈ nxt X, partOk p := fun p hp => hi.px p (nxt_mem hp)
  have oky : ∀ p ∈ nxt Y, partOk p := fun p hp => hi.py p (nxt_mem hp)
  have hxt := nxt_tos X
  have hyf := nxt_frs Y
  have hbal := hi.b
  cases ex : nxt X with
  | nil =>
    rw [ex] at R
    simp [hdV_nil]
    refine R.swap.next hi.py (fun h2 R => ?_)
    have R := R.swap
    cases ey : nxt Y with
    | nil =>
      have hc : cmp X Y = [] := cmp_none (by simp [cstep, ex, ey])
      simp [hdV_nil]
      rw [hc, List.append_nil] at hcmp
      have e5 := R.o 5000 (by decide) (by decide) (by decide)
      refine ACall.pure (normal_c L hL (by omega)) (by simp [e5, g5]) ?_
      simp
      intro H2
      rw [hcmp] at hL hlen ⊢
      refine ACall.pure (implOpOk_c (normal (cmp a b)) (by have := nL_normal hL; omega)) (by simp) ?_
      by_cases c4 : opOk (normal (cmp a b))
      · have e := hf.1 c4
        simp [c4, e]
      · have e := hf.2 c4
        have e2 : dc (opOk (normal (cmp a b))) = false := by rw [dc_no]; exact c4
        simp [e2, e]
    | cons q y' =>
      rw [ey] at R
      have hq := (mem_nxt hi.py ey).1
      have hqb := hq.bounds
      have q0 : ¬ q.kind = 0 := by omega
      simp [hdV_cons, q0]
      refine R.next (by simp) (fun h3 R => ?_)
      simp only [nxt] at R
      simp [nxt, hdV_nil]
      refine R.swap.next (by rw [← ey]; exact oky) (fun h4 R => ?_)
      have R := R.swap
      rw [← ey, nxt_nxt, ey] at R
      rw [← ey, nxt_nxt, ey]
      by_cases q2 : q.kind = 2
      · simp [hdV_cons, q2]
        refine R.swap.whole hq (by simp [ey] at yl; omega) (fun h5 R => ?_)
        have R := R.swap
        have e5 := R.o 5000 (by decide) (by decide) (by decide)
        have hc : cstep X Y = some ([pcut q (psz q)], [], pleft q (psz q) :: y') := by simp [cstep, ex, ey, q2]
        rw [pcut_whole hq] at hc
        have hn := cstep_next hi hc
        have hcm := cmp_some hi hc
        simp [hdV_cons, e5, g5]
        intro b1
        refine ⟨by omega, fun H2 => Ent.refl ⟨[], pleft q (psz q) :: y', L ++ [q], ⟨hn.inv, by rw [← hcmp, hcm, List.append_assoc], ?_, ?_, ?_, ?_⟩, hn.dec, H2, ?_⟩⟩
        · intro r hr
          rcases List.mem_append.1 hr with hr | hr
          · exact hL r hr
          · exact hn.ok r hr
        · have := hn.dec
          simp at this ⊢
          omega
        · simp
        · simp [ey] at yl ⊢; omega
        · simp [R.gx, R.gy, Part.row, q2]
      · exfalso
        have := nxt_pos ey
        rw [ex] at hxt
        rw [ey] at hyf
        simp [tos, frs, q2] at hxt hyf
        omega
  | cons p x' =>
    rw [ex] at R
    have hp := (mem_nxt hi.px ex).1
    have hpb := hp.bounds
    have p0 : ¬ p.kind = 0 := by omega
    simp [hdV_cons, p0]
    refine R.next (by rw [← ex]; exact okx) (fun h3 R => ?_)
    rw [← ex, nxt_nxt, ex] at R
    rw [← ex, nxt_nxt, ex]
    by_cases p3 : p.kind = 3
    · simp [hdV_cons, p3]
      refine R.whole hp (by simp [ex] at xl; omega) (fun h5 R => ?_)
      have e5 := R.o 5000 (by decide) (by decide) (by decide)
      have hc : cstep X Y = some ([pcut p (psz p)], pleft p (psz p) :: x', Y) := by simp [cstep, ex, p3]
      rw [pcut_whole hp] at hc
      have hn := cstep_next hi hc
      have hcm := cmp_some hi hc
      simp [hdV_cons, e5, g5]
      intro b1
      refine ⟨by omega, fun H2 => Ent.refl ⟨pleft p (psz p) :: x', Y, L ++ [p], ⟨hn.inv, by rw [← hcmp, hcm, List.append_assoc], ?_, ?_, ?_, ?_⟩, hn.dec, H2, ?_⟩⟩
      · intro r hr
        rcases List.mem_append.1 hr with hr | hr
        · exact hL r hr
        · exact hn.ok r hr
      · have := hn.dec
        simp at this ⊢
        omega
      · simp [ex] at xl ⊢; omega
      · exact hly
      · simp [R.gx, R.gy, Part.row, p3]
    · simp [hdV_cons, p3]
      refine R.swap.next hi.py (fun h4 R => ?_)
      have R := R.swap
      cases ey : nxt Y with
      | nil =>
        exfalso
        have := nxt_pos ex
        rw [ex] at hxt
        rw [ey] at hyf
        simp [tos, frs, p3] at hxt hyf
        omega
      | cons q y' =>
        rw [ey] at R
        have hq := (mem_nxt hi.py ey).1
        have hqb := hq.bounds
        by_cases q2 : q.kind = 2
        · simp [hdV_cons, q2]
          refine R.swap.whole hq (by simp [ey] at yl; omega) (fun h5 R => ?_)
          have R := R.swap
          have e5 := R.o 5000 (by decide) (by decide) (by decide)
          have hc : cstep X Y = some ([pcut q (psz q)], p :: x', pleft q (psz q) :: y') := by simp [cstep, ex, ey, p3, q2]
          rw [pcut_whole hq] at hc
          have hn := cstep_next hi hc
          have hcm := cmp_some hi hc
          simp [hdV_cons, e5, g5]
          intro b1
          refine ⟨by omega, fun H2 => Ent.refl ⟨p :: x', pleft q (psz q) :: y', L ++ [q], ⟨hn.inv, by rw [← hcmp, hcm, List.append_assoc], ?_, ?_, ?_, ?_⟩, hn.dec, H2, ?_⟩⟩
          · intro r hr
            rcases List.mem_append.1 hr with hr | hr
            · exact hL r hr
            · exact hn.ok r hr
          · have := hn.dec
            simp at this ⊢
            omega
          · simp [ex] at xl ⊢; omega
          · simp [ey] at yl ⊢; omega
          · simp [R.gx, R.gy, Part.row, q2]
        · simp [hdV_cons, q2]
          refine R.next (by rw [← ex]; exact okx) (fun h5 R => ?_)
          rw [← ex, nxt_nxt, ex] at R
          rw [← ex, nxt_nxt, ex]
          simp [hdV_cons]
          refine ACall.pure (implSize_c p hp) (by simp [Part.row]) ?_
          simp
          refine R.swap.next (by rw [← ey]; exact oky) (fun h6 R => ?_)
          have R := R.swap
          rw [← ey, nxt_nxt, ey] at R
          rw [← ey, nxt_nxt, ey]
          simp [hdV_cons]
          refine ACall.pure (implSize_c q hq) (by simp [Part.row]) ?_
          simp
          rw [aMin_n]
          obtain ⟨n, hn⟩ : ∃ n, min (psz p) (psz q) = n := ⟨_, rfl⟩
          rw [hn]
          simp
          refine R.take hp (n := n) (by omega) (by simp [ex] at xl; omega) (fun h7 R => ?_)
          rw [hdV_cons]
          obtain ⟨pc, hpc⟩ : ∃ pc, pcut p n = pc := ⟨_, rfl⟩
          have pk : pc.kind = p.kind := by rw [← hpc]; simp
          rw [hpc]
          simp
          refine R.swap.take hq (n := n) (by omega) (by simp [ey] at yl; omega) (fun h8 R => ?_)
          have R := R.swap
          rw [hdV_cons]
          obtain ⟨qc, hqc⟩ : ∃ qc, pcut q n = qc := ⟨_, rfl⟩
          have qk : qc.kind = q.kind := by rw [← hqc]; simp
          rw [hqc]
          have e5 := R.o 5000 (by decide) (by decide) (by decide)
          have hc : cstep X Y = some (if q.kind = 1 then [pc] else if p.kind = 1 then [qc] else [], pleft p n :: x', pleft q n :: y') := by simp [cstep, ex, ey, p3, q2, hn, hpc, hqc]
          have hnx := cstep_next hi hc
          have hcm := cmp_some hi hc
          have hok := hnx.ok
          have hdec := hnx.dec
          have hlx2 : (pleft p n :: x').length ≤ 1000 := by simp [ex] at xl ⊢; omega
          have hly2 : (pleft q n :: y').length ≤ 1000 := by simp [ey] at yl ⊢; omega
          simp only at hcm hok hdec
          simp
          intro b1 b2
          by_cases q1 : q.kind = 1
          · simp only [q1, if_true] at hcm hok
            simp [qk, q1, pk, e5, g5]
            intro b3
            refine ⟨by omega, fun H2 => Ent.refl ⟨pleft p n :: x', pleft q n :: y', L ++ [pc], ⟨hnx.inv, by rw [← hcmp, hcm, List.append_assoc], ?_, ?_, hlx2, hly2⟩, hdec, H2, ?_⟩⟩
            · intro r hr
              rcases List.mem_append.1 hr with hr | hr
              · exact hL r hr
              · exact hok r hr
            · simp; omega
            · simp [R.gx, R.gy, Part.row, pk]
          · by_cases p1 : p.kind = 1
            · simp only [q1, p1, if_true, if_false] at hcm hok
              simp [qk, q1, pk, p1, e5, g5]
              intro b3
              refine ⟨by omega, fun H2 => Ent.refl ⟨pleft p n :: x', pleft q n :: y', L ++ [qc], ⟨hnx.inv, by rw [← hcmp, hcm, List.append_assoc], ?_, ?_, hlx2, hly2⟩, hdec, H2, ?_⟩⟩
              · intro r hr
                rcases List.mem_append.1 hr with hr | hr
                · exact hL r hr
                · exact hok r hr
              · simp; omega
              · simp [R.gx, R.gy, Part.row, qk]
            · simp only [q1, p1, if_false, List.nil_append] at hcm hok
              simp [qk, q1, pk, p1]
              refine Ent.refl ⟨pleft p n :: x', pleft q n :: y', L, ⟨hnx.inv, by rw [← hcmp, hcm], hL, by omega, hlx2, hly2⟩, hdec, H, ?_⟩
              simp [R.gx, R.gy, e5, g5]
end Go.Proofs.Ytljhopjmmcmioaa
