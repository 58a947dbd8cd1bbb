import Derived.Test.YtljhopjmmcmioaaFCompose
import Derived.Test.YtljhopjmmcmioaaFCur2
import Derived.Test.YtljhopjmmcmioaaFBldC
namespace Go.Proofs.Ytljhopjmmcmioaa
open Go.AM
set_option maxRecDepth 20000
set_option maxHeartbeats 1600000

theorem nbRun_snoc (L : List Part) (p : Part) : nbRun (L ++ [p]) = nbStep (nbRun L) p := by simp [nbRun, List.foldl_append]
theorem nbRun_all {L : List Part} (h : ∀ p ∈ L, partOk p) : NbOk L.length (nbRun L) := by
  have := nbRun_ok h L.length (Nat.le_refl _)
  rwa [List.take_length] at this
theorem part_ext {p : Part} {k n : Int} {s : List Int} (h1 : p.kind = k) (h2 : p.n = n) (h3 : p.signs = s) : p = ⟨k, n, s⟩ := by cases p; simp_all

theorem specCompose_i (a b : List Part) (ha : nL nPart a ≤ 2 ^ 40) (hb : nL nPart b ≤ 2 ^ 40) : PureC Try.prog 85 [.c (.s (a.map Part.row)), .c (.s (b.map Part.row))] (.tup [.c (.s ((fCompose a b).1.map Part.row)) 3, .c (.v (.bool (fCompose a b).2)) 1]) := by
  refine PureC.intro' tt_ok Try.func85 (by kernel_rfl) rfl rfl rfl (Nat.le_of_ble_eq_true rfl) (fun w0 base => ?_)
  simp
  refine ACall.pure (specOpOk_c a ha) (by simp) ?_
  by_cases c1 : opOk a
  rotate_left
  · have e := fCompose_no (a := a) (b := b) (fun h => c1 h.1)
    have e2 : dc (opOk a) = false := by rw [dc_no]; exact c1
    simp [e2, e]
  simp [c1]
  refine ACall.pure (specOpOk_c b hb) (by simp) ?_
  by_cases c2 : opOk b
  rotate_left
  · have e := fCompose_no (a := a) (b := b) (fun h => c2 h.2.1)
    have e2 : dc (opOk b) = false := by rw [dc_no]; exact c2
    simp [e2, e]
  simp [c2]
  refine ACall.pure (specOpTo_c a ha) (by simp) ?_
  simp
  refine ACall.pure (specOpFrom_c b hb) (by simp) ?_
  by_cases c3 : opTo a = opFrom b
  rotate_left
  · have e := fCompose_no (a := a) (b := b) (fun h => c3 h.2.2)
    simp [c3, e]
  have hf := fCompose_yes c1 c2 c3
  simp [c3]
  intro bx by_ bz
  have t1 := tsz_ok c1
  have t2 := tsz_ok c2
  have la := c1.1.2
  have lb := c2.1.2
  have z0 : ∀ o : List Part, cur o 0 0 = o := fun o => by rw [cur_zero, List.drop_zero]
  refine LoopT.introG eok (fun x : Nat × Nat × Nat × Nat × List Part × Hd × Hd => Cu a x.1 x.2.1 (cur a x.1 x.2.1) ∧ Cu b x.2.2.1 x.2.2.2.1 (cur b x.2.2.1 x.2.2.2.1) ∧ CInv (cur a x.1 x.2.1) (cur b x.2.2.1 x.2.2.2.1) ∧ x.2.2.2.2.1 ++ cmp (cur a x.1 x.2.1) (cur b x.2.2.1 x.2.2.2.1) = cmp a b ∧ (∀ p ∈ x.2.2.2.2.1, partOk p) ∧ x.2.2.2.2.1.length + (tsz (cur a x.1 x.2.1) + tsz (cur b x.2.2.1 x.2.2.2.1)) ≤ 800)
    (fun x => ⟨144, 0, [(6, .p 496 bx 0), (7, .p 544 by_ 0), (8, .p 576 bz 0)],
    [(496, .vars bx 171 [.ro (a.map Part.row), .v (.int .i64 x.1), .v (.int .i64 x.2.1)]), (544, .vars by_ 171 [.ro (b.map Part.row), .v (.int .i64 x.2.2.1), .v (.int .i64 x.2.2.2.1)]),
     (576, .vars bz 174 [.sl 5000 x.2.2.2.2.2.1 3 0 (nbRun x.2.2.2.2.1).1.length, .sl 5001 x.2.2.2.2.2.2 1 0 (nbRun x.2.2.2.2.1).2.1.length, .v (.int .i64 (nbRun x.2.2.2.2.1).2.2)]),
     (5000, .rows x.2.2.2.2.2.1 3 ((nbRun x.2.2.2.2.1).1.map Part.row) true), (5001, .rows x.2.2.2.2.2.2 1 ((nbRun x.2.2.2.2.1).2.1.map intR) true)]⟩) (fun x => tsz (cur a x.1 x.2.1) + tsz (cur b x.2.2.1 x.2.2.2.1)) (0, 0, 0, 0, [], none, none)
    ⟨⟨c1.1.1, Nat.zero_le _, fun _ => Nat.zero_le _, fun _ => rfl, rfl⟩, ⟨c2.1.1, Nat.zero_le _, fun _ => Nat.zero_le _, fun _ => rfl, rfl⟩, by simp only [z0]; exact cinv_of c1 c2 c3, by simp [z0], by simp, by simp [z0]; omega⟩ (by simp [nbRun]) (fun x hx => Ent.refl ?_)
  obtain ⟨i, d, j, e, L, H, G⟩ := x
  obtain ⟨cx, cy, hi, hcmp, hL, hlen⟩ := hx
  simp only at cx cy hi hcmp hL hlen ⊢
  have hB := nbRun_all hL
  obtain ⟨B, hBe⟩ : ∃ B, nbRun L = B := ⟨_, rfl⟩
  obtain ⟨BL, BP, BD⟩ := B
  rw [hBe] at hB
  obtain ⟨k1, k2, k3, k4, k5⟩ := hB
  simp only [hBe]
  simp only at k1 k2 k3 k4 k5
  obtain ⟨X, hX⟩ : ∃ X, cur a i d = X := ⟨_, rfl⟩
  obtain ⟨Y, hY⟩ : ∃ Y, cur b j e = Y := ⟨_, rfl⟩
  rw [hX] at cx hi hcmp hlen
  rw [hY] at cy hi hcmp hlen
  obtain ⟨h0, hh0⟩ : ∃ h0 : AH, [(496, .vars bx 171 [.ro (a.map Part.row), .v (.int .i64 i), .v (.int .i64 d)]), (544, .vars by_ 171 [.ro (b.map Part.row), .v (.int .i64 j), .v (.int .i64 e)]),
     (576, .vars bz 174 [.sl 5000 H 3 0 BL.length, .sl 5001 G 1 0 BP.length, .v (.int .i64 BD)]),
     (5000, .rows H 3 (BL.map Part.row) true), (5001, .rows G 1 (BP.map intR) true)] = h0 := ⟨_, rfl⟩
  have R : CR 496 544 bx by_ h0 h0 a b i d j e X Y := ⟨by decide, by decide, by decide, by rw [← hh0]; simp, by rw [← hh0]; simp, fun _ _ _ _ => rfl, cx, cy⟩
  have g5 : AH.get h0 5000 = .rows H 3 (BL.map Part.row) true := by rw [← hh0]; simp
  have g6 : AH.get h0 5001 = .rows G 1 (BP.map intR) true := by rw [← hh0]; simp
  have g7 : AH.get h0 576 = .vars bz 174 [.sl 5000 H 3 0 BL.length, .sl 5001 G 1 0 BP.length, .v (.int .i64 BD)] := by rw [← hh0]; simp
  rw [hh0]
  clear hh0
  simp
  have fin : ∀ {i' d' j' e' : Nat} {r : List Part × List Part × List Part}, Cu a i' d' r.2.1 → Cu b j' e' r.2.2 → cstep X Y = some r →
      (Cu a i' d' (cur a i' d') ∧ Cu b j' e' (cur b j' e') ∧ CInv (cur a i' d') (cur b j' e') ∧ (L ++ r.1) ++ cmp (cur a i' d') (cur b j' e') = cmp a b ∧ (∀ p ∈ L ++ r.1, partOk p) ∧ (L ++ r.1).length + (tsz (cur a i' d') + tsz (cur b j' e')) ≤ 800) ∧ tsz (cur a i' d') + tsz (cur b j' e') < tsz (cur a i d) + tsz (cur b j e) := by
    intro i' d' j' e' r hu hv hs
    have hn := cstep_next hi hs
    have hcm := cmp_some hi hs
    have hdec := hn.dec
    have hln := hn.len
    rw [hu.c, hv.c, hX, hY]
    refine ⟨⟨hu, hv, hn.inv, by rw [List.append_assoc, ← hcm, hcmp], ?_, ?_⟩, hdec⟩
    · intro p hp
      rcases List.mem_append.1 hp with hp | hp
      · exact hL p hp
      · exact hn.ok p hp
    · rw [List.length_append]; omega
  refine R.kind (by omega) (fun h1 i1 d1 R => ?_)
  have okx : ∀ p ∈ nxt X, partOk p := fun p hp => hi.px p (nxt_mem hp)
  have oky : ∀ p ∈ nxt Y, partOk p := fun p hp => hi.py p (nxt_mem hp)
  have hxt := nxt_tos X
  have hyf := nxt_frs Y
  have hbal := hi.b
  cases ex : nxt X with
  | nil =>
    rw [ex] at R
    simp [hdK]
    refine R.swap.kind (by omega) (fun h2 j1 e1 R => ?_)
    have R := R.swap
    cases ey : nxt Y with
    | nil =>
      have hc : cmp X Y = [] := cmp_none (by simp [cstep, ex, ey])
      simp [hdK]
      rw [hc, List.append_nil] at hcmp
      have e5 := R.o 5000 (by decide) (by decide) (by decide)
      have e6 := R.o 5001 (by decide) (by decide) (by decide)
      have e7 := R.o 576 (by decide) (by decide) (by decide)
      refine ACall.inline tt_ok Try.func152 (by kernel_rfl) rfl rfl rfl (Nat.le_of_ble_eq_true rfl) 30000 (fun w1 F => ?_)
      simp
      refine specFlush_callC (L := BL) (P := BP) (D := BD) (Hl := H) (Hp := G) (by omega) (by omega) (by simp [e7, g7]) (by simp [e5, g5]) (by simp [e6, g6]) (fun Hl' h' k576 k5000 ko => ?_)
      have hnorm : nbFlush BL BP BD = normal (cmp a b) := by rw [← hcmp]; unfold normal; rw [hBe]
      rw [hnorm] at k576 k5000
      simp [k576]
      refine ACall.pure (specOpOk_c (normal (cmp a b)) (by rw [← hcmp]; have := nL_normal hL; omega)) (by simp [k5000]) ?_
      by_cases c4 : opOk (normal (cmp a b))
      · have e := hf.1 c4
        simp [c4, e, k5000]
      · have e := hf.2 c4
        have e2 : dc (opOk (normal (cmp a b))) = false := by rw [dc_no]; exact c4
        simp [e2, e]
    | cons q y' =>
      rw [ey] at R
      have hq := (mem_nxt hi.py ey).1
      have hqb := hq.bounds
      have q0 : ¬ q.kind = 0 := by omega
      simp [hdK, q0]
      refine R.kind (by omega) (fun h3 i2 d2 R => ?_)
      simp only [nxt] at R
      simp [nxt, hdK]
      refine R.swap.kind (by omega) (fun h4 j2 e2 R => ?_)
      have R := R.swap
      rw [← ey, nxt_nxt, ey] at R
      rw [← ey, nxt_nxt, ey]
      by_cases q2 : q.kind = 2
      · simp [hdK, q2]
        refine R.swap.left ?_
        simp
        refine R.swap.take q2 (Nat.le_refl _) (fun h5 R => ?_)
        have R := R.swap
        have e5 := R.o 5000 (by decide) (by decide) (by decide)
        have e6 := R.o 5001 (by decide) (by decide) (by decide)
        have e7 := R.o 576 (by decide) (by decide) (by decide)
        simp
        have hc : cstep X Y = some ([pcut q (psz q)], [], pleft q (psz q) :: y') := by simp [cstep, ex, ey, q2]
        have hf := fin R.cx R.cy hc
        rw [pcut_whole hq] at hf
        have hpsz : psz q = q.signs.length := by have := hqb.2.2.2.2.1 q2; unfold psz; omega
        have htk : q.signs.take (psz q) = q.signs := List.take_of_length_le (by omega)
        rw [← List.map_take, htk]
        refine specPut_callC (L := BL) (P := BP) (D := BD) (Hl := H) (Hp := G) (by omega) (by omega) (by simp [e7, g7]) (by simp [e6, g6]) (fun Hp' h' k576 k5001 k5000 ko => ?_)
        have R := R.rebase (h' := h') (ko 496 (by decide) (by decide) (by decide) (by decide)) (ko 544 (by decide) (by decide) (by decide) (by decide))
        simp
        refine Ent.refl ⟨_, _, _, _, _, hf.1, hf.2, H, Hp', ?_⟩
        rw [nbRun_snoc, hBe]
        simp [nbStep, q2, R.gx, R.gy, k576, k5001, k5000, e5, g5]
      · exfalso
        have := nxt_pos ey
        rw [ex] at hxt
        rw [ey] at hyf
        simp [tos, frs, q2] at hxt hyf
        omega
  | cons p x' =>
    rw [ex] at R
    have hp := (mem_nxt hi.px ex).1
    have hpb := hp.bounds
    have hps := psz_int hp
    have p0 : ¬ p.kind = 0 := by omega
    simp [hdK, p0]
    refine R.kind (by omega) (fun h3 i2 d2 R => ?_)
    rw [← ex, nxt_nxt, ex] at R
    rw [← ex, nxt_nxt, ex]
    by_cases p3 : p.kind = 3
    · simp [hdK, p3]
      refine R.left ?_
      simp
      have e5 := R.o 5000 (by decide) (by decide) (by decide)
      have e6 := R.o 5001 (by decide) (by decide) (by decide)
      have e7 := R.o 576 (by decide) (by decide) (by decide)
      refine specDrop_callC (n := (psz p : Int)) (D := BD) (by omega) (by omega) (e7.trans g7) (fun h' k576 ko => ?_)
      have R := R.rebase (h' := h') (ko 496 (by decide)) (ko 544 (by decide))
      have hc : cstep X Y = some ([pcut p (psz p)], pleft p (psz p) :: x', Y) := by simp [cstep, ex, p3]
      have hd := R.done (st := ⟨144, 0, [], h'⟩) (Nat.le_refl (psz p))
      obtain ⟨m, hm⟩ : ∃ m, d2 + psz p = m := ⟨_, rfl⟩
      have ew : Go.IntKind.i64.wrap ((d2 : Int) + (psz p : Int)) = (m : Int) := by rw [Go.IntWalk.i64_in _ (by have := R.cx.bnd; omega)]; omega
      rw [hm] at hd
      have hf := fin hd.cx hd.cy hc
      rw [pcut_whole hp] at hf
      have h5 := ko 5000 (by decide)
      have h6 := ko 5001 (by decide)
      simp [R.gx, ew]
      refine Ent.refl ⟨_, _, _, _, _, hf.1, hf.2, H, G, ?_⟩
      rw [nbRun_snoc, hBe]
      have hpn : (psz p : Int) = p.n := by have := hpb.2.2.2.2.2 (by omega); rw [hps.1, this]; simp
      simp [nbStep, p3, R.gy, k576, h5, h6, e5, g5, e6, g6, hpn]
    · simp [hdK, p3]
      refine R.swap.kind (by omega) (fun h4 j2 e2 R => ?_)
      have R := R.swap
      cases ey : nxt Y with
      | nil =>
        exfalso
        have := nxt_pos ex
        rw [ex] at hxt
        rw [ey] at hyf
        simp [tos, frs, p3] at hxt hyf
        omega
      | cons q y' =>
        rw [ey] at R
        have hq := (mem_nxt hi.py ey).1
        have hqb := hq.bounds
        have hqs := psz_int hq
        by_cases q2 : q.kind = 2
        · simp [hdK, q2]
          refine R.swap.left ?_
          simp
          refine R.swap.take q2 (Nat.le_refl _) (fun h5 R => ?_)
          have R := R.swap
          have e5 := R.o 5000 (by decide) (by decide) (by decide)
          have e6 := R.o 5001 (by decide) (by decide) (by decide)
          have e7 := R.o 576 (by decide) (by decide) (by decide)
          simp
          have hc : cstep X Y = some ([pcut q (psz q)], p :: x', pleft q (psz q) :: y') := by simp [cstep, ex, ey, q2, p3]
          have hf := fin R.cx R.cy hc
          rw [pcut_whole hq] at hf
          have hpsz : psz q = q.signs.length := by have := hqb.2.2.2.2.1 q2; unfold psz; omega
          have htk : q.signs.take (psz q) = q.signs := List.take_of_length_le (by omega)
          rw [← List.map_take, htk]
          refine specPut_callC (L := BL) (P := BP) (D := BD) (Hl := H) (Hp := G) (by omega) (by omega) (by simp [e7, g7]) (by simp [e6, g6]) (fun Hp' h' k576 k5001 k5000 ko => ?_)
          have R := R.rebase (h' := h') (ko 496 (by decide) (by decide) (by decide) (by decide)) (ko 544 (by decide) (by decide) (by decide) (by decide))
          simp
          refine Ent.refl ⟨_, _, _, _, _, hf.1, hf.2, H, Hp', ?_⟩
          rw [nbRun_snoc, hBe]
          simp [nbStep, q2, R.gx, R.gy, k576, k5001, k5000, e5, g5]
        · simp [hdK, q2]
          refine R.left ?_
          simp
          refine R.swap.left ?_
          simp
          refine ACall.pure (l04Min_c (psz p) (psz q)) (by simp) ?_
          have pp := nxt_pos ex
          have qp := nxt_pos ey
          obtain ⟨n, hn⟩ : ∃ n, min (psz p) (psz q) = n := ⟨_, rfl⟩
          rw [hn]
          simp
          refine R.kind (by omega) (fun h5 i3 d3 R => ?_)
          rw [← ex, nxt_nxt, ex] at R
          rw [← ex, nxt_nxt, ex]
          simp [hdK]
          refine R.swap.kind (by omega) (fun h6 j3 e3 R => ?_)
          have R := R.swap
          rw [← ey, nxt_nxt, ey] at R
          rw [← ey, nxt_nxt, ey]
          simp [hdK]
          have hc : cstep X Y = some (if q.kind = 1 then [pcut p n] else if p.kind = 1 then [pcut q n] else [], pleft p n :: x', pleft q n :: y') := by simp [cstep, ex, ey, p3, q2, hn]
          obtain ⟨mx, hmx⟩ : ∃ m, d3 + n = m := ⟨_, rfl⟩
          obtain ⟨my, hmy⟩ : ∃ m, e3 + n = m := ⟨_, rfl⟩
          have ewx : Go.IntKind.i64.wrap ((d3 : Int) + (n : Int)) = (mx : Int) := by rw [Go.IntWalk.i64_in _ (by have := R.cx.bnd; omega)]; omega
          have ewy : Go.IntKind.i64.wrap ((e3 : Int) + (n : Int)) = (my : Int) := by rw [Go.IntWalk.i64_in _ (by have := R.cy.bnd; omega)]; omega
          have cxx := R.cx.add (n := n) (by omega)
          have cyy := R.cy.add (n := n) (by omega)
          rw [hmx] at cxx
          rw [hmy] at cyy
          have hf := fin cxx cyy hc
          have e5 := R.o 5000 (by decide) (by decide) (by decide)
          have e6 := R.o 5001 (by decide) (by decide) (by decide)
          have e7 := R.o 576 (by decide) (by decide) (by decide)
          have gx := R.gx
          have gy := R.gy
          by_cases p2 : p.kind = 2
          · by_cases q1 : q.kind = 1
            · simp only [q1, if_true] at hf
              simp [p2, q1]
              refine R.take p2 (n := n) (by omega) (fun h7 R => ?_)
              rw [hmx] at R
              have e5 := R.o 5000 (by decide) (by decide) (by decide)
              have e6 := R.o 5001 (by decide) (by decide) (by decide)
              have e7 := R.o 576 (by decide) (by decide) (by decide)
              simp
              rw [← List.map_take]
              refine specPut_callC (L := BL) (P := BP) (D := BD) (Hl := H) (Hp := G) (by omega) (by simp; omega) (by simp [e7, g7]) (by simp [e6, g6]) (fun Hp' h' k576 k5001 k5000 ko => ?_)
              have R := R.rebase (h' := h') (ko 496 (by decide) (by decide) (by decide) (by decide)) (ko 544 (by decide) (by decide) (by decide) (by decide))
              simp [R.gy, ewy]
              refine Ent.refl ⟨_, _, _, _, _, hf.1, hf.2, H, Hp', ?_⟩
              rw [nbRun_snoc, hBe]
              have hpk : (pcut p n).signs = p.signs.take n := by simp [pcut, p2]
              simp [nbStep, p2, hpk, R.gx, k576, k5001, k5000, e5, g5, List.map_take]
            · have p1 : ¬ p.kind = 1 := by omega
              simp only [q1, p1, if_false] at hf
              simp [p2, q1, gx, gy, ewx, ewy]
              refine Ent.refl ⟨_, _, _, _, _, hf.1, hf.2, H, G, ?_⟩
              simp [hBe, e5, e6, e7, g5, g6, g7]
          · have p1 : p.kind = 1 := by omega
            by_cases q1 : q.kind = 1
            · simp only [q1, if_true] at hf
              simp [p2, q1]
              have f2 := nbFlush_q (P := BP) k3 k4 k5
              have hpk : (pcut p n).n = n := by simp [pcut, p2]
              refine specKeep_callC (n := (n : Int)) (L := BL) (P := BP) (D := BD) (Hl := H) (Hp := G) (by omega) (by omega) (by omega) (by omega) (fun q hq => by have := f2 q hq; omega) (by simp [e7, g7]) (by simp [e5, g5]) (by simp [e6, g6]) (fun Hl' h' k576 k5000 ko => ?_)
              have R := R.rebase (h' := h') (ko 496 (by decide) (by decide) (by decide) (by decide)) (ko 544 (by decide) (by decide) (by decide) (by decide))
              simp [R.gx, R.gy, ewx, ewy]
              refine Ent.kill 5001 (Ent.refl ⟨_, _, _, _, _, hf.1, hf.2, Hl', none, ?_⟩)
              rw [nbRun_snoc, hBe]
              have n0 : 0 < n := by omega
              simp [nbStep, p1, hpk, n0, k576, k5000]
            · simp only [q1, p1, if_true, if_false] at hf
              simp [p2, q1]
              have q3 : q.kind = 3 := by omega
              have hpk : (pcut q n).n = n := by simp [pcut, q2]
              refine specDrop_callC (n := (n : Int)) (D := BD) (by omega) (by omega) (e7.trans g7) (fun h' k576 ko => ?_)
              have R := R.rebase (h' := h') (ko 496 (by decide)) (ko 544 (by decide))
              have h5 := ko 5000 (by decide)
              have h6 := ko 5001 (by decide)
              simp [R.gx, R.gy, ewx, ewy]
              refine Ent.refl ⟨_, _, _, _, _, hf.1, hf.2, H, G, ?_⟩
              rw [nbRun_snoc, hBe]
              simp [nbStep, q3, hpk, k576, h5, h6, e5, g5, e6, g6]
end Go.Proofs.Ytljhopjmmcmioaa
