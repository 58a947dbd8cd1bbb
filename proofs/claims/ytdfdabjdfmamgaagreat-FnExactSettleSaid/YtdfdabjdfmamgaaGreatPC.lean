import Derived.Test.YtdfdabjdfmamgaaGreatPB
import Derived.Test.YtdfdabjdfmamgaaGreatMF
import Derived.Test.YtdfdabjdfmamgaaGreatNA
namespace Go.Proofs.YtdfdabjdfmamgaaGreat
open Go.AM
set_option maxRecDepth 20000

theorem l04Size_c (p : Part) (h : partOk p) : PureC Tryz.prog 333 [.agg p.row] (.one (.c (vi (psz p)) 1)) := by
  refine PureC.intro' tt_ok Tryz.func333 (by kernel_rfl) rfl rfl rfl (Nat.le_of_ble_eq_true rfl) (fun w0 base => ?_)
  have hp := psz_int h
  have hb := h.bounds
  rw [hp.1]
  simp [Part.row]
  by_cases hk : p.kind = 2
  · have := hb.2.2.2.2.1 hk
    simp [hk, this]
  · have := hb.2.2.2.2.2 hk
    simp [hk, this]

/-- a place in an operation -/
structure Cu (a : List Part) (i d : Nat) (X : List Part) : Prop where
  ok : ∀ p ∈ a, partOk p
  le : i ≤ a.length
  v : ∀ h : i < a.length, d ≤ psz a[i]
  z : i = a.length → d = 0
  c : cur a i d = X
def hdK : List Part → Int
  | [] => 0
  | p :: _ => p.kind
/-- two operations that are being read by the reference; all else below 14000 stays as it was -/
structure CR (kx ky bx by_ : Nat) (h0 h : AH) (a b : List Part) (i d j e : Nat) (X Y : List Part) : Prop where
  ne : kx ≠ ky
  lx : kx < 14000 - 16
  ly : ky < 14000 - 16
  gx : AH.get h kx = .vars bx 304 [.ro (a.map Part.row), .v (.int .i64 i), .v (.int .i64 d)]
  gy : AH.get h ky = .vars by_ 304 [.ro (b.map Part.row), .v (.int .i64 j), .v (.int .i64 e)]
  o : ∀ q, q ≠ kx → q ≠ ky → q < 14000 → AH.get h q = AH.get h0 q
  cx : Cu a i d X
  cy : Cu b j e Y
theorem CR.swap {kx ky bx by_ : Nat} {h0 h : AH} {a b : List Part} {i d j e : Nat} {X Y : List Part} (R : CR kx ky bx by_ h0 h a b i d j e X Y) : CR ky kx by_ bx h0 h b a j e i d Y X := ⟨R.ne.symm, R.ly, R.lx, R.gy, R.gx, fun q h1 h2 => R.o q h2 h1, R.cy, R.cx⟩

theorem Cu.bnd {a : List Part} {i d : Nat} {X : List Part} (h : Cu a i d X) : d ≤ 200 := by
  by_cases hlt : i < a.length
  · have := h.v hlt
    have := (psz_int (h.ok _ (List.getElem_mem hlt))).2
    omega
  · have := h.z (by have := h.le; omega)
    omega

theorem kind_call {w0 : World} {bF bG : Nat → Prop} {bl : Bool} {st : ASt} {dst : Option Nat} {K : ASt → Prop} {kx b i d : Nat} {a X : List Part} (_hk : kx < 14000) (hl : a.length ≤ 2 ^ 20) (cx : Cu a i d X)
    (g : st.h.get kx = .vars b 304 [.ro (a.map Part.row), .v (.int .i64 i), .v (.int .i64 d)])
    (hK : ∀ h' i' d', Cu a i' d' (nxt X) → AH.get h' kx = .vars b 304 [.ro (a.map Part.row), .v (.int .i64 i'), .v (.int .i64 d')] → (∀ q, q ≠ kx → q < 20000 → AH.get h' q = st.h.get q) → aPut ⟨st.n, st.kb, st.t, h'⟩ dst (.v (.int .i64 (hdK (nxt X)))) K) :
    ACall ⟨Tryz.prog, tt, w0, ⟨bF, bG, bl, fun _ => True⟩⟩ 295 [.p kx b 0] st dst K := by
  refine ACall.inline tt_ok Tryz.func295 (by kernel_rfl) rfl rfl rfl (Nat.le_of_ble_eq_true rfl) 20000 (fun w1 F => ?_)
  simp
  refine LoopT.introW eok (fun x : Nat × Nat => Cu a x.1 x.2 (cur a x.1 x.2) ∧ nxt (cur a x.1 x.2) = nxt X) (fun x => ⟨62, 20000, [(0, .p kx b 0), (2, .v (.int .i64 0))], (kx, .vars b 304 [.ro (a.map Part.row), .v (.int .i64 x.1), .v (.int .i64 x.2)]) :: st.h⟩) (fun x => a.length - x.1) (i, d) ⟨⟨cx.ok, cx.le, cx.v, cx.z, rfl⟩, by rw [cx.c]⟩ (by simp [g]) (fun x hx => ?_)
  obtain ⟨i, d⟩ := x
  obtain ⟨hc, hn⟩ := hx
  have hcl := hc.le
  have hb := hc.bnd
  simp only at hc hn hcl ⊢
  simp
  by_cases hlt : i < a.length
  · have hp := hc.ok _ (List.getElem_mem hlt)
    have hd := hc.v hlt
    have hps := psz_int hp
    refine DrawT.quiet eok mix (by kernel_rfl) ?_
    simp [hlt]
    refine ⟨_, _, l04Size_c a[i] hp, by simp [Part.row], ?_⟩
    by_cases he : d = psz a[i]
    · have e1 : Go.IntKind.i64.wrap ((i : Int) + 1) = ((i + 1 : Nat) : Int) := i64_suc (by omega)
      simp [he, e1]
      refine ⟨i + 1, 0, ⟨⟨hc.ok, by omega, fun _ => by omega, fun _ => rfl, rfl⟩, ?_⟩, by omega, by omega, rfl⟩
      rw [← hn, he, cur_step hc.ok hlt]
    · have he2 : ¬ (d : Int) = psz a[i] := by omega
      have hne : ¬ i = a.length := by omega
      simp [he2]
      refine DrawT.quiet eok mix (by kernel_rfl) ?_
      have hne2 : ¬ (i : Int) = a.length := by omega
      simp [hne2]
      refine DrawT.quiet eok mix (by kernel_rfl) ?_
      simp [hlt, Part.row]
      have hs := cur_stop hc.ok hlt (show d < psz a[i] by omega)
      rw [hs] at hn
      have hk2 : hdK (nxt X) = a[i].kind := by rw [← hn, cur_at hlt]; simp [hdK]
      rw [hk2] at hK
      refine hK _ i d ⟨hc.ok, hc.le, hc.v, hc.z, hn⟩ (by simp) (fun q q1 q2 => by simp [q1])
  · have hi : i = a.length := by omega
    have hd := hc.z hi
    refine DrawT.quiet eok mix (by kernel_rfl) ?_
    simp [hlt]
    refine DrawT.quiet eok mix (by kernel_rfl) ?_
    simp [hi]
    have hn2 : nxt X = [] := by rw [← hn, cur_end (by omega)]; rfl
    rw [hn2] at hK
    refine hK _ i d ⟨hc.ok, hc.le, hc.v, hc.z, cur_end (by omega)⟩ (by simp [hi]) (fun q q1 q2 => by simp [q1])

theorem Cu.head {a : List Part} {i d : Nat} {p : Part} {l : List Part} (h : Cu a i d (p :: l)) : ∃ hi : i < a.length, p = pleft a[i] d ∧ l = a.drop (i + 1) ∧ psz p = psz a[i] - d ∧ d ≤ psz a[i] ∧ p.kind = a[i].kind ∧ partOk p := by
  have hi : i < a.length := by
    have := h.le
    rcases Nat.lt_or_ge i a.length with h1 | h1
    · exact h1
    · have := h.c
      rw [cur_end h1] at this
      cases this
  have hc := h.c
  rw [cur_at hi] at hc
  cases hc
  have hp := h.ok _ (List.getElem_mem hi)
  exact ⟨hi, rfl, rfl, pleft_sz hp (h.v hi), h.v hi, by simp, pleft_ok hp (h.v hi)⟩
theorem Cu.add {a : List Part} {i d n : Nat} {p : Part} {l : List Part} (h : Cu a i d (p :: l)) (hn : n ≤ psz p) : Cu a i (d + n) (pleft p n :: l) := by
  obtain ⟨hi, h1, h2, h3, h4, -, -⟩ := h.head
  exact ⟨h.ok, h.le, fun _ => by omega, fun he => by omega, (cur_left hi h.c).symm⟩

theorem left_call {w0 : World} {bF bG : Nat → Prop} {bl : Bool} {st : ASt} {dst : Option Nat} {K : ASt → Prop} {kx b i d : Nat} {a l : List Part} {p : Part} (cx : Cu a i d (p :: l))
    (g : st.h.get kx = .vars b 304 [.ro (a.map Part.row), .v (.int .i64 i), .v (.int .i64 d)])
    (hK : aPut st dst (.v (.int .i64 (psz p))) K) :
    ACall ⟨Tryz.prog, tt, w0, ⟨bF, bG, bl, fun _ => True⟩⟩ 296 [.p kx b 0] st dst K := by
  refine ACall.inline tt_ok Tryz.func296 (by kernel_rfl) rfl rfl rfl (Nat.le_of_ble_eq_true rfl) 20000 (fun w1 F => ?_)
  obtain ⟨hi, h1, h2, h3, h4, -, -⟩ := cx.head
  have hp := cx.ok _ (List.getElem_mem hi)
  have hps := psz_int hp
  simp
  refine DrawT.quiet eok mix (by kernel_rfl) ?_
  simp [g, hi]
  refine ⟨_, _, l04Size_c a[i] hp, by simp [Part.row], ?_⟩
  have e : Go.IntKind.i64.wrap ((psz a[i] : Int) - (d : Int)) = (psz p : Int) := by rw [Go.IntWalk.i64_in _ (by omega)]; omega
  simp [e]
  exact hK

theorem curTake_call {w0 : World} {bF bG : Nat → Prop} {bl : Bool} {st : ASt} {dst : Option Nat} {K : ASt → Prop} {kx b i d n : Nat} {a l : List Part} {p : Part} (_hk : kx < 14000) (cx : Cu a i d (p :: l)) (hk2 : p.kind = 2) (hn : n ≤ psz p)
    (g : st.h.get kx = .vars b 304 [.ro (a.map Part.row), .v (.int .i64 i), .v (.int .i64 d)])
    (hK : ∀ h', Cu a i (d + n) (pleft p n :: l) → AH.get h' kx = .vars b 304 [.ro (a.map Part.row), .v (.int .i64 i), .v (.int .i64 ((d + n : Nat) : Int))] → (∀ q, q ≠ kx → q < 20000 → AH.get h' q = st.h.get q) → aPut ⟨st.n, st.kb, st.t, h'⟩ dst (.ro ((p.signs.take n).map intR)) K) :
    ACall ⟨Tryz.prog, tt, w0, ⟨bF, bG, bl, fun _ => True⟩⟩ 299 [.p kx b 0, .v (.int .i64 n)] st dst K := by
  refine ACall.inline tt_ok Tryz.func299 (by kernel_rfl) rfl rfl rfl (Nat.le_of_ble_eq_true rfl) 20000 (fun w1 F => ?_)
  obtain ⟨hi, h1, h2, h3, h4, h5, -⟩ := cx.head
  have hp := cx.ok _ (List.getElem_mem hi)
  have hps := psz_int hp
  have hkk : a[i].kind = 2 := by rw [← h5]; exact hk2
  have hn0 := hp.bounds.2.2.2.2.1 hkk
  have hsz : psz a[i] = a[i].signs.length := by omega
  have hs : p.signs = a[i].signs.drop d := by rw [h1]; simp [pleft, hkk]
  have e : Go.IntKind.i64.wrap ((d : Int) + (n : Int)) = ((d + n : Nat) : Int) := by rw [Go.IntWalk.i64_in _ (by omega)]; omega
  have hle : d + n ≤ a[i].signs.length := by omega
  have hv : cut (a[i].signs.map intR) d n = (p.signs.take n).map intR := by
    unfold cut
    split
    · rename_i hh
      rw [hs, hh.1]
      simp at hh
      simp [hh.2]
    · rw [hs, List.map_take, List.map_drop]
  obtain ⟨m, hm⟩ : ∃ m, d + n = m := ⟨_, rfl⟩
  have e2 : m - d = n := by omega
  have hadd := cx.add hn
  rw [hm] at e hle hK hadd
  simp
  refine DrawT.quiet eok mix (by kernel_rfl) ?_
  simp [g, hi, Part.row, e, e2, hv]
  simp only [List.map_take] at hK
  refine ⟨hle, by omega, hK _ hadd ?_ (fun q q1 q2 => ?_)⟩
  · simp
  · simp [q1]

theorem l04Min_c (x y : Nat) : PureC Tryz.prog 300 [.c (vi x), .c (vi y)] (.one (.c (vi ((min x y : Nat) : Int)) 1)) := by
  refine PureC.intro' tt_ok Tryz.func300 (by kernel_rfl) rfl rfl rfl (Nat.le_of_ble_eq_true rfl) (fun w0 base => ?_)
  simp
  by_cases h : x < y
  · have : min x y = x := by omega
    simp [h, this]
  · have : min x y = y := by omega
    simp [h, this]
section
variable {w0 : World} {bF bG : Nat → Prop} {bl : Bool} {st : ASt} {dst : Option Nat} {K : ASt → Prop} {kx ky bx by_ i d j e : Nat} {h0 : AH} {a b X Y : List Part}
theorem CR.kind (R : CR kx ky bx by_ h0 st.h a b i d j e X Y) (hl : a.length ≤ 2 ^ 20) (hK : ∀ h' i' d', CR kx ky bx by_ h0 h' a b i' d' j e (nxt X) Y → aPut ⟨st.n, st.kb, st.t, h'⟩ dst (.v (.int .i64 (hdK (nxt X)))) K) :
    ACall ⟨Tryz.prog, tt, w0, ⟨bF, bG, bl, fun _ => True⟩⟩ 295 [.p kx bx 0] st dst K := by
  have := R.lx
  have := R.ly
  refine kind_call (by omega) hl R.cx R.gx (fun h1 i1 d1 c1 g1 o1 => hK h1 i1 d1 ⟨R.ne, R.lx, R.ly, g1, by rw [o1 ky R.ne.symm (by omega)]; exact R.gy, fun q q1 q2 q3 => by rw [o1 q q1 (by omega)]; exact R.o q q1 q2 q3, c1, R.cy⟩)
theorem CR.left {p : Part} {l : List Part} (R : CR kx ky bx by_ h0 st.h a b i d j e (p :: l) Y) (hK : aPut st dst (.v (.int .i64 (psz p))) K) :
    ACall ⟨Tryz.prog, tt, w0, ⟨bF, bG, bl, fun _ => True⟩⟩ 296 [.p kx bx 0] st dst K := left_call R.cx R.gx hK
theorem CR.take {p : Part} {l : List Part} {n : Nat} (R : CR kx ky bx by_ h0 st.h a b i d j e (p :: l) Y) (hk2 : p.kind = 2) (hn : n ≤ psz p) (hK : ∀ h', CR kx ky bx by_ h0 h' a b i (d + n) j e (pleft p n :: l) Y → aPut ⟨st.n, st.kb, st.t, h'⟩ dst (.ro ((p.signs.take n).map intR)) K) :
    ACall ⟨Tryz.prog, tt, w0, ⟨bF, bG, bl, fun _ => True⟩⟩ 299 [.p kx bx 0, .v (.int .i64 n)] st dst K := by
  have := R.lx
  have := R.ly
  refine curTake_call (by omega) R.cx hk2 hn R.gx (fun h1 c1 g1 o1 => hK h1 ⟨R.ne, R.lx, R.ly, g1, by rw [o1 ky R.ne.symm (by omega)]; exact R.gy, fun q q1 q2 q3 => by rw [o1 q q1 (by omega)]; exact R.o q q1 q2 q3, c1, R.cy⟩)
/-- the cursors stay, all else may have been turned -/
theorem CR.rebase (R : CR kx ky bx by_ h0 st.h a b i d j e X Y) {h' : AH} (hx : AH.get h' kx = AH.get st.h kx) (hy : AH.get h' ky = AH.get st.h ky) : CR kx ky bx by_ h' h' a b i d j e X Y :=
  ⟨R.ne, R.lx, R.ly, hx.trans R.gx, hy.trans R.gy, fun _ _ _ _ => rfl, R.cx, R.cy⟩
/-- so many signs are done -/
theorem CR.done {p : Part} {l : List Part} {n : Nat} (R : CR kx ky bx by_ h0 st.h a b i d j e (p :: l) Y) (hn : n ≤ psz p) : CR kx ky bx by_ ((kx, .vars bx 304 [.ro (a.map Part.row), .v (.int .i64 i), .v (.int .i64 ((d + n : Nat) : Int))]) :: st.h) ((kx, .vars bx 304 [.ro (a.map Part.row), .v (.int .i64 i), .v (.int .i64 ((d + n : Nat) : Int))]) :: st.h) a b i (d + n) j e (pleft p n :: l) Y :=
  ⟨R.ne, R.lx, R.ly, by simp, by rw [get_cons, if_neg R.ne.symm]; exact R.gy, fun _ _ _ _ => rfl, R.cx.add hn, R.cy⟩
end
end Go.Proofs.YtdfdabjdfmamgaaGreat

namespace Go.Proofs.YtdfdabjdfmamgaaGreat
open Go.AM
set_option maxRecDepth 20000


theorem specFlush_callC {w0 : World} {bF bG : Nat → Prop} {bl : Bool} {st : ASt} {dst : Option Nat} {K : ASt → Prop} {L : List Part} {P : List Int} {D : Int} {b : Nat} {Hl Hp : Hd} (hL : L.length ≤ 2 ^ 20) (_hP : P.length ≤ 2 ^ 40)
    (g160 : st.h.get 576 = .vars b 307 [.sl 5000 Hl 3 0 L.length, .sl 5001 Hp 1 0 P.length, .v (.int .i64 D)])
    (g5000 : st.h.get 5000 = .rows Hl 3 (L.map Part.row) true) (g5001 : st.h.get 5001 = .rows Hp 1 (P.map intR) true)
    (hK : ∀ Hl' h', AH.get h' 576 = .vars b 307 [.sl 5000 Hl' 3 0 (nbFlush L P D).length, .nil, .v (.int .i64 0)] → AH.get h' 5000 = .rows Hl' 3 ((nbFlush L P D).map Part.row) true →
      (∀ q, q < 15000 → q ≠ 576 → q ≠ 5000 → q ≠ 5001 → AH.get h' q = st.h.get q) → aPut ⟨st.n, st.kb, st.t, h'⟩ dst (.tup []) K) : ACall ⟨Tryz.prog, tt, w0, ⟨bF, bG, bl, fun _ => True⟩⟩ 334 [.p 576 b 0] st dst K := by
  refine ACall.inline tt_ok Tryz.func334 (by kernel_rfl) rfl rfl rfl (Nat.le_of_ble_eq_true rfl) 20000 (fun w1 F => ?_)
  simp [g160]
  by_cases hp : P = []
  · have hp0 : ¬ 0 < P.length := by simp [hp]
    simp [hp0, g160]
    by_cases hd : 0 < D
    · simp [hd]
      refine DrawT.introP eok mix [0, 1, 2, 3, 4, 5, 6, 7, 8, 9, 12, 13] [10, 11, 14] [([false, false, true, false, false, false, false, false, false, false, false, false], [true, true, false, true, true, true, true, true, true, true, true, true]), ([false, false, false, false, false, false, false, true, false, false, false, false], [true, true, false, true, true, true, true, false, true, true, true, true]), ([true, false, false, true, true, true, true, false, true, true, true, true], [false, true, false, false, false, false, false, false, false, false, false, false])] [false, true, false, false, false, false, false, false, false, false, false, false] (by kernel_rfl) ?_
      simp [g160, g5000]
      intro b1
      refine ⟨by omega, fun H => hK H _ ?_ ?_ ?_⟩
      · simp [flush3 hp hd]
      · simp [flush3 hp hd, Part.row]
      · intro q q0 q1 q2 q3
        repeat (first | exact rfl | refine (get_miss (by omega)).trans ?_)
    · simp [hd, g160]
      refine hK Hl _ ?_ ?_ ?_
      · simp [flush4 hp hd]
      · simp [flush4 hp hd, g5000]
      · intro q q0 q1 q2 q3
        repeat (first | exact rfl | refine (get_miss (by omega)).trans ?_)
  · have hp0 : 0 < P.length := List.length_pos_iff.2 hp
    simp [hp0]
    refine DrawT.introP eok mix [0, 1, 2, 3, 4, 5, 6, 7, 8, 9, 12, 13] [10, 11, 14] [([false, false, true, false, false, false, false, false, false, false, false, false], [true, true, false, true, true, true, true, true, true, true, true, true]), ([false, false, false, false, false, false, false, true, false, false, false, false], [true, true, false, true, true, true, true, false, true, true, true, true]), ([true, false, false, true, true, true, true, false, true, true, true, true], [false, true, false, false, false, false, false, false, false, false, false, false])] [false, true, false, false, false, false, false, false, false, false, false, false] (by kernel_rfl) ?_
    simp [g160, g5000, g5001]
    intro b1
    refine ⟨by omega, fun H => ?_⟩
    by_cases hd : 0 < D
    · simp [hd]
      refine DrawT.introP eok mix [0, 1, 2, 3, 4, 5, 6, 7, 8, 9, 12, 13] [10, 11, 14] [([false, false, true, false, false, false, false, false, false, false, false, false], [true, true, false, true, true, true, true, true, true, true, true, true]), ([false, false, false, false, false, false, false, true, false, false, false, false], [true, true, false, true, true, true, true, false, true, true, true, true]), ([true, false, false, true, true, true, true, false, true, true, true, true], [false, true, false, false, false, false, false, false, false, false, false, false])] [false, true, false, false, false, false, false, false, false, false, false, false] (by kernel_rfl) ?_
      simp
      intro b2
      refine ⟨by omega, fun H2 => hK H2 _ ?_ ?_ ?_⟩
      · simp [flush1 hp hd]
      · simp [flush1 hp hd, Part.row]
      · intro q q0 q1 q2 q3
        repeat (first | exact rfl | refine (get_miss (by omega)).trans ?_)
    · simp [hd]
      refine hK H _ ?_ ?_ ?_
      · simp [flush2 hp hd]
      · simp [flush2 hp hd, Part.row]
      · intro q q0 q1 q2 q3
        repeat (first | exact rfl | refine (get_miss (by omega)).trans ?_)

theorem specKeep_callC {w0 : World} {bF bG : Nat → Prop} {bl : Bool} {st : ASt} {dst : Option Nat} {K : ASt → Prop} {L : List Part} {P : List Int} {D n : Int} {b : Nat} {Hl Hp : Hd} (hL : L.length ≤ 2 ^ 19) (hP : P.length ≤ 2 ^ 40) (hn0 : 0 < n) (hn : n ≤ 200) (hF : ∀ q ∈ nbFlush L P D, 0 ≤ q.n ∧ q.n ≤ 2 ^ 40)
    (g160 : st.h.get 576 = .vars b 307 [.sl 5000 Hl 3 0 L.length, .sl 5001 Hp 1 0 P.length, .v (.int .i64 D)])
    (g5000 : st.h.get 5000 = .rows Hl 3 (L.map Part.row) true) (g5001 : st.h.get 5001 = .rows Hp 1 (P.map intR) true)
    (hK : ∀ Hl' h', AH.get h' 576 = .vars b 307 [.sl 5000 Hl' 3 0 (nbKeep (nbFlush L P D) n).length, .nil, .v (.int .i64 0)] → AH.get h' 5000 = .rows Hl' 3 ((nbKeep (nbFlush L P D) n).map Part.row) true →
      (∀ q, q < 15000 → q ≠ 576 → q ≠ 5000 → q ≠ 5001 → AH.get h' q = st.h.get q) → aPut ⟨st.n, st.kb, st.t, h'⟩ dst (.tup []) K) : ACall ⟨Tryz.prog, tt, w0, ⟨bF, bG, bl, fun _ => True⟩⟩ 301 [.p 576 b 0, .v (.int .i64 n)] st dst K := by
  refine ACall.inline tt_ok Tryz.func301 (by kernel_rfl) rfl rfl rfl (Nat.le_of_ble_eq_true rfl) 30000 (fun w1 F => ?_)
  have n0 : ¬ n = 0 := by omega
  simp [n0]
  refine specFlush_callC (L := L) (P := P) (D := D) (Hl := Hl) (Hp := Hp) (by omega) hP (by simp [g160]) (by simp [g5000]) (by simp [g5001]) (fun Hl' h' k160 k5000 k80 => ?_)
  have f1 := nbFlush_len L P D
  generalize nbFlush L P D = F at f1 hF k160 k5000 hK
  by_cases hF0 : 0 < F.length
  · obtain ⟨m, hm⟩ : ∃ m, F.length = m + 1 := ⟨F.length - 1, by omega⟩
    have hmlt : m < F.length := by omega
    have hmm : (m : Int) < m + 1 := by omega
    have em : Go.IntKind.i64.wrap (m : Int) = m := i64_nat (by omega)
    have hk : nbKeep F n = if F[m].kind = 1 then F.set m ⟨1, F[m].n + n, F[m].signs⟩ else F ++ [⟨1, n, []⟩] := by
      have e0 : F.length - 1 = m := by omega
      simp [nbKeep, hF0, e0]
    have hq := hF _ (List.getElem_mem hmlt)
    have em2 : Go.IntKind.i64.wrap (F[m].n + n) = F[m].n + n := Go.IntWalk.i64_in _ (by omega)
    simp [k160, k5000, hm, em, hmm, Part.row]
    by_cases ck : F[m].kind = 1
    · rw [if_pos ck] at hk
      simp [ck]
      refine DrawT.introP eok mix [0, 1, 2, 3, 4, 5, 6, 7, 8, 9, 10, 11, 12, 13, 14, 15, 16, 17, 18] [19] [([true, false, true, true, true, true, true, true, true, true, true, true, true, true, true, true, true, true, true], [false, true, false, false, false, false, false, false, false, false, false, false, false, false, false, false, false, false, false])] [false, true, false, false, false, false, false, false, false, false, false, false, false, false, false, false, false, false, false] (by kernel_rfl) ?_
      simp [k160, k5000, hm, em, hmm, Part.row, ck, em2]
      have hmod := modify_row (F := F) (m := m) hmlt (g := fun row => putL row 1 [CD.v (Value.int IntKind.i64 (F[m].n + n))]) (p := ⟨1, F[m].n + n, F[m].signs⟩) (by simp [Part.row, ck])
      refine hK Hl' _ ?_ ?_ ?_
      · simp [k160, hk, hm]
      · simp [hk, hmod]
      · intro q q0 q1 q2 q3
        repeat (first | exact k80 q q0 q1 q2 q3 | exact rfl | refine (get_miss (by omega)).trans ?_)
    · rw [if_neg ck] at hk
      simp [ck, k160, k5000, hm]
      intro b1
      refine ⟨by omega, fun H => hK H _ ?_ ?_ ?_⟩
      · simp [hk, hm]
      · simp [hk, Part.row]
      · intro q q0 q1 q2 q3
        repeat (first | exact k80 q q0 q1 q2 q3 | exact rfl | refine (get_miss (by omega)).trans ?_)
  · have hF1 : F = [] := List.eq_nil_of_length_eq_zero (by omega)
    subst hF1
    have hk : nbKeep [] n = [⟨1, n, []⟩] := by simp [nbKeep]
    simp [k160, k5000]
    intro b1 H
    refine hK H _ ?_ ?_ ?_
    · simp [hk]
    · simp [hk, Part.row]
    · intro q q0 q1 q2 q3
      repeat (first | exact k80 q q0 q1 q2 q3 | exact rfl | refine (get_miss (by omega)).trans ?_)

theorem specPut_callC {w0 : World} {bF bG : Nat → Prop} {bl : Bool} {st : ASt} {dst : Option Nat} {K : ASt → Prop} {L : List Part} {P l : List Int} {D : Int} {b : Nat} {Hl Hp : Hd} (hP : P.length ≤ 2 ^ 40) (hl : l.length ≤ 2 ^ 40)
    (g160 : st.h.get 576 = .vars b 307 [.sl 5000 Hl 3 0 L.length, .sl 5001 Hp 1 0 P.length, .v (.int .i64 D)]) (g5001 : st.h.get 5001 = .rows Hp 1 (P.map intR) true)
    (hK : ∀ Hp' h', AH.get h' 576 = .vars b 307 [.sl 5000 Hl 3 0 L.length, .sl 5001 Hp' 1 0 (P ++ l).length, .v (.int .i64 D)] → AH.get h' 5001 = .rows Hp' 1 ((P ++ l).map intR) true → AH.get h' 5000 = st.h.get 5000 →
      (∀ q, q < 15000 → q ≠ 576 → q ≠ 5000 → q ≠ 5001 → AH.get h' q = st.h.get q) → aPut ⟨st.n, st.kb, st.t, h'⟩ dst (.tup []) K) : ACall ⟨Tryz.prog, tt, w0, ⟨bF, bG, bl, fun _ => True⟩⟩ 298 [.p 576 b 0, .ro (l.map intR)] st dst K := by
  refine ACall.inline tt_ok Tryz.func298 (by kernel_rfl) rfl rfl rfl (Nat.le_of_ble_eq_true rfl) 30000 (fun w1 F => ?_)
  simp [g160, g5001]
  refine ⟨by omega, fun H => hK H _ ?_ ?_ ?_ ?_⟩
  · simp
  · simp
  · simp
  · intro q q0 q1 q2 q3
    repeat (first | exact rfl | refine (get_miss (by omega)).trans ?_)

theorem specDrop_callC {w0 : World} {bF bG : Nat → Prop} {bl : Bool} {st : ASt} {dst : Option Nat} {K : ASt → Prop} {n D : Int} {b : Nat} {x y : AV} (h0 : 0 ≤ D ∧ D ≤ 2 ^ 40) (h1 : 0 ≤ n ∧ n ≤ 2 ^ 40)
    (g160 : st.h.get 576 = .vars b 307 [x, y, .v (.int .i64 D)])
    (hK : ∀ h', AH.get h' 576 = .vars b 307 [x, y, .v (.int .i64 (D + n))] → (∀ q, q ≠ 576 → AH.get h' q = st.h.get q) → aPut ⟨st.n, st.kb, st.t, h'⟩ dst (.tup []) K) : ACall ⟨Tryz.prog, tt, w0, ⟨bF, bG, bl, fun _ => True⟩⟩ 297 [.p 576 b 0, .v (.int .i64 n)] st dst K := by
  refine ACall.inline tt_ok Tryz.func297 (by kernel_rfl) rfl rfl rfl (Nat.le_of_ble_eq_true rfl) 30000 (fun w1 F => ?_)
  have e : Go.IntKind.i64.wrap (D + n) = D + n := Go.IntWalk.i64_in _ (by omega)
  simp [g160, e]
  refine hK _ (by simp) (fun q hq => by simp [hq])


end Go.Proofs.YtdfdabjdfmamgaaGreat

namespace Go.Proofs.YtdfdabjdfmamgaaGreat
open Go.AM
set_option maxRecDepth 20000
set_option maxHeartbeats 1600000
theorem nbRun_snoc (L : List Part) (p : Part) : nbRun (L ++ [p]) = nbStep (nbRun L) p := by simp [nbRun, List.foldl_append]
theorem nbRun_all {L : List Part} (h : ∀ p ∈ L, partOk p) : NbOk L.length (nbRun L) := by
  have := nbRun_ok h L.length (Nat.le_refl _)
  rwa [List.take_length] at this
theorem specCompose_i (a b : List Part) (ha : nL nPart a ≤ 2 ^ 40) (hb : nL nPart b ≤ 2 ^ 40) : PureC Tryz.prog 231 [.c (.s (a.map Part.row)), .c (.s (b.map Part.row))] (.tup [.c (.s ((fCompose a b).1.map Part.row)) 3, .c (.v (.bool (fCompose a b).2)) 1]) := by
  refine PureC.intro' tt_ok Tryz.func231 (by kernel_rfl) rfl rfl rfl (Nat.le_of_ble_eq_true rfl) (fun w0 base => ?_)
  simp
  refine ACall.pure (specOpOk_c a ha) (by simp) ?_
  by_cases c1 : opOk a
  rotate_left
  · have e := fCompose_no (a := a) (b := b) (fun h => c1 h.1)
    have e2 : dc (opOk a) = false := by rw [dc_no]; exact c1
    simp [e2, e]
  simp [c1]
  refine ACall.pure (specOpOk_c b hb) (by simp) ?_
  by_cases c2 : opOk b
  rotate_left
  · have e := fCompose_no (a := a) (b := b) (fun h => c2 h.2.1)
    have e2 : dc (opOk b) = false := by rw [dc_no]; exact c2
    simp [e2, e]
  simp [c2]
  refine ACall.pure (specOpTo_c a ha) (by simp) ?_
  simp
  refine ACall.pure (specOpFrom_c b hb) (by simp) ?_
  by_cases c3 : opTo a = opFrom b
  rotate_left
  · have e := fCompose_no (a := a) (b := b) (fun h => c3 h.2.2)
    simp [c3, e]
  have hf := fCompose_yes c1 c2 c3
  simp [c3]
  intro bx by_ bz
  have t1 := tsz_ok c1
  have t2 := tsz_ok c2
  have la := c1.1.2
  have lb := c2.1.2
  have z0 : ∀ o : List Part, cur o 0 0 = o := fun o => by rw [cur_zero, List.drop_zero]
  refine LoopT.introG eok (fun x : Nat × Nat × Nat × Nat × List Part × Hd × Hd => Cu a x.1 x.2.1 (cur a x.1 x.2.1) ∧ Cu b x.2.2.1 x.2.2.2.1 (cur b x.2.2.1 x.2.2.2.1) ∧ CInv (cur a x.1 x.2.1) (cur b x.2.2.1 x.2.2.2.1) ∧ x.2.2.2.2.1 ++ cmp (cur a x.1 x.2.1) (cur b x.2.2.1 x.2.2.2.1) = cmp a b ∧ (∀ p ∈ x.2.2.2.2.1, partOk p) ∧ x.2.2.2.2.1.length + (tsz (cur a x.1 x.2.1) + tsz (cur b x.2.2.1 x.2.2.2.1)) ≤ 800)
    (fun x => ⟨144, 0, [(6, .p 496 bx 0), (7, .p 544 by_ 0), (8, .p 576 bz 0)],
    [(496, .vars bx 304 [.ro (a.map Part.row), .v (.int .i64 x.1), .v (.int .i64 x.2.1)]), (544, .vars by_ 304 [.ro (b.map Part.row), .v (.int .i64 x.2.2.1), .v (.int .i64 x.2.2.2.1)]),
     (576, .vars bz 307 [.sl 5000 x.2.2.2.2.2.1 3 0 (nbRun x.2.2.2.2.1).1.length, .sl 5001 x.2.2.2.2.2.2 1 0 (nbRun x.2.2.2.2.1).2.1.length, .v (.int .i64 (nbRun x.2.2.2.2.1).2.2)]),
     (5000, .rows x.2.2.2.2.2.1 3 ((nbRun x.2.2.2.2.1).1.map Part.row) true), (5001, .rows x.2.2.2.2.2.2 1 ((nbRun x.2.2.2.2.1).2.1.map intR) true)]⟩) (fun x => tsz (cur a x.1 x.2.1) + tsz (cur b x.2.2.1 x.2.2.2.1)) (0, 0, 0, 0, [], none, none)
    ⟨⟨c1.1.1, Nat.zero_le _, fun _ => Nat.zero_le _, fun _ => rfl, rfl⟩, ⟨c2.1.1, Nat.zero_le _, fun _ => Nat.zero_le _, fun _ => rfl, rfl⟩, by simp only [z0]; exact cinv_of c1 c2 c3, by simp [z0], by simp, by simp [z0]; omega⟩ (by simp [nbRun]) (fun x hx => Ent.refl ?_)
  obtain ⟨i, d, j, e, L, H, G⟩ := x
  obtain ⟨cx, cy, hi, hcmp, hL, hlen⟩ := hx
  simp only at cx cy hi hcmp hL hlen ⊢
  have hB := nbRun_all hL
  obtain ⟨B, hBe⟩ : ∃ B, nbRun L = B := ⟨_, rfl⟩
  obtain ⟨BL, BP, BD⟩ := B
  rw [hBe] at hB
  obtain ⟨k1, k2, k3, k4, k5⟩ := hB
  simp only [hBe]
  simp only at k1 k2 k3 k4 k5
  obtain ⟨X, hX⟩ : ∃ X, cur a i d = X := ⟨_, rfl⟩
  obtain ⟨Y, hY⟩ : ∃ Y, cur b j e = Y := ⟨_, rfl⟩
  rw [hX] at cx hi hcmp hlen
  rw [hY] at cy hi hcmp hlen
  obtain ⟨h0, hh0⟩ : ∃ h0 : AH, [(496, .vars bx 304 [.ro (a.map Part.row), .v (.int .i64 i), .v (.int .i64 d)]), (544, .vars by_ 304 [.ro (b.map Part.row), .v (.int .i64 j), .v (.int .i64 e)]),
     (576, .vars bz 307 [.sl 5000 H 3 0 BL.length, .sl 5001 G 1 0 BP.length, .v (.int .i64 BD)]),
     (5000, .rows H 3 (BL.map Part.row) true), (5001, .rows G 1 (BP.map intR) true)] = h0 := ⟨_, rfl⟩
  have R : CR 496 544 bx by_ h0 h0 a b i d j e X Y := ⟨by decide, by decide, by decide, by rw [← hh0]; simp, by rw [← hh0]; simp, fun _ _ _ _ => rfl, cx, cy⟩
  have g5 : AH.get h0 5000 = .rows H 3 (BL.map Part.row) true := by rw [← hh0]; simp
  have g6 : AH.get h0 5001 = .rows G 1 (BP.map intR) true := by rw [← hh0]; simp
  have g7 : AH.get h0 576 = .vars bz 307 [.sl 5000 H 3 0 BL.length, .sl 5001 G 1 0 BP.length, .v (.int .i64 BD)] := by rw [← hh0]; simp
  rw [hh0]
  clear hh0
  simp
  have fin : ∀ {i' d' j' e' : Nat} {r : List Part × List Part × List Part}, Cu a i' d' r.2.1 → Cu b j' e' r.2.2 → cstep X Y = some r →
      (Cu a i' d' (cur a i' d') ∧ Cu b j' e' (cur b j' e') ∧ CInv (cur a i' d') (cur b j' e') ∧ (L ++ r.1) ++ cmp (cur a i' d') (cur b j' e') = cmp a b ∧ (∀ p ∈ L ++ r.1, partOk p) ∧ (L ++ r.1).length + (tsz (cur a i' d') + tsz (cur b j' e')) ≤ 800) ∧ tsz (cur a i' d') + tsz (cur b j' e') < tsz (cur a i d) + tsz (cur b j e) := by
    intro i' d' j' e' r hu hv hs
    have hn := cstep_next hi hs
    have hcm := cmp_some hi hs
    have hdec := hn.dec
    have hln := hn.len
    rw [hu.c, hv.c, hX, hY]
    refine ⟨⟨hu, hv, hn.inv, by rw [List.append_assoc, ← hcm, hcmp], ?_, ?_⟩, hdec⟩
    · intro p hp
      rcases List.mem_append.1 hp with hp | hp
      · exact hL p hp
      · exact hn.ok p hp
    · rw [List.length_append]; omega
  refine R.kind (by omega) (fun h1 i1 d1 R => ?_)
  have okx : ∀ p ∈ nxt X, partOk p := fun p hp => hi.px p (nxt_mem hp)
  have oky : ∀ p ∈ nxt Y, partOk p := fun p hp => hi.py p (nxt_mem hp)
  have hxt := nxt_tos X
  have hyf := nxt_frs Y
  have hbal := hi.b
  cases ex : nxt X with
  | nil =>
    rw [ex] at R
    simp [hdK]
    refine R.swap.kind (by omega) (fun h2 j1 e1 R => ?_)
    have R := R.swap
    cases ey : nxt Y with
    | nil =>
      have hc : cmp X Y = [] := cmp_none (by simp [cstep, ex, ey])
      simp [hdK]
      rw [hc, List.append_nil] at hcmp
      have e5 := R.o 5000 (by decide) (by decide) (by decide)
      have e6 := R.o 5001 (by decide) (by decide) (by decide)
      have e7 := R.o 576 (by decide) (by decide) (by decide)
      refine ACall.inline tt_ok Tryz.func302 (by kernel_rfl) rfl rfl rfl (Nat.le_of_ble_eq_true rfl) 30000 (fun w1 F => ?_)
      simp
      refine specFlush_callC (L := BL) (P := BP) (D := BD) (Hl := H) (Hp := G) (by omega) (by omega) (by simp [e7, g7]) (by simp [e5, g5]) (by simp [e6, g6]) (fun Hl' h' k576 k5000 ko => ?_)
      have hnorm : nbFlush BL BP BD = normal (cmp a b) := by rw [← hcmp]; unfold normal; rw [hBe]
      rw [hnorm] at k576 k5000
      simp [k576]
      refine ACall.pure (specOpOk_c (normal (cmp a b)) (by rw [← hcmp]; have := nL_normal hL; omega)) (by simp [k5000]) ?_
      by_cases c4 : opOk (normal (cmp a b))
      · have e := hf.1 c4
        simp [c4, e, k5000]
      · have e := hf.2 c4
        have e2 : dc (opOk (normal (cmp a b))) = false := by rw [dc_no]; exact c4
        simp [e2, e]
    | cons q y' =>
      rw [ey] at R
      have hq := (mem_nxt hi.py ey).1
      have hqb := hq.bounds
      have q0 : ¬ q.kind = 0 := by omega
      simp [hdK, q0]
      refine R.kind (by omega) (fun h3 i2 d2 R => ?_)
      simp only [nxt] at R
      simp [nxt, hdK]
      refine R.swap.kind (by omega) (fun h4 j2 e2 R => ?_)
      have R := R.swap
      rw [← ey, nxt_nxt, ey] at R
      rw [← ey, nxt_nxt, ey]
      by_cases q2 : q.kind = 2
      · simp [hdK, q2]
        refine R.swap.left ?_
        simp
        refine R.swap.take q2 (Nat.le_refl _) (fun h5 R => ?_)
        have R := R.swap
        have e5 := R.o 5000 (by decide) (by decide) (by decide)
        have e6 := R.o 5001 (by decide) (by decide) (by decide)
        have e7 := R.o 576 (by decide) (by decide) (by decide)
        simp
        have hc : cstep X Y = some ([pcut q (psz q)], [], pleft q (psz q) :: y') := by simp [cstep, ex, ey, q2]
        have hf := fin R.cx R.cy hc
        rw [pcut_whole hq] at hf
        have hpsz : psz q = q.signs.length := by have := hqb.2.2.2.2.1 q2; unfold psz; omega
        have htk : q.signs.take (psz q) = q.signs := List.take_of_length_le (by omega)
        rw [← List.map_take, htk]
        refine specPut_callC (L := BL) (P := BP) (D := BD) (Hl := H) (Hp := G) (by omega) (by omega) (by simp [e7, g7]) (by simp [e6, g6]) (fun Hp' h' k576 k5001 k5000 ko => ?_)
        have R := R.rebase (h' := h') (ko 496 (by decide) (by decide) (by decide) (by decide)) (ko 544 (by decide) (by decide) (by decide) (by decide))
        simp
        refine Ent.refl ⟨_, _, _, _, _, hf.1, hf.2, H, Hp', ?_⟩
        rw [nbRun_snoc, hBe]
        simp [nbStep, q2, R.gx, R.gy, k576, k5001, k5000, e5, g5]
      · exfalso
        have := nxt_pos ey
        rw [ex] at hxt
        rw [ey] at hyf
        simp [tos, frs, q2] at hxt hyf
        omega
  | cons p x' =>
    rw [ex] at R
    have hp := (mem_nxt hi.px ex).1
    have hpb := hp.bounds
    have hps := psz_int hp
    have p0 : ¬ p.kind = 0 := by omega
    simp [hdK, p0]
    refine R.kind (by omega) (fun h3 i2 d2 R => ?_)
    rw [← ex, nxt_nxt, ex] at R
    rw [← ex, nxt_nxt, ex]
    by_cases p3 : p.kind = 3
    · simp [hdK, p3]
      refine R.left ?_
      simp
      have e5 := R.o 5000 (by decide) (by decide) (by decide)
      have e6 := R.o 5001 (by decide) (by decide) (by decide)
      have e7 := R.o 576 (by decide) (by decide) (by decide)
      refine specDrop_callC (n := (psz p : Int)) (D := BD) (by omega) (by omega) (e7.trans g7) (fun h' k576 ko => ?_)
      have R := R.rebase (h' := h') (ko 496 (by decide)) (ko 544 (by decide))
      have hc : cstep X Y = some ([pcut p (psz p)], pleft p (psz p) :: x', Y) := by simp [cstep, ex, p3]
      have hd := R.done (st := ⟨144, 0, [], h'⟩) (Nat.le_refl (psz p))
      obtain ⟨m, hm⟩ : ∃ m, d2 + psz p = m := ⟨_, rfl⟩
      have ew : Go.IntKind.i64.wrap ((d2 : Int) + (psz p : Int)) = (m : Int) := by rw [Go.IntWalk.i64_in _ (by have := R.cx.bnd; omega)]; omega
      rw [hm] at hd
      have hf := fin hd.cx hd.cy hc
      rw [pcut_whole hp] at hf
      have h5 := ko 5000 (by decide)
      have h6 := ko 5001 (by decide)
      simp [R.gx, ew]
      refine Ent.refl ⟨_, _, _, _, _, hf.1, hf.2, H, G, ?_⟩
      rw [nbRun_snoc, hBe]
      have hpn : (psz p : Int) = p.n := by have := hpb.2.2.2.2.2 (by omega); rw [hps.1, this]; simp
      simp [nbStep, p3, R.gy, k576, h5, h6, e5, g5, e6, g6, hpn]
    · simp [hdK, p3]
      refine R.swap.kind (by omega) (fun h4 j2 e2 R => ?_)
      have R := R.swap
      cases ey : nxt Y with
      | nil =>
        exfalso
        have := nxt_pos ex
        rw [ex] at hxt
        rw [ey] at hyf
        simp [tos, frs, p3] at hxt hyf
        omega
      | cons q y' =>
        rw [ey] at R
        have hq := (mem_nxt hi.py ey).1
        have hqb := hq.bounds
        have hqs := psz_int hq
        by_cases q2 : q.kind = 2
        · simp [hdK, q2]
          refine R.swap.left ?_
          simp
          refine R.swap.take q2 (Nat.le_refl _) (fun h5 R => ?_)
          have R := R.swap
          have e5 := R.o 5000 (by decide) (by decide) (by decide)
          have e6 := R.o 5001 (by decide) (by decide) (by decide)
          have e7 := R.o 576 (by decide) (by decide) (by decide)
          simp
          have hc : cstep X Y = some ([pcut q (psz q)], p :: x', pleft q (psz q) :: y') := by simp [cstep, ex, ey, q2, p3]
          have hf := fin R.cx R.cy hc
          rw [pcut_whole hq] at hf
          have hpsz : psz q = q.signs.length := by have := hqb.2.2.2.2.1 q2; unfold psz; omega
          have htk : q.signs.take (psz q) = q.signs := List.take_of_length_le (by omega)
          rw [← List.map_take, htk]
          refine specPut_callC (L := BL) (P := BP) (D := BD) (Hl := H) (Hp := G) (by omega) (by omega) (by simp [e7, g7]) (by simp [e6, g6]) (fun Hp' h' k576 k5001 k5000 ko => ?_)
          have R := R.rebase (h' := h') (ko 496 (by decide) (by decide) (by decide) (by decide)) (ko 544 (by decide) (by decide) (by decide) (by decide))
          simp
          refine Ent.refl ⟨_, _, _, _, _, hf.1, hf.2, H, Hp', ?_⟩
          rw [nbRun_snoc, hBe]
          simp [nbStep, q2, R.gx, R.gy, k576, k5001, k5000, e5, g5]
        · simp [hdK, q2]
          refine R.left ?_
          simp
          refine R.swap.left ?_
          simp
          refine ACall.pure (l04Min_c (psz p) (psz q)) (by simp) ?_
          have pp := nxt_pos ex
          have qp := nxt_pos ey
          obtain ⟨n, hn⟩ : ∃ n, min (psz p) (psz q) = n := ⟨_, rfl⟩
          rw [hn]
          simp
          refine R.kind (by omega) (fun h5 i3 d3 R => ?_)
          rw [← ex, nxt_nxt, ex] at R
          rw [← ex, nxt_nxt, ex]
          simp [hdK]
          refine R.swap.kind (by omega) (fun h6 j3 e3 R => ?_)
          have R := R.swap
          rw [← ey, nxt_nxt, ey] at R
          rw [← ey, nxt_nxt, ey]
          simp [hdK]
          have hc : cstep X Y = some (if q.kind = 1 then [pcut p n] else if p.kind = 1 then [pcut q n] else [], pleft p n :: x', pleft q n :: y') := by simp [cstep, ex, ey, p3, q2, hn]
          obtain ⟨mx, hmx⟩ : ∃ m, d3 + n = m := ⟨_, rfl⟩
          obtain ⟨my, hmy⟩ : ∃ m, e3 + n = m := ⟨_, rfl⟩
          have ewx : Go.IntKind.i64.wrap ((d3 : Int) + (n : Int)) = (mx : Int) := by rw [Go.IntWalk.i64_in _ (by have := R.cx.bnd; omega)]; omega
          have ewy : Go.IntKind.i64.wrap ((e3 : Int) + (n : Int)) = (my : Int) := by rw [Go.IntWalk.i64_in _ (by have := R.cy.bnd; omega)]; omega
          have cxx := R.cx.add (n := n) (by omega)
          have cyy := R.cy.add (n := n) (by omega)
          rw [hmx] at cxx
          rw [hmy] at cyy
          have hf := fin cxx cyy hc
          have e5 := R.o 5000 (by decide) (by decide) (by decide)
          have e6 := R.o 5001 (by decide) (by decide) (by decide)
          have e7 := R.o 576 (by decide) (by decide) (by decide)
          have gx := R.gx
          have gy := R.gy
          by_cases p2 : p.kind = 2
          · by_cases q1 : q.kind = 1
            · simp only [q1, if_true] at hf
              simp [p2, q1]
              refine R.take p2 (n := n) (by omega) (fun h7 R => ?_)
              rw [hmx] at R
              have e5 := R.o 5000 (by decide) (by decide) (by decide)
              have e6 := R.o 5001 (by decide) (by decide) (by decide)
              have e7 := R.o 576 (by decide) (by decide) (by decide)
              simp
              rw [← List.map_take]
              refine specPut_callC (L := BL) (P := BP) (D := BD) (Hl := H) (Hp := G) (by omega) (by simp; omega) (by simp [e7, g7]) (by simp [e6, g6]) (fun Hp' h' k576 k5001 k5000 ko => ?_)
              have R := R.rebase (h' := h') (ko 496 (by decide) (by decide) (by decide) (by decide)) (ko 544 (by decide) (by decide) (by decide) (by decide))
              simp [R.gy, ewy]
              refine Ent.refl ⟨_, _, _, _, _, hf.1, hf.2, H, Hp', ?_⟩
              rw [nbRun_snoc, hBe]
              have hpk : (pcut p n).signs = p.signs.take n := by simp [pcut, p2]
              simp [nbStep, p2, hpk, R.gx, k576, k5001, k5000, e5, g5, List.map_take]
            · have p1 : ¬ p.kind = 1 := by omega
              simp only [q1, p1, if_false] at hf
              simp [p2, q1, gx, gy, ewx, ewy]
              refine Ent.refl ⟨_, _, _, _, _, hf.1, hf.2, H, G, ?_⟩
              simp [hBe, e5, e6, e7, g5, g6, g7]
          · have p1 : p.kind = 1 := by omega
            by_cases q1 : q.kind = 1
            · simp only [q1, if_true] at hf
              simp [p2, q1]
              have f2 := nbFlush_q (P := BP) k3 k4 k5
              have hpk : (pcut p n).n = n := by simp [pcut, p2]
              refine specKeep_callC (n := (n : Int)) (L := BL) (P := BP) (D := BD) (Hl := H) (Hp := G) (by omega) (by omega) (by omega) (by omega) (fun q hq => by have := f2 q hq; omega) (by simp [e7, g7]) (by simp [e5, g5]) (by simp [e6, g6]) (fun Hl' h' k576 k5000 ko => ?_)
              have R := R.rebase (h' := h') (ko 496 (by decide) (by decide) (by decide) (by decide)) (ko 544 (by decide) (by decide) (by decide) (by decide))
              simp [R.gx, R.gy, ewx, ewy]
              refine Ent.kill 5001 (Ent.refl ⟨_, _, _, _, _, hf.1, hf.2, Hl', none, ?_⟩)
              rw [nbRun_snoc, hBe]
              have n0 : 0 < n := by omega
              simp [nbStep, p1, hpk, n0, k576, k5000]
            · simp only [q1, p1, if_true, if_false] at hf
              simp [p2, q1]
              have q3 : q.kind = 3 := by omega
              have hpk : (pcut q n).n = n := by simp [pcut, q2]
              refine specDrop_callC (n := (n : Int)) (D := BD) (by omega) (by omega) (e7.trans g7) (fun h' k576 ko => ?_)
              have R := R.rebase (h' := h') (ko 496 (by decide)) (ko 544 (by decide))
              have h5 := ko 5000 (by decide)
              have h6 := ko 5001 (by decide)
              simp [R.gx, R.gy, ewx, ewy]
              refine Ent.refl ⟨_, _, _, _, _, hf.1, hf.2, H, G, ?_⟩
              rw [nbRun_snoc, hBe]
              simp [nbStep, q3, hpk, k576, h5, h6, e5, g5, e6, g6]
end Go.Proofs.YtdfdabjdfmamgaaGreat

namespace Go.Proofs.YtdfdabjdfmamgaaGreat
open Go.AM
set_option maxRecDepth 20000
def headRev (d : Doc) : Int := Go.IntKind.i64.wrap (d.fr + d.list.length)
def repOk (r : Rep) : Prop := (1 ≤ r.client ∧ r.client ≤ 8) ∧ (0 ≤ r.seq ∧ r.seq ≤ 999999999) ∧ (0 ≤ r.rev ∧ r.rev ≤ 999999999) ∧ textOk r.text ∧ isNorm r.sent ∧ isNorm r.buf ∧ opFrom r.sent = r.text.length ∧ opFrom r.buf = opTo r.sent ∧ (if r.has then r.seq ≠ 0 else idle r.sent)
theorem implRepOk_i (r : Rep) (hl : nRep r ≤ 2 ^ 40) : PureC Tryz.prog 175 [.agg r.row] (.one (.c (vb (repOk r)) 1)) := by
  refine PureC.intro' tt_ok Tryz.func175 (by kernel_rfl) rfl rfl rfl (Nat.le_of_ble_eq_true rfl) (fun w0 base => ?_)
  unfold nRep at hl
  simp [Rep.row]
  intros
  refine ACall.pure (within_c r.client 1 8) (by simp) ?_
  by_cases c1 : 1 ≤ r.client ∧ r.client ≤ 8
  rotate_left
  · have e : dc (1 ≤ r.client ∧ r.client ≤ 8) = false := by rw [dc_no]; exact c1
    have hn : dc (repOk r) = false := by rw [dc_no]; exact fun h => c1 h.1
    simp [e, hn]
  simp [c1]
  refine ACall.pure (within_c r.seq 0 999999999) (by simp) ?_
  by_cases c2 : 0 ≤ r.seq ∧ r.seq ≤ 999999999
  rotate_left
  · have e : dc (0 ≤ r.seq ∧ r.seq ≤ 999999999) = false := by rw [dc_no]; exact c2
    have hn : dc (repOk r) = false := by rw [dc_no]; exact fun h => c2 h.2.1
    simp [e, hn]
  simp [c2]
  refine ACall.pure (within_c r.rev 0 999999999) (by simp) ?_
  by_cases c3 : 0 ≤ r.rev ∧ r.rev ≤ 999999999
  rotate_left
  · have e : dc (0 ≤ r.rev ∧ r.rev ≤ 999999999) = false := by rw [dc_no]; exact c3
    have hn : dc (repOk r) = false := by rw [dc_no]; exact fun h => c3 h.2.2.1
    simp [e, hn]
  simp [c3]
  refine ACall.pure (implTextOk_c r.text (by omega)) (by simp) ?_
  by_cases c4 : textOk r.text
  rotate_left
  · have hn : dc (repOk r) = false := by rw [dc_no]; exact fun h => c4 h.2.2.2.1
    simp [c4, hn]
  simp [c4]
  refine ACall.pure (implIsNorm_c r.sent (by omega)) (by simp) ?_
  by_cases c5 : isNorm r.sent
  rotate_left
  · have hn : dc (repOk r) = false := by rw [dc_no]; exact fun h => c5 h.2.2.2.2.1
    simp [c5, hn]
  simp [c5]
  refine ACall.pure (implIsNorm_c r.buf (by omega)) (by simp) ?_
  by_cases c6 : isNorm r.buf
  rotate_left
  · have hn : dc (repOk r) = false := by rw [dc_no]; exact fun h => c6 h.2.2.2.2.2.1
    simp [c6, hn]
  simp [c6]
  refine DrawT.quiet eok mix (by kernel_rfl) ?_
  simp
  refine ⟨_, _, implOpFrom_c r.sent (by omega), by simp, ?_⟩
  by_cases c7 : opFrom r.sent = r.text.length
  rotate_left
  · have hn : dc (repOk r) = false := by rw [dc_no]; exact fun h => c7 h.2.2.2.2.2.2.1
    simp [c7, hn]
  simp [c7]
  refine ⟨_, _, implOpFrom_c r.buf (by omega), by simp, ?_⟩
  simp
  refine ⟨_, _, implOpTo_c r.sent (by omega), by simp, ?_⟩
  by_cases c8 : opFrom r.buf = opTo r.sent
  rotate_left
  · have hn : dc (repOk r) = false := by rw [dc_no]; exact fun h => c8 h.2.2.2.2.2.2.2.1
    simp [c8, hn]
  simp [c8]
  cases ch : r.has
  · have e : dc (repOk r) = dc (idle r.sent) := dc_congr ⟨fun h => by have := h.2.2.2.2.2.2.2.2; rw [ch] at this; simpa using this, fun h => ⟨c1, c2, c3, c4, c5, c6, c7, c8, by rw [ch]; simpa using h⟩⟩
    simp
    refine ACall.pure (implIdle_c r.sent (by omega)) (by simp) ?_
    simp
    exact e
  · have e : dc (repOk r) = dc (r.seq ≠ 0) := dc_congr ⟨fun h => by have := h.2.2.2.2.2.2.2.2; rw [ch] at this; simpa using this, fun h => ⟨c1, c2, c3, c4, c5, c6, c7, c8, by rw [ch]; simpa using h⟩⟩
    simp [e]
    by_cases h0 : r.seq = 0 <;> simp [h0]
theorem specRepOk_i (r : Rep) (hl : nRep r ≤ 2 ^ 40) : PureC Tryz.prog 170 [.agg r.row] (.one (.c (vb (repOk r)) 1)) := by
  refine PureC.intro' tt_ok Tryz.func170 (by kernel_rfl) rfl rfl rfl (Nat.le_of_ble_eq_true rfl) (fun w0 base => ?_)
  unfold nRep at hl
  simp [Rep.row]
  intros
  refine ACall.pure (l01In_c r.client 1 8) (by simp) ?_
  by_cases c1 : 1 ≤ r.client ∧ r.client ≤ 8
  rotate_left
  · have e : dc (1 ≤ r.client ∧ r.client ≤ 8) = false := by rw [dc_no]; exact c1
    have hn : dc (repOk r) = false := by rw [dc_no]; exact fun h => c1 h.1
    simp [e, hn]
  simp [c1]
  refine ACall.pure (l01In_c r.seq 0 999999999) (by simp) ?_
  by_cases c2 : 0 ≤ r.seq ∧ r.seq ≤ 999999999
  rotate_left
  · have e : dc (0 ≤ r.seq ∧ r.seq ≤ 999999999) = false := by rw [dc_no]; exact c2
    have hn : dc (repOk r) = false := by rw [dc_no]; exact fun h => c2 h.2.1
    simp [e, hn]
  simp [c2]
  refine ACall.pure (l01In_c r.rev 0 999999999) (by simp) ?_
  by_cases c3 : 0 ≤ r.rev ∧ r.rev ≤ 999999999
  rotate_left
  · have e : dc (0 ≤ r.rev ∧ r.rev ≤ 999999999) = false := by rw [dc_no]; exact c3
    have hn : dc (repOk r) = false := by rw [dc_no]; exact fun h => c3 h.2.2.1
    simp [e, hn]
  simp [c3]
  refine ACall.pure (specTextOk_c r.text (by omega)) (by simp) ?_
  by_cases c4 : textOk r.text
  rotate_left
  · have hn : dc (repOk r) = false := by rw [dc_no]; exact fun h => c4 h.2.2.2.1
    simp [c4, hn]
  simp [c4]
  refine ACall.pure (specIsNorm_c r.sent (by omega)) (by simp) ?_
  by_cases c5 : isNorm r.sent
  rotate_left
  · have hn : dc (repOk r) = false := by rw [dc_no]; exact fun h => c5 h.2.2.2.2.1
    simp [c5, hn]
  simp [c5]
  refine ACall.pure (specIsNorm_c r.buf (by omega)) (by simp) ?_
  by_cases c6 : isNorm r.buf
  rotate_left
  · have hn : dc (repOk r) = false := by rw [dc_no]; exact fun h => c6 h.2.2.2.2.2.1
    simp [c6, hn]
  simp [c6]
  refine DrawT.quiet eok mix (by kernel_rfl) ?_
  simp
  refine ⟨_, _, specOpFrom_c r.sent (by omega), by simp, ?_⟩
  by_cases c7 : opFrom r.sent = r.text.length
  rotate_left
  · have hn : dc (repOk r) = false := by rw [dc_no]; exact fun h => c7 h.2.2.2.2.2.2.1
    simp [c7, hn]
  simp [c7]
  refine ⟨_, _, specOpFrom_c r.buf (by omega), by simp, ?_⟩
  simp
  refine ⟨_, _, specOpTo_c r.sent (by omega), by simp, ?_⟩
  by_cases c8 : opFrom r.buf = opTo r.sent
  rotate_left
  · have hn : dc (repOk r) = false := by rw [dc_no]; exact fun h => c8 h.2.2.2.2.2.2.2.1
    simp [c8, hn]
  simp [c8]
  cases ch : r.has
  · have e : dc (repOk r) = dc (idle r.sent) := dc_congr ⟨fun h => by have := h.2.2.2.2.2.2.2.2; rw [ch] at this; simpa using this, fun h => ⟨c1, c2, c3, c4, c5, c6, c7, c8, by rw [ch]; simpa using h⟩⟩
    simp
    refine ACall.pure (specIdle_c r.sent (by omega)) (by simp) ?_
    simp
    exact e
  · have e : dc (repOk r) = dc (r.seq ≠ 0) := dc_congr ⟨fun h => by have := h.2.2.2.2.2.2.2.2; rw [ch] at this; simpa using this, fun h => ⟨c1, c2, c3, c4, c5, c6, c7, c8, by rw [ch]; simpa using h⟩⟩
    simp [e]
    by_cases h0 : r.seq = 0
    · simp [h0]
    · have : 0 < r.seq := by omega
      simp [h0, this]
def repClean (r : Rep) : Prop := repOk r ∧ r.has = false ∧ idle r.buf
theorem implRepClean_i (r : Rep) (hl : nRep r ≤ 2 ^ 40) : PureC Tryz.prog 252 [.agg r.row] (.one (.c (vb (repClean r)) 1)) := by
  refine PureC.intro' tt_ok Tryz.func252 (by kernel_rfl) rfl rfl rfl (Nat.le_of_ble_eq_true rfl) (fun w0 base => ?_)
  simp [Rep.row]
  intros
  refine ACall.pure (implRepOk_i r hl) (by simp [Rep.row]) ?_
  unfold nRep at hl
  by_cases c1 : repOk r
  rotate_left
  · simp [c1, repClean]
  simp [c1]
  cases ch : r.has
  · simp
    refine ACall.pure (implIdle_c r.buf (by omega)) (by simp) ?_
    simp [repClean, c1, ch]
  · simp [ch, repClean]
theorem specRepClean_i (r : Rep) (hl : nRep r ≤ 2 ^ 40) : PureC Tryz.prog 251 [.agg r.row] (.one (.c (vb (repClean r)) 1)) := by
  refine PureC.intro' tt_ok Tryz.func251 (by kernel_rfl) rfl rfl rfl (Nat.le_of_ble_eq_true rfl) (fun w0 base => ?_)
  simp [Rep.row]
  intros
  refine ACall.pure (specRepOk_i r hl) (by simp [Rep.row]) ?_
  unfold nRep at hl
  by_cases c1 : repOk r
  rotate_left
  · simp [c1, repClean]
  simp [c1]
  cases ch : r.has
  · simp
    refine ACall.pure (specIdle_c r.buf (by omega)) (by simp) ?_
    simp [repClean, c1, ch]
  · simp [ch, repClean]
end Go.Proofs.YtdfdabjdfmamgaaGreat

namespace Go.Proofs.YtdfdabjdfmamgaaGreat
open Go.AM
set_option maxRecDepth 20000
theorem copyInts_c (l : List Int) (hl : l.length ≤ 2 ^ 40) : PureC Tryz.prog 226 [.c (.s (l.map intR))] (.one (.c (.s (l.map intR)) 1)) := by
  refine PureC.intro' tt_ok Tryz.func226 (by kernel_rfl) rfl rfl rfl (Nat.le_of_ble_eq_true rfl) (fun w0 base => ?_)
  simp
  omega
def Rep.zero : Rep := ⟨0, 0, 0, [], false, [], []⟩
noncomputable def repNew0 (c s v : Int) (t : List Int) : Rep := ⟨c, s, v, t, false, keeping t.length, keeping t.length⟩
open Classical in
noncomputable def repOr (r : Rep) : Rep × Bool := if repOk r then (r, true) else (Rep.zero, false)
noncomputable def fRepNew (c s v : Int) (t : List Int) : Rep × Bool := repOr (repNew0 c s v t)
theorem keeping_n (n : Int) : nL nPart (keeping n) ≤ 1 := by
  unfold keeping
  split <;> simp [nL, sumN, nPart]
theorem repNew0_n (c s v : Int) (t : List Int) : nRep (repNew0 c s v t) ≤ t.length + 2 := by
  have h := keeping_n t.length
  unfold nRep repNew0
  simp only
  omega
theorem Rep.zero_n : nRep Rep.zero = 0 := rfl
theorem implRepNew_i (a0 a1 a2 : Int) (a3 : List Int) (n3 : a3.length ≤ 2 ^ 20) :
    PureC Tryz.prog 156 [.c (vi a0), .c (vi a1), .c (vi a2), .c (.s (a3.map intR))] (.tup [.agg (fRepNew a0 a1 a2 a3).1.res, .c (.v (.bool (fRepNew a0 a1 a2 a3).2)) 1]) := by
  refine PureC.intro' tt_ok Tryz.func156 (by kernel_rfl) rfl rfl rfl (Nat.le_of_ble_eq_true rfl) (fun w0 base => ?_)
  simp
  intro b8
  refine ACall.pure (copyInts_c a3 (by omega)) (by simp) ?_
  simp
  intro H1
  refine ACall.pure (implKeeping_c a3.length) (by simp) ?_
  simp
  intro H2
  refine ACall.pure (implKeeping_c a3.length) (by simp) ?_
  simp
  intro H3
  refine ACall.inline tt_ok Tryz.func242 (by kernel_rfl) rfl rfl rfl (Nat.le_of_ble_eq_true rfl) 20000 (fun w1 F => ?_)
  simp
  intros
  have hn := repNew0_n a0 a1 a2 a3
  refine ACall.pure (implRepOk_i (repNew0 a0 a1 a2 a3) (by omega)) (by simp [Rep.row, repNew0]) ?_
  by_cases h : repOk (repNew0 a0 a1 a2 a3)
  · have e : fRepNew a0 a1 a2 a3 = (repNew0 a0 a1 a2 a3, true) := by unfold fRepNew repOr; rw [if_pos h]
    simp [h, e, Rep.res]
    simp [repNew0]
  · have e : fRepNew a0 a1 a2 a3 = (Rep.zero, false) := by unfold fRepNew repOr; rw [if_neg h]
    have e2 : dc (repOk (repNew0 a0 a1 a2 a3)) = false := by rw [dc_no]; exact h
    simp [e2, e, Rep.res, Rep.zero]
theorem specRepNew_i (a0 a1 a2 : Int) (a3 : List Int) (n3 : a3.length ≤ 2 ^ 20) :
    PureC Tryz.prog 147 [.c (vi a0), .c (vi a1), .c (vi a2), .c (.s (a3.map intR))] (.tup [.agg (fRepNew a0 a1 a2 a3).1.res, .c (.v (.bool (fRepNew a0 a1 a2 a3).2)) 1]) := by
  refine PureC.intro' tt_ok Tryz.func147 (by kernel_rfl) rfl rfl rfl (Nat.le_of_ble_eq_true rfl) (fun w0 base => ?_)
  simp
  intro b8 b9
  refine ⟨by omega, fun H1 => ?_⟩
  refine ACall.pure (specKeeping_c a3.length) (by simp) ?_
  simp
  intro H2
  refine ACall.pure (specKeeping_c a3.length) (by simp) ?_
  simp
  intro H3
  refine ACall.inline tt_ok Tryz.func232 (by kernel_rfl) rfl rfl rfl (Nat.le_of_ble_eq_true rfl) 20000 (fun w1 F => ?_)
  simp
  intros
  have hn := repNew0_n a0 a1 a2 a3
  refine ACall.pure (specRepOk_i (repNew0 a0 a1 a2 a3) (by omega)) (by simp [Rep.row, repNew0]) ?_
  by_cases h : repOk (repNew0 a0 a1 a2 a3)
  · have e : fRepNew a0 a1 a2 a3 = (repNew0 a0 a1 a2 a3, true) := by unfold fRepNew repOr; rw [if_pos h]
    simp [h, e, Rep.res]
    simp [repNew0]
  · have e : fRepNew a0 a1 a2 a3 = (Rep.zero, false) := by unfold fRepNew repOr; rw [if_neg h]
    have e2 : dc (repOk (repNew0 a0 a1 a2 a3)) = false := by rw [dc_no]; exact h
    simp [e2, e, Rep.res, Rep.zero]
end Go.Proofs.YtdfdabjdfmamgaaGreat

namespace Go.Proofs.YtdfdabjdfmamgaaGreat
open Go.AM
set_option maxRecDepth 20000
theorem take_snoc {α β : Type} {f : α → β} {l : List α} {i : Nat} (h : i < l.length) : List.take i (l.map f) ++ [f l[i]] = List.take (i + 1) (l.map f) := by
  rw [List.take_add_one]; simp [h]
theorem copyOp_c (o : List Part) (hl : nL nPart o ≤ 2 ^ 30) : PureC Tryz.prog 228 [.c (.s (o.map Part.row))] (.one (.c (.s (o.map Part.row)) 3)) := by
  refine PureC.intro' tt_ok Tryz.func228 (by kernel_rfl) rfl rfl rfl (Nat.le_of_ble_eq_true rfl) (fun w0 base => ?_)
  have hle := nL_len hl
  simp
  refine LoopT.intro eok (fun x : Nat × Hd => x.1 ≤ o.length) (fun x => ⟨22, 0, [(8, .v (.int .i64 x.1)), (7, .v (.int .i64 o.length)), (6, .ro (o.map Part.row)), (3, .sl 304 x.2 3 0 x.1)], [(304, .rows x.2 3 ((o.take x.1).map Part.row) true)]⟩) (fun x => o.length - x.1) (0, none) (by simp) (by simp) (fun x hi => ?_)
  obtain ⟨i, H⟩ := x
  simp only at hi ⊢
  by_cases h : i < o.length
  · have e : Go.IntKind.i64.wrap ((i : Int) + 1) = ((i + 1 : Nat) : Int) := i64_suc (by omega)
    have hm : min i o.length = i := by omega
    have hs := nL_at hl h
    simp [h, Part.row]
    intro b5
    refine ACall.pure (copyInts_c o[i].signs (by unfold nPart at hs; omega)) (by simp) ?_
    simp [hm]
    exact ⟨by omega, fun H3 => ⟨i + 1, by omega, by omega, H3, ⟨e, rfl, rfl⟩, rfl, take_snoc (f := Part.row) h⟩⟩
  · have : i = o.length := by omega
    subst this
    simp [cut]
theorem l02Copy_c (o : List Part) (hl : nL nPart o ≤ 2 ^ 30) : PureC Tryz.prog 220 [.c (.s (o.map Part.row))] (.one (.c (.s (o.map Part.row)) 3)) := by
  refine PureC.intro' tt_ok Tryz.func220 (by kernel_rfl) rfl rfl rfl (Nat.le_of_ble_eq_true rfl) (fun w0 base => ?_)
  have hle := nL_len hl
  simp
  intro b
  refine LoopT.intro eok (fun x : Nat × Hd => x.1 ≤ o.length) (fun x => ⟨27, 0, [(9, .v (.int .i64 x.1)), (8, .v (.int .i64 o.length)), (7, .ro (o.map Part.row)), (3, .sl 96 x.2 3 0 x.1)], [(96, .rows x.2 3 ((o.take x.1).map Part.row) true)]⟩) (fun x => o.length - x.1) (0, some (b, 0, 0)) (by simp) (by simp) (fun x hi => ?_)
  obtain ⟨i, H⟩ := x
  simp only at hi ⊢
  by_cases h : i < o.length
  · have e : Go.IntKind.i64.wrap ((i : Int) + 1) = ((i + 1 : Nat) : Int) := i64_suc (by omega)
    have hm : min i o.length = i := by omega
    have hs := nL_at hl h
    unfold nPart at hs
    simp [h, Part.row]
    intro b5
    refine DrawT.introP eok mix [0, 1, 2, 3, 4, 6, 7] [5, 8, 9, 10, 11, 12] [([false, false, false, false, false, false, false], [true, true, true, true, true, true, true]), ([true, false, false, false, false, false, false], [false, true, true, true, true, true, true]), ([false, false, true, false, true, false, false], [false, true, false, true, false, true, true]), ([false, false, false, false, false, false, false], [false, true, false, true, false, true, true]), ([false, false, false, false, false, false, true], [false, true, false, true, false, true, false]), ([false, true, false, true, false, true, false], [false, false, false, false, false, false, false])] [false, false, false, false, false, false, false] (by kernel_rfl) ?_
    simp [hm]
    exact ⟨by omega, by omega, fun H3 => ⟨i + 1, by omega, by omega, H3, ⟨e, rfl, rfl⟩, rfl, take_snoc (f := Part.row) h⟩⟩
  · have : i = o.length := by omega
    subst this
    simp [cut]
def Call.zero : Call := ⟨0, ⟨#[]⟩, 0, 0, 0, [], []⟩
def submit (r : Rep) : Call := ⟨2, ⟨#[]⟩, r.client, r.seq, r.rev, r.sent, []⟩
theorem submitOf_c (r : Rep) (hl : nRep r ≤ 2 ^ 30) : PureC Tryz.prog 246 [.agg r.row] (.one (.agg (submit r).res)) := by
  refine PureC.intro' tt_ok Tryz.func246 (by kernel_rfl) rfl rfl rfl (Nat.le_of_ble_eq_true rfl) (fun w0 base => ?_)
  unfold nRep at hl
  simp [Rep.row]
  intros
  refine DrawT.introP eok mix [0, 1, 2, 3, 4, 5, 6, 7] [8, 9, 10] [([true, false, false, false, false, false, false, false], [false, true, true, true, true, true, true, true]), ([false, false, true, false, true, false, true, false], [false, true, false, true, false, true, false, true]), ([false, true, false, true, false, true, false, true], [false, false, false, false, false, false, false, false])] [false, false, false, false, false, false, false, false] (by kernel_rfl) ?_
  simp
  refine ACall.pure (copyOp_c r.sent (by omega)) (by simp) ?_
  simp [submit, Call.res]
theorem l17Call_c (r : Rep) (hl : nRep r ≤ 2 ^ 30) : PureC Tryz.prog 236 [.agg r.row] (.one (.agg (submit r).res)) := by
  refine PureC.intro' tt_ok Tryz.func236 (by kernel_rfl) rfl rfl rfl (Nat.le_of_ble_eq_true rfl) (fun w0 base => ?_)
  unfold nRep at hl
  simp [Rep.row]
  intros
  refine DrawT.introP eok mix [0, 1, 2, 3, 4, 5, 6, 7] [8, 9, 10] [([true, false, false, false, false, false, false, false], [false, true, true, true, true, true, true, true]), ([false, false, true, false, true, false, true, false], [false, true, false, true, false, true, false, true]), ([false, true, false, true, false, true, false, true], [false, false, false, false, false, false, false, false])] [false, false, false, false, false, false, false, false] (by kernel_rfl) ?_
  simp
  refine ACall.pure (l02Copy_c r.sent (by omega)) (by simp) ?_
  simp [submit, Call.res]
theorem Call.zero_n : nCall Call.zero = 0 := rfl
end Go.Proofs.YtdfdabjdfmamgaaGreat

