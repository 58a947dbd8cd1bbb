import Derived.Test.YtljhopjmmcmioaaFCur
import Derived.Test.YtljhopjmmcmioaaFBld
import Derived.Test.YtljhopjmmcmioaaMF
namespace Go.Proofs.Ytljhopjmmcmioaa
open Go.AM
set_option maxRecDepth 20000

theorem l04Size_c (p : Part) (h : partOk p) : PureC Try.prog 189 [.agg p.row] (.one (.c (vi (psz p)) 1)) := by
  refine PureC.intro' tt_ok Try.func189 (by kernel_rfl) rfl rfl rfl (Nat.le_of_ble_eq_true rfl) (fun w0 base => ?_)
  have hp := psz_int h
  have hb := h.bounds
  rw [hp.1]
  simp [Part.row]
  by_cases hk : p.kind = 2
  · have := hb.2.2.2.2.1 hk
    simp [hk, this]
  · have := hb.2.2.2.2.2 hk
    simp [hk, this]

/-- a place in an operation -/
structure Cu (a : List Part) (i d : Nat) (X : List Part) : Prop where
  ok : ∀ p ∈ a, partOk p
  le : i ≤ a.length
  v : ∀ h : i < a.length, d ≤ psz a[i]
  z : i = a.length → d = 0
  c : cur a i d = X
def hdK : List Part → Int
  | [] => 0
  | p :: _ => p.kind
/-- two operations that are being read by the reference; all else below 14000 stays as it was -/
structure CR (kx ky bx by_ : Nat) (h0 h : AH) (a b : List Part) (i d j e : Nat) (X Y : List Part) : Prop where
  ne : kx ≠ ky
  lx : kx < 14000 - 16
  ly : ky < 14000 - 16
  gx : AH.get h kx = .vars bx 171 [.ro (a.map Part.row), .v (.int .i64 i), .v (.int .i64 d)]
  gy : AH.get h ky = .vars by_ 171 [.ro (b.map Part.row), .v (.int .i64 j), .v (.int .i64 e)]
  o : ∀ q, q ≠ kx → q ≠ ky → q < 14000 → AH.get h q = AH.get h0 q
  cx : Cu a i d X
  cy : Cu b j e Y
theorem CR.swap {kx ky bx by_ : Nat} {h0 h : AH} {a b : List Part} {i d j e : Nat} {X Y : List Part} (R : CR kx ky bx by_ h0 h a b i d j e X Y) : CR ky kx by_ bx h0 h b a j e i d Y X := ⟨R.ne.symm, R.ly, R.lx, R.gy, R.gx, fun q h1 h2 => R.o q h2 h1, R.cy, R.cx⟩

theorem Cu.bnd {a : List Part} {i d : Nat} {X : List Part} (h : Cu a i d X) : d ≤ 200 := by
  by_cases hlt : i < a.length
  · have := h.v hlt
    have := (psz_int (h.ok _ (List.getElem_mem hlt))).2
    omega
  · have := h.z (by have := h.le; omega)
    omega

theorem kind_call {w0 : World} {base : Bs} {st : ASt} {dst : Option Nat} {K : ASt → Prop} {kx b i d : Nat} {a X : List Part} (hk : kx < 14000) (hl : a.length ≤ 2 ^ 20) (cx : Cu a i d X)
    (g : st.h.get kx = .vars b 171 [.ro (a.map Part.row), .v (.int .i64 i), .v (.int .i64 d)])
    (hK : ∀ h' i' d', Cu a i' d' (nxt X) → AH.get h' kx = .vars b 171 [.ro (a.map Part.row), .v (.int .i64 i'), .v (.int .i64 d')] → (∀ q, q ≠ kx → q < 20000 → AH.get h' q = st.h.get q) → aPut ⟨st.n, st.kb, st.t, h'⟩ dst (.v (.int .i64 (hdK (nxt X)))) K) :
    ACall ⟨Try.prog, tt, w0, base⟩ 145 [.p kx b 0] st dst K := by
  refine ACall.inline tt_ok Try.func145 (by kernel_rfl) rfl rfl rfl (Nat.le_of_ble_eq_true rfl) 20000 (fun w1 F => ?_)
  simp
  refine LoopT.introW eok (fun x : Nat × Nat => Cu a x.1 x.2 (cur a x.1 x.2) ∧ nxt (cur a x.1 x.2) = nxt X) (fun x => ⟨62, 20000, [(0, .p kx b 0), (2, .v (.int .i64 0))], (kx, .vars b 171 [.ro (a.map Part.row), .v (.int .i64 x.1), .v (.int .i64 x.2)]) :: st.h⟩) (fun x => a.length - x.1) (i, d) ⟨⟨cx.ok, cx.le, cx.v, cx.z, rfl⟩, by rw [cx.c]⟩ (by simp [g]) (fun x hx => ?_)
  obtain ⟨i, d⟩ := x
  obtain ⟨hc, hn⟩ := hx
  have hcl := hc.le
  have hb := hc.bnd
  simp only at hc hn hcl ⊢
  simp
  by_cases hlt : i < a.length
  · have hp := hc.ok _ (List.getElem_mem hlt)
    have hd := hc.v hlt
    have hps := psz_int hp
    refine DrawT.quiet eok mix (by kernel_rfl) ?_
    simp [hlt]
    refine ⟨_, _, l04Size_c a[i] hp, by simp [Part.row], ?_⟩
    by_cases he : d = psz a[i]
    · have e1 : Go.IntKind.i64.wrap ((i : Int) + 1) = ((i + 1 : Nat) : Int) := i64_suc (by omega)
      simp [he, e1]
      refine ⟨i + 1, 0, ⟨⟨hc.ok, by omega, fun _ => by omega, fun _ => rfl, rfl⟩, ?_⟩, by omega, by omega, rfl⟩
      rw [← hn, he, cur_step hc.ok hlt]
    · have he2 : ¬ (d : Int) = psz a[i] := by omega
      have hne : ¬ i = a.length := by omega
      simp [he2]
      refine DrawT.quiet eok mix (by kernel_rfl) ?_
      have hne2 : ¬ (i : Int) = a.length := by omega
      simp [hne2]
      refine DrawT.quiet eok mix (by kernel_rfl) ?_
      simp [hlt, Part.row]
      have hs := cur_stop hc.ok hlt (show d < psz a[i] by omega)
      rw [hs] at hn
      have hk2 : hdK (nxt X) = a[i].kind := by rw [← hn, cur_at hlt]; simp [hdK]
      rw [hk2] at hK
      refine hK _ i d ⟨hc.ok, hc.le, hc.v, hc.z, hn⟩ (by simp) (fun q q1 q2 => by simp [q1])
  · have hi : i = a.length := by omega
    have hd := hc.z hi
    refine DrawT.quiet eok mix (by kernel_rfl) ?_
    simp [hlt]
    refine DrawT.quiet eok mix (by kernel_rfl) ?_
    simp [hi]
    have hn2 : nxt X = [] := by rw [← hn, cur_end (by omega)]; rfl
    rw [hn2] at hK
    refine hK _ i d ⟨hc.ok, hc.le, hc.v, hc.z, cur_end (by omega)⟩ (by simp [hi]) (fun q q1 q2 => by simp [q1])

theorem Cu.head {a : List Part} {i d : Nat} {p : Part} {l : List Part} (h : Cu a i d (p :: l)) : ∃ hi : i < a.length, p = pleft a[i] d ∧ l = a.drop (i + 1) ∧ psz p = psz a[i] - d ∧ d ≤ psz a[i] ∧ p.kind = a[i].kind ∧ partOk p := by
  have hi : i < a.length := by
    have := h.le
    rcases Nat.lt_or_ge i a.length with h1 | h1
    · exact h1
    · have := h.c
      rw [cur_end h1] at this
      cases this
  have hc := h.c
  rw [cur_at hi] at hc
  cases hc
  have hp := h.ok _ (List.getElem_mem hi)
  exact ⟨hi, rfl, rfl, pleft_sz hp (h.v hi), h.v hi, by simp, pleft_ok hp (h.v hi)⟩
theorem Cu.add {a : List Part} {i d n : Nat} {p : Part} {l : List Part} (h : Cu a i d (p :: l)) (hn : n ≤ psz p) : Cu a i (d + n) (pleft p n :: l) := by
  obtain ⟨hi, h1, h2, h3, h4, -, -⟩ := h.head
  exact ⟨h.ok, h.le, fun _ => by omega, fun he => by omega, (cur_left hi h.c).symm⟩

theorem left_call {w0 : World} {base : Bs} {st : ASt} {dst : Option Nat} {K : ASt → Prop} {kx b i d : Nat} {a l : List Part} {p : Part} (cx : Cu a i d (p :: l))
    (g : st.h.get kx = .vars b 171 [.ro (a.map Part.row), .v (.int .i64 i), .v (.int .i64 d)])
    (hK : aPut st dst (.v (.int .i64 (psz p))) K) :
    ACall ⟨Try.prog, tt, w0, base⟩ 146 [.p kx b 0] st dst K := by
  refine ACall.inline tt_ok Try.func146 (by kernel_rfl) rfl rfl rfl (Nat.le_of_ble_eq_true rfl) 20000 (fun w1 F => ?_)
  obtain ⟨hi, h1, h2, h3, h4, -, -⟩ := cx.head
  have hp := cx.ok _ (List.getElem_mem hi)
  have hps := psz_int hp
  simp
  refine DrawT.quiet eok mix (by kernel_rfl) ?_
  simp [g, hi]
  refine ⟨_, _, l04Size_c a[i] hp, by simp [Part.row], ?_⟩
  have e : Go.IntKind.i64.wrap ((psz a[i] : Int) - (d : Int)) = (psz p : Int) := by rw [Go.IntWalk.i64_in _ (by omega)]; omega
  simp [e]
  exact hK

theorem curTake_call {w0 : World} {base : Bs} {st : ASt} {dst : Option Nat} {K : ASt → Prop} {kx b i d n : Nat} {a l : List Part} {p : Part} (hk : kx < 14000) (cx : Cu a i d (p :: l)) (hk2 : p.kind = 2) (hn : n ≤ psz p)
    (g : st.h.get kx = .vars b 171 [.ro (a.map Part.row), .v (.int .i64 i), .v (.int .i64 d)])
    (hK : ∀ h', Cu a i (d + n) (pleft p n :: l) → AH.get h' kx = .vars b 171 [.ro (a.map Part.row), .v (.int .i64 i), .v (.int .i64 ((d + n : Nat) : Int))] → (∀ q, q ≠ kx → q < 20000 → AH.get h' q = st.h.get q) → aPut ⟨st.n, st.kb, st.t, h'⟩ dst (.ro ((p.signs.take n).map intR)) K) :
    ACall ⟨Try.prog, tt, w0, base⟩ 149 [.p kx b 0, .v (.int .i64 n)] st dst K := by
  refine ACall.inline tt_ok Try.func149 (by kernel_rfl) rfl rfl rfl (Nat.le_of_ble_eq_true rfl) 20000 (fun w1 F => ?_)
  obtain ⟨hi, h1, h2, h3, h4, h5, -⟩ := cx.head
  have hp := cx.ok _ (List.getElem_mem hi)
  have hps := psz_int hp
  have hkk : a[i].kind = 2 := by rw [← h5]; exact hk2
  have hn0 := hp.bounds.2.2.2.2.1 hkk
  have hsz : psz a[i] = a[i].signs.length := by omega
  have hs : p.signs = a[i].signs.drop d := by rw [h1]; simp [pleft, hkk]
  have e : Go.IntKind.i64.wrap ((d : Int) + (n : Int)) = ((d + n : Nat) : Int) := by rw [Go.IntWalk.i64_in _ (by omega)]; omega
  have hle : d + n ≤ a[i].signs.length := by omega
  have hv : cut (a[i].signs.map intR) d n = (p.signs.take n).map intR := by
    unfold cut
    split
    · rename_i hh
      rw [hs, hh.1]
      simp at hh
      simp [hh.2]
    · rw [hs, List.map_take, List.map_drop]
  obtain ⟨m, hm⟩ : ∃ m, d + n = m := ⟨_, rfl⟩
  have e2 : m - d = n := by omega
  have hadd := cx.add hn
  rw [hm] at e hle hK hadd
  simp
  refine DrawT.quiet eok mix (by kernel_rfl) ?_
  simp [g, hi, Part.row, e, e2, hv]
  simp only [List.map_take] at hK
  refine ⟨hle, by omega, hK _ hadd ?_ (fun q q1 q2 => ?_)⟩
  · simp
  · simp [q1]

theorem l04Min_c (x y : Nat) : PureC Try.prog 150 [.c (vi x), .c (vi y)] (.one (.c (vi ((min x y : Nat) : Int)) 1)) := by
  refine PureC.intro' tt_ok Try.func150 (by kernel_rfl) rfl rfl rfl (Nat.le_of_ble_eq_true rfl) (fun w0 base => ?_)
  simp
  by_cases h : x < y
  · have : min x y = x := by omega
    simp [h, this]
  · have : min x y = y := by omega
    simp [h, this]
section
variable {w0 : World} {base : Bs} {st : ASt} {dst : Option Nat} {K : ASt → Prop} {kx ky bx by_ i d j e : Nat} {h0 : AH} {a b X Y : List Part}
theorem CR.kind (R : CR kx ky bx by_ h0 st.h a b i d j e X Y) (hl : a.length ≤ 2 ^ 20) (hK : ∀ h' i' d', CR kx ky bx by_ h0 h' a b i' d' j e (nxt X) Y → aPut ⟨st.n, st.kb, st.t, h'⟩ dst (.v (.int .i64 (hdK (nxt X)))) K) :
    ACall ⟨Try.prog, tt, w0, base⟩ 145 [.p kx bx 0] st dst K := by
  have := R.lx
  have := R.ly
  refine kind_call (by omega) hl R.cx R.gx (fun h1 i1 d1 c1 g1 o1 => hK h1 i1 d1 ⟨R.ne, R.lx, R.ly, g1, by rw [o1 ky R.ne.symm (by omega)]; exact R.gy, fun q q1 q2 q3 => by rw [o1 q q1 (by omega)]; exact R.o q q1 q2 q3, c1, R.cy⟩)
theorem CR.left {p : Part} {l : List Part} (R : CR kx ky bx by_ h0 st.h a b i d j e (p :: l) Y) (hK : aPut st dst (.v (.int .i64 (psz p))) K) :
    ACall ⟨Try.prog, tt, w0, base⟩ 146 [.p kx bx 0] st dst K := left_call R.cx R.gx hK
theorem CR.take {p : Part} {l : List Part} {n : Nat} (R : CR kx ky bx by_ h0 st.h a b i d j e (p :: l) Y) (hk2 : p.kind = 2) (hn : n ≤ psz p) (hK : ∀ h', CR kx ky bx by_ h0 h' a b i (d + n) j e (pleft p n :: l) Y → aPut ⟨st.n, st.kb, st.t, h'⟩ dst (.ro ((p.signs.take n).map intR)) K) :
    ACall ⟨Try.prog, tt, w0, base⟩ 149 [.p kx bx 0, .v (.int .i64 n)] st dst K := by
  have := R.lx
  have := R.ly
  refine curTake_call (by omega) R.cx hk2 hn R.gx (fun h1 c1 g1 o1 => hK h1 ⟨R.ne, R.lx, R.ly, g1, by rw [o1 ky R.ne.symm (by omega)]; exact R.gy, fun q q1 q2 q3 => by rw [o1 q q1 (by omega)]; exact R.o q q1 q2 q3, c1, R.cy⟩)
/-- the cursors stay, all else may have been turned -/
theorem CR.rebase (R : CR kx ky bx by_ h0 st.h a b i d j e X Y) {h' : AH} (hx : AH.get h' kx = AH.get st.h kx) (hy : AH.get h' ky = AH.get st.h ky) : CR kx ky bx by_ h' h' a b i d j e X Y :=
  ⟨R.ne, R.lx, R.ly, hx.trans R.gx, hy.trans R.gy, fun _ _ _ _ => rfl, R.cx, R.cy⟩
/-- so many signs are done -/
theorem CR.done {p : Part} {l : List Part} {n : Nat} (R : CR kx ky bx by_ h0 st.h a b i d j e (p :: l) Y) (hn : n ≤ psz p) : CR kx ky bx by_ ((kx, .vars bx 171 [.ro (a.map Part.row), .v (.int .i64 i), .v (.int .i64 ((d + n : Nat) : Int))]) :: st.h) ((kx, .vars bx 171 [.ro (a.map Part.row), .v (.int .i64 i), .v (.int .i64 ((d + n : Nat) : Int))]) :: st.h) a b i (d + n) j e (pleft p n :: l) Y :=
  ⟨R.ne, R.lx, R.ly, by simp, by rw [get_cons, if_neg R.ne.symm]; exact R.gy, fun _ _ _ _ => rfl, R.cx.add hn, R.cy⟩
end
end Go.Proofs.Ytljhopjmmcmioaa
