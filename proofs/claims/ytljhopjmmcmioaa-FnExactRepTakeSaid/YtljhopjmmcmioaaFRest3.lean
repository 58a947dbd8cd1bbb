import Derived.Test.YtljhopjmmcmioaaFRest2
namespace Go.Proofs.Ytljhopjmmcmioaa
open Go.AM
set_option maxRecDepth 20000

theorem whole_call {w0 : World} {base : Bs} {st : ASt} {dst : Option Nat} {K : ASt → Prop} {kx b : Nat} {p : Part} {l : List Part} (hk : kx < 14000) (hp : partOk p) (hl : l.length ≤ 2 ^ 20)
    (g : st.h.get kx = .vars b 183 [.ro ((p :: l).map Part.row)])
    (hK : ∀ h', AH.get h' kx = .vars b 183 [.ro ((pleft p (psz p) :: l).map Part.row)] → (∀ q, q ≠ kx → q < 14000 → AH.get h' q = st.h.get q) → aPut ⟨st.n, st.kb, st.t, h'⟩ dst (hdV [p]) K) :
    ACall ⟨Try.prog, tt, w0, base⟩ 154 [.p kx b 0] st dst K := by
  refine ACall.inline tt_ok Try.func154 (by kernel_rfl) rfl rfl rfl (Nat.le_of_ble_eq_true rfl) 14000 (fun w1 F => ?_)
  have k0 : ¬ kx = 14032 := by omega
  have j0 : ¬ 14032 = kx := by omega
  simp [g, Part.row, k0]
  intro b2
  refine ACall.pure (implSize_c p hp) (by simp [Part.row]) ?_
  simp
  refine take_call (n := psz p) (by omega) hp (Nat.le_refl _) hl (by simp [k0, g]) (fun h' g1 g2 => ?_)
  have e := g2 14032 j0 (by omega)
  simp at e
  simp [hdV, e]
  rw [pcut_whole hp]
  refine hK _ (by simp [g1, k0]) (fun q q1 q2 => ?_)
  have hq : ¬ q = 14032 := by omega
  simp [hq, g2 q q1 (by omega)]

/-- two operations that are being read; all else below 14000 stays as it was -/
structure RS (kx ky bx by_ : Nat) (h0 h : AH) (X Y : List Part) : Prop where
  ne : kx ≠ ky
  lx : kx < 14000 - 16
  ly : ky < 14000 - 16
  gx : AH.get h kx = .vars bx 183 [.ro (X.map Part.row)]
  gy : AH.get h ky = .vars by_ 183 [.ro (Y.map Part.row)]
  o : ∀ q, q ≠ kx → q ≠ ky → q < 14000 → AH.get h q = AH.get h0 q
theorem RS.swap {kx ky bx by_ : Nat} {h0 h : AH} {X Y : List Part} (R : RS kx ky bx by_ h0 h X Y) : RS ky kx by_ bx h0 h Y X := ⟨R.ne.symm, R.ly, R.lx, R.gy, R.gx, fun q h1 h2 => R.o q h2 h1⟩
section
variable {w0 : World} {base : Bs} {st : ASt} {dst : Option Nat} {K : ASt → Prop} {kx ky bx by_ : Nat} {h0 : AH} {X Y : List Part}
theorem RS.next (R : RS kx ky bx by_ h0 st.h X Y) (hs : ∀ p ∈ X, partOk p) (hK : ∀ h', RS kx ky bx by_ h0 h' (nxt X) Y → aPut ⟨st.n, st.kb, st.t, h'⟩ dst (hdV (nxt X)) K) :
    ACall ⟨Try.prog, tt, w0, base⟩ 153 [.p kx bx 0] st dst K := by
  have := R.lx
  have := R.ly
  refine next_call (l := X) (kb := 20000) (by omega) hs R.gx (fun h1 g1 o1 => hK h1 ⟨R.ne, R.lx, R.ly, g1, by rw [o1 ky R.ne.symm (by omega)]; exact R.gy, fun q q1 q2 q3 => by rw [o1 q q1 (by omega)]; exact R.o q q1 q2 q3⟩)
theorem RS.take {p : Part} {l : List Part} {n : Nat} (R : RS kx ky bx by_ h0 st.h (p :: l) Y) (hp : partOk p) (hn : n ≤ psz p) (hl : l.length ≤ 2 ^ 20) (hK : ∀ h', RS kx ky bx by_ h0 h' (pleft p n :: l) Y → aPut ⟨st.n, st.kb, st.t, h'⟩ dst (hdV [pcut p n]) K) :
    ACall ⟨Try.prog, tt, w0, base⟩ 156 [.p kx bx 0, .v (.int .i64 n)] st dst K := by
  have := R.lx
  have := R.ly
  refine take_call (by omega) hp hn hl R.gx (fun h1 g1 o1 => hK h1 ⟨R.ne, R.lx, R.ly, g1, by rw [o1 ky R.ne.symm (by omega)]; exact R.gy, fun q q1 q2 q3 => by rw [o1 q q1 (by omega)]; exact R.o q q1 q2 q3⟩)
theorem RS.whole {p : Part} {l : List Part} (R : RS kx ky bx by_ h0 st.h (p :: l) Y) (hp : partOk p) (hl : l.length ≤ 2 ^ 20) (hK : ∀ h', RS kx ky bx by_ h0 h' (pleft p (psz p) :: l) Y → aPut ⟨st.n, st.kb, st.t, h'⟩ dst (hdV [p]) K) :
    ACall ⟨Try.prog, tt, w0, base⟩ 154 [.p kx bx 0] st dst K := by
  have := R.lx
  have := R.ly
  refine whole_call (by omega) hp hl R.gx (fun h1 g1 o1 => hK h1 ⟨R.ne, R.lx, R.ly, g1, by rw [o1 ky R.ne.symm (by omega)]; exact R.gy, fun q q1 q2 q3 => by rw [o1 q q1 (by omega)]; exact R.o q q1 q2 q3⟩)
end
theorem hdV_nil : hdV [] = .agg [.v (.int .i64 0), .v (.int .i64 0), .nil] := rfl
theorem hdV_cons {p : Part} {l : List Part} : hdV (p :: l) = .agg [.v (.int .i64 p.kind), .v (.int .i64 p.n), .ro (p.signs.map intR)] := rfl
end Go.Proofs.Ytljhopjmmcmioaa
