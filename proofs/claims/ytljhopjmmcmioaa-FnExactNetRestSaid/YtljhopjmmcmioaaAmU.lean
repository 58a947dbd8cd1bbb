/-
  How the machine's questions are computed: rules for simp (second part: stores, slices, calls).
-/
import Derived.Test.YtljhopjmmcmioaaAmT
namespace Go.AM
open Go.RowKit

section
variable {P : Program} {T : Nat → Option TI} {w0 : World} {base : Bs} {E : Env} {Q : Exit → ASt → Prop} {K : ASt → Prop} {st : ASt}

theorem cells_agg {l : List AV} : AV.cells (.agg l) = l := (rfl)
theorem cells_v {u : Value} : AV.cells (.v u) = [.v u] := (rfl)
theorem cells_nil : AV.cells .nil = [.nil] := (rfl)
theorem cells_ro {r : List (List CD)} : AV.cells (.ro r) = [.ro r] := (rfl)
theorem cells_sl {k sz off len : Nat} {H : Hd} : AV.cells (.sl k H sz off len) = [.sl k H sz off len] := (rfl)
theorem cells_p {k b c : Nat} : AV.cells (.p k b c) = [.p k b c] := (rfl)
theorem cells_clo {f : Nat} {l : List AV} : AV.cells (.clo f l) = [.clo f l] := (rfl)
theorem cells_cv {u : Value} {len : Nat} : AV.cells (.cv u len) = [.cv u len] := (rfl)
theorem cells_ml {k sz len : Nat} {H : Hd} : AV.cells (.ml k H sz len) = [.ml k H sz len] := (rfl)
theorem one_cv {u : Value} {len : Nat} : AV.one (.cv u len) = true := (rfl)
theorem one_ml {k sz len : Nat} {H : Hd} : AV.one (.ml k H sz len) = true := (rfl)
theorem one_v {u : Value} : AV.one (.v u) = true := (rfl)
theorem one_nil : AV.one .nil = true := (rfl)
theorem one_ro {r : List (List CD)} : AV.one (.ro r) = true := (rfl)
theorem one_sl {k sz off len : Nat} {H : Hd} : AV.one (.sl k H sz off len) = true := (rfl)
theorem one_p {k b c : Nat} : AV.one (.p k b c) = true := (rfl)
theorem one_clo {f : Nat} {l : List AV} : AV.one (.clo f l) = true := (rfl)
theorem one_all {l : List CD} : (l.map toAV).all AV.one = true := by
  induction l with
  | nil => rfl
  | cons d l ih => cases d <;> simpa [toAV, AV.one] using ih

theorem putL_nil {α : Type} {l : List α} {i : Nat} : putL l i [] = l := by cases l <;> rfl
theorem putL_0 {α : Type} {x v : α} {l vs : List α} : putL (x :: l) 0 (v :: vs) = v :: putL l 0 vs := (rfl)
theorem putL_s {α : Type} {x v : α} {l vs : List α} {c : Nat} : putL (x :: l) (c + 1) (v :: vs) = x :: putL l c (v :: vs) := (rfl)

section fr
variable {h : AH} {x x' y y' : AV} {t : Nat} {F : CD → AH → Bool → Prop} {G : List CD → AH → Bool → Prop}
@[congr] theorem aFrz_cg (hx : x = x') : aFrz h x F = aFrz h x' F := by rw [hx]
theorem Z_v {u : Value} : aFrz h (.v u) F = F (.v u) h true := (rfl)
theorem Z_nil : aFrz h .nil F = F (.s []) h true := (rfl)
theorem Z_ro {r : List (List CD)} : aFrz h (.ro r) F = F (.s r) h false := (rfl)
theorem Z_sl {k sz off len : Nat} {H : Hd} : aFrz h (.sl k H sz off len) F = wR (h.get k) fun H' sz' rows own => H = H' ∧ sz = sz' ∧ off + len ≤ rows.length ∧ F (.s (cut rows off len)) ((k, .dead) :: h) own := by
  simp only [aFrz, wR]; cases h.get k <;> rfl
@[congr] theorem aFrzL_cg {l l' : List AV} (hx : l = l') : aFrzL h l G = aFrzL h l' G := by rw [hx]
theorem ZL_nil : aFrzL h [] G = G [] h true := (rfl)
theorem ZL_cons {a : AV} {l : List AV} : aFrzL h (a :: l) G = aFrz h a fun d h' o => aFrzL h' l fun ds h'' o' => G (d :: ds) h'' (o && o') := (rfl)
theorem cut_all {α : Type} {rows : List α} : cut rows 0 rows.length = rows := by simp [cut]
theorem cut_len {α : Type} {rows : List α} {n : Nat} (h : n = rows.length) : cut rows 0 n = rows := by simp [cut, h]

@[congr] theorem aStore_cg (hx : x = x') (hy : y = y') : aStore E st t x y K = aStore E st t x' y' K := by rw [hx, hy]
theorem W_p {k b c : Nat} : aStore ⟨P, T, w0, base⟩ st t (.p k b c) y K = wT (T t) fun ti => y.cells.length = ti.n ∧ (y.cells.all AV.one) = true ∧ wVT (st.h.get k) fun b' T' cells => b = b' ∧ c + y.cells.length ≤ cells.length ∧ K { st with h := (k, .vars b T' (putL cells c y.cells)) :: st.h } := by
  simp only [aStore, wT, wVT]
  cases T t with
  | none => rfl
  | some ti => simp only; cases st.h.get k <;> rfl
theorem W_e {k sz r c : Nat} {H : Hd} : aStore ⟨P, T, w0, base⟩ st t (.e k H sz r c) y K = wT (T t) fun ti => y.cells.length = ti.n ∧ (y.cells.all AV.one) = true ∧ aFrzL st.h y.cells fun ds h o => wR (h.get k) fun H' sz' rows own => H = H' ∧ sz = sz' ∧ r < rows.length ∧ c + ds.length ≤ sz ∧
          K { st with h := (k, .rows H sz (if c = 0 ∧ ds.length = sz then rows.set r ds else rows.modify r fun row => putL row c ds) (own && o)) :: h } := by
  simp only [aStore, wT]
  cases T t with
  | none => rfl
  | some ti =>
    simp only
    rfl

@[congr] theorem aBuild_cg {l l' : List (Nat × AV)} {F : AV → Prop} (hl : l = l') : aBuild E t l F = aBuild E t l' F := by rw [hl]
theorem aBuild_eq {l : List (Nat × AV)} {F : AV → Prop} : aBuild ⟨P, T, w0, base⟩ t l F = wT (T t) fun ti => ti.agg = true ∧ fillA ti.fields ti.zero l fun l => F (.agg l) := by
  simp only [aBuild, wT]; cases T t <;> rfl
@[congr] theorem fillA_cg {fs : List (Nat × Nat)} {cells cells' : List AV} {l l' : List (Nat × AV)} {F : List AV → Prop} (hc : cells = cells') (hl : l = l') : fillA fs cells l F = fillA fs cells' l' F := by rw [hc, hl]
theorem fillA_nil {fs : List (Nat × Nat)} {cells : List AV} {F : List AV → Prop} : fillA fs cells [] F = F cells := (rfl)
theorem fillA_cons {fs : List (Nat × Nat)} {cells : List AV} {i : Nat} {v : AV} {l : List (Nat × AV)} {F : List AV → Prop} : fillA fs cells ((i, v) :: l) F = wF (fs[i]?) fun off n => v.cells.length = n ∧ off + n ≤ cells.length ∧ (v.cells.all AV.one) = true ∧ fillA fs (putL cells off v.cells) l F := by
  simp only [fillA, wF]; cases fs[i]? <;> rfl

variable {R : List (List CD) → AH → Bool → Prop} {te : TI}
@[congr] theorem aNews_cg (hx : x = x') : aNews te h x R = aNews te h x' R := by rw [hx]
theorem N_nil : aNews te h .nil R = R [] h true := (rfl)
theorem N_ro {rows : List (List CD)} : aNews te h (.ro rows) R = ((∀ row ∈ rows, row.length = te.n) ∧ (te.pln = true → ∀ row ∈ rows, ∀ d ∈ row, isV d = true) ∧ R rows h te.pln) := (rfl)
theorem N_slp {k sz off len : Nat} {H : Hd} (hp : te.pln = true) : aNews te h (.sl k H sz off len) R = wR (h.get k) fun H' sz' rows _ => H = H' ∧ sz = sz' ∧ sz = te.n ∧ off + len ≤ rows.length ∧ (∀ row ∈ rows, ∀ d ∈ row, isV d = true) ∧ R (cut rows off len) h true := by
  simp only [aNews, wR, hp]; cases h.get k <;> simp
theorem N_sl {k sz off len : Nat} {H : Hd} (hp : te.pln = false) : aNews te h (.sl k H sz off len) R = wR (h.get k) fun H' sz' rows own => H = H' ∧ sz = sz' ∧ sz = te.n ∧ off + len ≤ rows.length ∧ R (cut rows off len) ((k, .dead) :: h) own := by
  simp only [aNews, wR, hp]; cases h.get k <;> simp
variable {dst : Option Nat}
@[congr] theorem aAppend_cg (hx : x = x') (hy : y = y') : aAppend E st dst t x y K = aAppend E st dst t x' y' K := by rw [hx, hy]
theorem A_new : aAppend E st dst t .nil x K = elemT E t fun _ te => 0 < te.bytes ∧ 0 < te.n ∧ aNews te st.h x fun news h o => news.length * te.bytes ≤ 140737488355328 ∧
        ∀ H, aPut { st with h := (st.key dst, .rows H te.n news o) :: h } dst (.sl (st.key dst) H te.n 0 news.length) K := (rfl)
theorem A_sl {k sz off len : Nat} {H0 : Hd} : aAppend E st dst t (.sl k H0 sz off len) x K = elemT E t fun _ te => 0 < te.bytes ∧ 0 < te.n ∧ aNews te st.h x fun news h o => wR (h.get k) fun H' sz' rows own => H0 = H' ∧ sz = sz' ∧ sz = te.n ∧ off = 0 ∧ len = rows.length ∧ (len + news.length) * te.bytes ≤ 140737488355328 ∧
          ∀ H, aPut { st with h := (k, .rows H te.n (rows ++ news) (own && o)) :: h } dst (.sl k H te.n 0 (len + news.length)) K := by
  unfold aAppend
  rfl
@[congr] theorem aRows_cg {l l' : List (Nat × AV)} {i : Nat} (hl : l = l') : aRows te h l i R = aRows te h l' i R := by rw [hl]
theorem R_nil {i : Nat} : aRows te h [] i R = R [] h true := (rfl)
theorem R_cons {i j : Nat} {v : AV} {l : List (Nat × AV)} : aRows te h ((j, v) :: l) i R = (j = i ∧ v.cells.length = te.n ∧ (v.cells.all AV.one) = true ∧ aFrzL h v.cells fun ds h' o => aRows te h' l (i + 1) fun rs h'' o' => R (ds :: rs) h'' (o && o')) := (rfl)
@[congr] theorem aBuildSlice_cg {len : Nat} {l l' : List (Nat × AV)} (hl : l = l') : aBuildSlice E st dst t len l K = aBuildSlice E st dst t len l' K := by rw [hl]
theorem aBuildSlice_eq {len : Nat} {l : List (Nat × AV)} : aBuildSlice E st dst t len l K = elemT E t fun _ te => 0 < te.n ∧ len = l.length ∧ len * te.n ≤ 16777216 ∧ aRows te st.h l 0 fun rs h o =>
    ∀ b, aPut { st with h := (st.key dst, .rows (some (b, 0, len)) te.n rs o) :: h } dst (.sl (st.key dst) (some (b, 0, len)) te.n 0 len) K := (rfl)
@[congr] theorem aMake_cg (hx : x = x') (hy : y = y') : aMake E st dst t x y K = aMake E st dst t x' y' K := by rw [hx, hy]
theorem aMake_eq {n m : Int} : aMake E st dst t (.v (.int .i64 n)) (.v (.int .i64 m)) K = elemT E t fun _ te => 0 < te.n ∧ 0 < te.bytes ∧ n = m ∧ 0 ≤ n ∧ n * te.bytes ≤ 140737488355328 ∧
        ∀ b, aPut { st with h := (st.key dst, .rows (some (b, 0, n.toNat)) te.n (List.replicate n.toNat (te.zero.map toCD)) true) :: st.h } dst (.sl (st.key dst) (some (b, 0, n.toNat)) te.n 0 n.toNat) K := (rfl)
theorem aAlloc_eq : aAlloc ⟨P, T, w0, base⟩ st dst t K = wT (T t) fun ti => ∀ b, aPut { st with h := (st.key dst, .vars b t ti.zero) :: st.h } dst (.p (st.key dst) b 0) K := by
  simp only [aAlloc, wT]; cases T t <;> rfl
@[congr] theorem aBox_cg (hx : x = x') : aBox E st dst t x K = aBox E st dst t x' K := by rw [hx]
theorem aBox_eq : aBox ⟨P, T, w0, base⟩ st dst t x K = wT (T t) fun _ => (x.cells.all AV.one) = true ∧ ∀ b, aPut { st with h := (st.key dst, .vars b t x.cells) :: st.h } dst (.p (st.key dst) b 0) K := by
  simp only [aBox, wT]; cases T t <;> rfl
@[congr] theorem aSlice_cg {lo lo' hi hi' : Option AV} {F : AV → Prop} (hx : x = x') (hl : lo = lo') (hh : hi = hi') : aSlice E t x lo hi F = aSlice E t x' lo' hi' F := by rw [hx, hl, hh]
theorem SL_ro {rows : List (List CD)} {lo hi : Option AV} {F : AV → Prop} : aSlice E t (.ro rows) lo hi F = elemT E t fun _ te => (∀ row ∈ rows, row.length = te.n) ∧ bound hi rows.length fun h => h ≤ rows.length ∧ bound lo 0 fun l => l ≤ h ∧ F (.ro (cut rows l (h - l))) := (rfl)
theorem SL_sl {k sz off len : Nat} {H : Hd} {lo hi : Option AV} {F : AV → Prop} : aSlice E t (.sl k H sz off len) lo hi F = elemT E t fun _ te => sz = te.n ∧ bound hi len fun h => h ≤ len ∧ bound lo 0 fun l => l ≤ h ∧ F (.sl k H sz (off + l) (h - l)) := (rfl)
theorem SL_str {s : ByteArray} {lo hi : Option AV} {F : AV → Prop} : aSlice E t (.v (.string s)) lo hi F = (E.isStr t ∧ bound hi s.size fun h => h ≤ s.size ∧ bound lo 0 fun l => l ≤ h ∧ F (.v (.string (s.extract l h)))) := (rfl)
theorem bound_none {z : Nat} {F : Nat → Prop} : bound none z F = F z := (rfl)
theorem bound_int {z : Nat} {F : Nat → Prop} {k : IntKind} {n : Int} : bound (some (.v (.int k n))) z F = (0 ≤ n ∧ F n.toNat) := (rfl)
end fr

section calls
variable {h : AH} {x : AV} {R : Value → CD → Prop}
theorem in_v {u : Value} {d : CD} : aIn R h (.v u) d = (d = .v u) := (rfl)
theorem in_nil {d : CD} : aIn R h .nil d = (d = .s []) := (rfl)
theorem in_ro {r : List (List CD)} {d : CD} : aIn R h (.ro r) d = (d = .s r) := (rfl)
theorem in_sl {k sz off len : Nat} {H : Hd} {d : CD} : aIn R h (.sl k H sz off len) d = wR (h.get k) fun H' sz' rows _ => H = H' ∧ sz = sz' ∧ off + len ≤ rows.length ∧ d = .s (cut rows off len) := by
  simp only [aIn, wR]; cases h.get k <;> rfl
theorem in_cv {u : Value} {len : Nat} {d : CD} : aIn R h (.cv u len) d = R u d := (rfl)
theorem in_ml {k sz len : Nat} {H : Hd} {d : CD} : aIn R h (.ml k H sz len) d = wR (h.get k) fun H' sz' rows _ => H = H' ∧ sz = sz' ∧ len = rows.length ∧ d = .s rows := by
  simp only [aIn, wR]; cases h.get k <;> rfl
theorem inL_nil : aInL R h [] [] = True := (rfl)
theorem inL_cons {a : AV} {l : List AV} {d : CD} {ds : List CD} : aInL R h (a :: l) (d :: ds) = (aIn R h a d ∧ aInL R h l ds) := (rfl)
theorem inV_c {a : AV} {d : CD} : aInV R h a (.c d) = aIn R h a d := (rfl)
theorem inV_agg {l : List AV} {ds : List CD} : aInV R h (.agg l) (.agg ds) = aInL R h l ds := (rfl)
theorem inVs_nil : aInVs R h [] [] = True := (rfl)
theorem inVs_cons {a : AV} {l : List AV} {d : VD} {ds : List VD} : aInVs R h (a :: l) (d :: ds) = (aInV R h a d ∧ aInVs R h l ds) := (rfl)

variable {key : Nat}
theorem land_v {u : Value} {sz : Nat} {F : AV → AH → Prop} : landT h key (.v u, sz) F = F (.v u) h := (rfl)
theorem land_s {rows : List (List CD)} {sz : Nat} {F : AV → AH → Prop} : landT h key (.s rows, sz) F = ∀ H, F (.sl key H sz 0 rows.length) ((key, .rows H sz rows true) :: h) := (rfl)
theorem landL_nil {F : List AV → AH → Nat → Prop} : landL h key [] F = F [] h key := (rfl)
theorem landL_cons {t : CD × Nat} {ts : List (CD × Nat)} {F : List AV → AH → Nat → Prop} : landL h key (t :: ts) F = landT h key t fun v h' => landL h' (key + 1) ts fun l h'' key' => F (v :: l) h'' key' := (rfl)
theorem landV_c {d : CD} {sz : Nat} {F : AV → AH → Nat → Prop} : landV h key (.c d sz) F = landT h key (d, sz) fun v h' => F v h' (key + 1) := (rfl)
theorem landV_agg {ts : List (CD × Nat)} {F : AV → AH → Nat → Prop} : landV h key (.agg ts) F = landL h key ts fun l h' key' => F (.agg l) h' key' := (rfl)
theorem landVs_nil {F : List AV → AH → Prop} : landVs h key [] F = F [] h := (rfl)
theorem landVs_cons {r : RV} {rs : List RV} {F : List AV → AH → Prop} : landVs h key (r :: rs) F = landV h key r fun v h' key' => landVs h' key' rs fun l h'' => F (v :: l) h'' := (rfl)
theorem landR_one {r : RV} {F : AV → AH → Prop} : landR h key (.one r) F = landV h key r fun v h' _ => F v h' := (rfl)
theorem landR_tup {rs : List RV} {F : AV → AH → Prop} : landR h key (.tup rs) F = landVs h key rs fun l h' => F (.tup l) h' := (rfl)

variable {F : AH → Prop} {t : CD × Nat}
@[congr] theorem aOut_cg {x' : AV} (hx : x = x') : aOut h x t F = aOut h x' t F := by rw [hx]
theorem out_v {u : Value} : aOut h (.v u) t F = (t.1 = .v u ∧ F h) := (rfl)
theorem out_nil : aOut h .nil t F = (t.1 = .s [] ∧ 0 < t.2 ∧ F h) := (rfl)
theorem out_sl {k sz off len : Nat} {H : Hd} : aOut h (.sl k H sz off len) t F = wR (h.get k) fun H' sz' rows own => H = H' ∧ sz = sz' ∧ t.2 = sz ∧ 0 < sz ∧ own = true ∧ off + len ≤ rows.length ∧ (∀ row ∈ rows, row.length = sz) ∧ t.1 = .s (cut rows off len) ∧ F ((k, .dead) :: h) := by
  simp only [aOut, wR]; cases h.get k <;> rfl
theorem outL_nil : aOutL h [] [] F = F h := (rfl)
theorem outL_cons {a : AV} {l : List AV} {ts : List (CD × Nat)} : aOutL h (a :: l) (t :: ts) F = aOut h a t fun h' => aOutL h' l ts F := (rfl)
theorem outV_c {d : CD} {sz : Nat} : aOutV h x (.c d sz) F = aOut h x (d, sz) F := (rfl)
theorem outV_agg {l : List AV} {ts : List (CD × Nat)} : aOutV h (.agg l) (.agg ts) F = aOutL h l ts F := (rfl)
theorem outVs_nil : aOutVs h [] [] F = F h := (rfl)
theorem outVs_cons {a : AV} {l : List AV} {r : RV} {rs : List RV} : aOutVs h (a :: l) (r :: rs) F = aOutV h a r fun h' => aOutVs h' l rs F := (rfl)
theorem res_nil {L : List AV → Prop} : aRes E st [] L = L [] := (rfl)
theorem res_tmp {i : Nat} {rs : List ResultVar} {L : List AV → Prop} : aRes E st (.tmp i :: rs) L = aRes E st rs fun l => L (getT st.t i :: l) := (rfl)
theorem res_cell {i : Nat} {t : TypeId} {rs : List ResultVar} {L : List AV → Prop} : aRes E st (.cell i t :: rs) L = aLoad E st.h t (getT st.t i) fun v => aRes E st rs fun l => L (v :: l) := (rfl)
theorem ret_one {r : RV} : retQ h (.one r) [x] = aOutV h x r fun _ => True := (rfl)
theorem ret_tup {rs : List RV} {l : List AV} : retQ h (.tup rs) l = (l.length ≠ 1 ∧ aOutVs h l rs fun _ => True) := (rfl)
variable {rs : List ResultVar} {rr : RR}
theorem body_n : bodyQ E rs rr .normal st = aRes E st rs (retQ st.h rr) := (rfl)
theorem body_r : bodyQ E rs rr .ret st = aRes E st rs (retQ st.h rr) := (rfl)
theorem loop_n {β : Type} {Inv : β → Prop} {I : β → ASt} {μ : β → Nat} {x : β} : loopQ Inv I μ x Q .normal st = ∃ x', Inv x' ∧ μ x' < μ x ∧ Weak st (I x') := (rfl)
theorem loop_r {β : Type} {Inv : β → Prop} {I : β → ASt} {μ : β → Nat} {x : β} : loopQ Inv I μ x Q .ret st = Q .ret st := (rfl)
theorem loop_e {β : Type} {Inv : β → Prop} {I : β → ASt} {μ : β → Nat} {x : β} {i : Nat} : loopQ Inv I μ x Q (.exit i) st = Q (.exit i) st := (rfl)
end calls
end

section weak
def wkT (t : List (Nat × AV)) : List (Nat × AV) → Prop
  | [] => True
  | (i, v) :: l => AVle (getT t i) v ∧ wkT t l
def wkH (h : AH) : AH → Prop
  | [] => True
  | (i, o) :: l => ObjLe (h.get i) o ∧ wkH h l
theorem wkT_eq {t : List (Nat × AV)} : ∀ l : List (Nat × AV), (∀ p ∈ l, AVle (getT t p.1) p.2) = wkT t l
  | [] => by simp [wkT]
  | (i, v) :: l => by simp only [List.mem_cons, forall_eq_or_imp, wkT, wkT_eq l]
theorem wkH_eq {h : AH} : ∀ l : AH, (∀ p ∈ l, ObjLe (h.get p.1) p.2) = wkH h l
  | [] => by simp [wkH]
  | (i, v) :: l => by simp only [List.mem_cons, forall_eq_or_imp, wkH, wkH_eq l]
theorem weak_eq {n kb n' kb' : Nat} {t t' : List (Nat × AV)} {h h' : AH} : Weak ⟨n, kb, t, h⟩ ⟨n', kb', t', h'⟩ = (n = n' ∧ kb = kb' ∧ wkT t t' ∧ wkH h h') := by
  unfold Weak
  simp only [wkT_eq, wkH_eq]
theorem wkT_nil {t : List (Nat × AV)} : wkT t [] = True := (rfl)
theorem wkT_cons {t l : List (Nat × AV)} {i : Nat} {v : AV} : wkT t ((i, v) :: l) = (AVle (getT t i) v ∧ wkT t l) := (rfl)
theorem wkH_nil {h : AH} : wkH h [] = True := (rfl)
theorem wkH_cons {h l : AH} {i : Nat} {o : AObj} : wkH h ((i, o) :: l) = (ObjLe (h.get i) o ∧ wkH h l) := (rfl)
theorem le_any {a : AV} : AVle a .any = True := (rfl)
theorem le_v {a : AV} {u : Value} : AVle a (.v u) = (a = .v u) := (rfl)
theorem le_nil {a : AV} : AVle a .nil = (a = .nil) := (rfl)
theorem le_un {a : AV} : AVle a .un = (a = .un) := (rfl)
theorem le_p {a : AV} {k b c : Nat} : AVle a (.p k b c) = (a = .p k b c) := (rfl)
theorem le_agg {a : AV} {l : List AV} : AVle a (.agg l) = (a = .agg l) := (rfl)
theorem le_tup {a : AV} {l : List AV} : AVle a (.tup l) = (a = .tup l) := (rfl)
theorem le_clo {a : AV} {f : Nat} {l : List AV} : AVle a (.clo f l) = (a = .clo f l) := (rfl)
theorem le_cv {a : AV} {u : Value} {len : Nat} : AVle a (.cv u len) = (a = .cv u len) := (rfl)
theorem le_ml {a : AV} {k sz len : Nat} {H : Hd} : AVle a (.ml k H sz len) = (a = .ml k H sz len) := (rfl)
theorem le_e {a : AV} {k sz r c : Nat} {H : Hd} : AVle a (.e k H sz r c) = (a = .e k H sz r c) := (rfl)
theorem le_sl {a : AV} {k sz off len : Nat} {H : Hd} : AVle a (.sl k H sz off len) = (a = .sl k H sz off len ∨ (a = .nil ∧ H = none ∧ off = 0 ∧ len = 0)) := (rfl)
theorem le_ro {a : AV} {rows : List (List CD)} : AVle a (.ro rows) = (a = .ro rows ∨ (a = .nil ∧ rows = [])) := (rfl)
theorem ole_dead {o : AObj} : ObjLe o .dead = True := (rfl)
theorem ole_vars {b b' : Nat} {t t' : TypeId} {c c' : List AV} : ObjLe (.vars b' t' c') (.vars b t c) = (b' = b ∧ t' = t ∧ ALe c' c) := (rfl)
theorem ole_rows {o : AObj} {H : Hd} {sz : Nat} {rows : List (List CD)} {own : Bool} : ObjLe o (.rows H sz rows own) = (o = .rows H sz rows own ∨ (o = .dead ∧ H = none ∧ rows = [])) := (rfl)
theorem ale_nil : ALe [] [] = True := (rfl)
theorem ale_cons {a b : AV} {l l' : List AV} : ALe (a :: l) (b :: l') = (AVle a b ∧ ALe l l') := (rfl)
end weak

/-- a slice that is filled, cell by cell -/
def fillR {α : Type} (f : α → List CD) (z : List CD) (l : List α) (i : Nat) : List (List CD) := (l.take i).map f ++ List.replicate (l.length - i) z
theorem fillR_0 {α : Type} {f : α → List CD} {z : List CD} {l : List α} : fillR f z l 0 = List.replicate l.length z := by simp [fillR]
theorem fillR_length {α : Type} {f : α → List CD} {z : List CD} {l : List α} {i : Nat} (h : i ≤ l.length) : (fillR f z l i).length = l.length := by simp [fillR]; omega
theorem fillR_all {α : Type} {f : α → List CD} {z : List CD} {l : List α} {i : Nat} (h : l.length ≤ i) : fillR f z l i = l.map f := by
  simp [fillR, List.take_of_length_le h, Nat.sub_eq_zero_of_le h]
theorem fillR_set {α : Type} {f : α → List CD} {z : List CD} {l : List α} {i : Nat} (h : i < l.length) : (fillR f z l i).set i (f l[i]) = fillR f z l (i + 1) := by
  unfold fillR
  obtain ⟨m, hm⟩ : ∃ m, l.length - i = m + 1 := ⟨l.length - i - 1, by omega⟩
  have hl : (List.map f (l.take i)).length = i := by simp; omega
  rw [List.set_append_right _ _ (by omega), hl, Nat.sub_self, hm, List.replicate_succ, List.set_cons_zero, ← List.take_append_getElem h, List.map_append]
  have : l.length - (i + 1) = m := by omega
  simp [this]
theorem row_at {α : Type} {f : α → List CD} {l : List α} {i : Nat} (h : i < l.length) {p : List CD → Prop} : (∀ row, (l.map f)[i]? = some row → p row) = p (f l[i]) := by
  simp [h]

/-- a function is proved by its body; the form that simp computes with -/
theorem PureC.intro' {P : Program} {T : Nat → Option TI} (hT : ∀ t ti, T t = some ti → TIok P t ti) {f : Nat} {fn : Func} {c : Code} (hf : P.funcs[f]? = some fn) (hname : (fn.name == "runtime.NumGoroutine") = false) (hb : fn.body = some c)
    {n : Nat} {rs : List ResultVar} (hn : fn.ntmps = n) (hrs : fn.results = ⟨rs⟩) {args : List VD} {res : RR} (ha : args.length ≤ n)
    (h : ∀ w0 base, aSem ⟨P, T, w0, ⟨base, base, false⟩⟩ c (bodyQ ⟨P, T, w0, ⟨base, base, false⟩⟩ rs res) { n := n, kb := 0, t := argT 0 args, h := [] }) : PureC P f args res := by
  subst hn
  exact PureC.intro hT hf hname hb ha (by rw [hrs]; exact h)

end Go.AM
