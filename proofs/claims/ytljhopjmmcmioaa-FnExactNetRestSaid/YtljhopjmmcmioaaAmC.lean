/-
  The abstract machine is sound: the operations that only compute.
-/
import Derived.Test.YtljhopjmmcmioaaAmB
namespace Go.AM
open Go.RowKit

def zv : AV → Value
  | .v u => u
  | _ => .slice none 0 0

structure TIok (P : Program) (t : Nat) (ti : TI) : Prop where
  info : ∃ i z, P.info? t = some i ∧ i.size = ti.n ∧ i.bytes = ti.bytes ∧ i.zero = some z ∧ z.cells.toList = ti.zero.map zv ∧ (ti.agg = true → ∃ cs, z = .agg cs)
  zok : ∀ av ∈ ti.zero, av = .nil ∨ ∃ u, av = .v u ∧ plain u = true
  zlen : ti.zero.length = ti.n
  npos : 0 < ti.n
  st : ti.agg = true → ∃ fs : Array Field, P.underlying t = some (.struct fs) ∧ fs.toList.mapM (fun f => (P.info? f.type).map fun i => (f.offset, i.size)) = some ti.fields ∧
    ∀ p ∈ ti.fields, 0 < p.2 ∧ p.1 + p.2 ≤ ti.n
  nst : ti.agg = false → ti.fields = [] ∧ ti.n = 1 ∧ ∃ d, P.underlying t = some d ∧ (∀ fs, d ≠ .struct fs) ∧ (∀ n e, d ≠ .array n e)
  sl : ∀ e, ti.sl = some e → P.underlying t = some (.slice e)
  kd : ∀ k, ti.kind = some k → P.underlying t = some (.int k)
  str : ti.str = true → P.underlying t = some .string
  boo : ti.boo = true → P.underlying t = some .bool
  ieq : ti.ieq = true → ∃ fs : Array Field, P.underlying t = some (.struct fs) ∧ P.stoodInHeld t = false ∧ P.eqGuardType P.depth t = false ∧ fs.toList.map (·.offset) = List.range ti.n ∧ ∀ f ∈ fs.toList, f.name ≠ "_" ∧ P.underlying f.type = some (.int .i64)

theorem mapM_get {P : Program} : ∀ (fs : List Field) (ps : List (Nat × Nat)), fs.mapM (fun f => (P.info? f.type).map fun i => (f.offset, i.size)) = some ps →
    ∀ (k : Nat) (p : Nat × Nat), ps[k]? = some p → ∃ (f : Field) (j : TypeInfo), fs[k]? = some f ∧ f.offset = p.1 ∧ P.info? f.type = some j ∧ j.size = p.2
  | [], ps, h, k, p, hk => by simp at h; subst h; simp at hk
  | f :: fs, ps, h, k, p, hk => by
    simp only [List.mapM_cons, Option.bind_eq_bind, Option.pure_def] at h
    cases hi : P.info? f.type with
    | none => simp [hi] at h
    | some i =>
      cases hr : fs.mapM (fun f => (P.info? f.type).map fun i => (f.offset, i.size)) with
      | none => simp [hi, hr] at h
      | some rest =>
        simp [hi, hr] at h
        subst h
        cases k with
        | zero => simp at hk; subst hk; exact ⟨f, i, rfl, rfl, hi, rfl⟩
        | succ k => simpa using mapM_get fs rest hr k p (by simpa using hk)

def EOk (E : Env) : Prop := ∀ t ti, E.T t = some ti → TIok E.P t ti

theorem plain_one {u : Value} (h : plain u = true) : u.oneCell' = true := by
  cases u <;> simp [plain, Value.oneCell'] at h ⊢

theorem VRel.ev {w0 : World} {base : Bs} {st : ASt} {a : Act} {w : World} (hR : Rep w0 base st a w) (x : Operand) : VRel w st.h.M (st.ev x) (a.eval x) := by
  cases x with
  | tmp t => exact hR.tmp t
  | const v =>
    show VRel w st.h.M (cAV v) v
    cases v with
    | int k n => exact .v _ rfl
    | bool b => exact .v _ rfl
    | string s => exact .v _ rfl
    | slice a l c =>
      unfold cAV
      split <;> first | exact .any _ | (rename_i heq; first | (cases heq; exact .nil) | (exfalso; simp at heq))
    | _ => exact .any _
  | global g => exact .any _
  | func f => exact .v _ rfl

theorem cell_of {w : World} {b : Nat} {cs : Array Value} {T : TypeId} {fr : Nat × Nat} (hb : w.heap[b]? = some (.cells cs T fr)) {j : Nat} (hj : j < cs.size) :
    w.cell? ⟨b, j, none⟩ = some (cs.getD j undef) := by
  simp [World.cell?, hb, hj]

theorem add_plain (b o n : Nat) : (⟨b, o, none⟩ : Addr).add n = ⟨b, o + n, none⟩ := by
  unfold Addr.add; split <;> simp_all

theorem run_load_of {P : Program} {w : World} {b : Nat} {cs : Array Value} {T : TypeId} {fr : Nat × Nat} (hb : w.heap[b]? = some (.cells cs T fr)) {j : Nat} (hj : j < cs.size) (m : Mode) :
    (load ⟨b, j, none⟩ m).run P w = .ok (cs.getD j undef) w := by
  rw [run_load, cell_of hb hj]

theorem run_loadN {P : Program} {w : World} {b : Nat} {cs : Array Value} {T : TypeId} {fr : Nat × Nat} (hb : w.heap[b]? = some (.cells cs T fr)) {o n : Nat} (hj : o + n ≤ cs.size) :
    (loadCells ⟨b, o, none⟩ n).run P w = .ok ((List.range n).map fun j => cs.getD (o + j) undef).toArray w := by
  rw [run_loadCells w ⟨b, o, none⟩ n (fun j => cs.getD (o + j) undef) (fun j hj' => by rw [add_plain]; exact cell_of hb (by omega))]

theorem run_isAgg_true {P : Program} {t : TypeId} {fs : Array Field} (h : P.underlying t = some (.struct fs)) (w : World) : (isAgg t).run P w = .ok true w := by
  simp [isAgg, run_underlying h]

theorem run_isAgg_false {P : Program} {t : TypeId} {d : TypeDesc} (h : P.underlying t = some d) (h1 : ∀ fs, d ≠ .struct fs) (h2 : ∀ n e, d ≠ .array n e) (w : World) :
    (isAgg t).run P w = .ok false w := by
  cases d <;> first | (exact absurd rfl (h1 _)) | (exact absurd rfl (h2 _ _)) | simp [isAgg, run_underlying h]

theorem run_sizeOf' {P : Program} {t : TypeId} {i : TypeInfo} (h : P.info? t = some i) (w : World) : (sizeOf t).run P w = .ok i.size w := by
  simp [sizeOf, typeInfo, h]

/-- a variable is loaded out of cells that are known -/
theorem run_loadVar_of {P : Program} {T : Nat} {ti : TI} (ht : TIok P T ti) {w : World} {b o : Nat} {cs : Array Value} {T' : TypeId} {fr : Nat × Nat}
    (hb : w.heap[b]? = some (.cells cs T' fr)) (hfit : o + ti.n ≤ cs.size) :
    (loadVar T ⟨b, o, none⟩).run P w = .ok (if ti.agg then .agg ((List.range ti.n).map fun j => cs.getD (o + j) undef).toArray else cs.getD o undef) w := by
  obtain ⟨i, z, hi, hs, -⟩ := ht.info
  cases hg : ti.agg with
  | true =>
    obtain ⟨fs, hf, -⟩ := ht.st hg
    simp [loadVar, run_isAgg_true hf, run_sizeOf' hi, hs, run_loadN hb hfit]
  | false =>
    obtain ⟨-, hn, d, hd, h1, h2⟩ := ht.nst hg
    have := cell_of hb (show o < cs.size by omega)
    simp [loadVar, run_isAgg_false hd h1 h2, this]

theorem toAV_rel {w : World} {M : Nat → Prop} {u : Value} {d : CD} (h : Rd w false (fun b => ¬ M b) u d) : VRel w M (toAV d) u := by
  cases d with
  | v u' => cases h with | plain h => exact .v _ h
  | s rows => exact .ro _ _ h
  | h k H sz len => exact .ml _ _ _ _ _ h.mlv

theorem loadRow_sound {w : World} {M : Nat → Prop} {b o : Nat} {cs : Array Value} {T : TypeId} {fr : Nat × Nat} {row : List CD} (hfit : o + row.length ≤ cs.size)
    (hr : ∀ j d, row[j]? = some d → Rd w false (fun b => ¬ M b) (cs.getD (o + j) undef) d) {P : Program} {t : Nat} {ti : TI} (ht : TIok P t ti)
    (hb : w.heap[b]? = some (.cells cs T fr)) {K : AV → Prop} (h : loadRow ti row K) :
    ∃ v av, (loadVar t ⟨b, o, none⟩).run P w = .ok v w ∧ VRel w M av v ∧ K av := by
  unfold loadRow at h
  split at h
  · rename_i hg
    obtain ⟨hn, hK⟩ := h
    refine ⟨_, _, run_loadVar_of ht hb (by omega), ?_, hK⟩
    rw [if_pos hg]
    refine .agg _ _ (by simp; omega) ?_
    intro j av hj
    simp only [List.getElem?_map, Option.map_eq_some_iff, List.getElem?_take] at hj
    obtain ⟨d, hd, rfl⟩ := hj
    split at hd
    · rename_i hlt
      have := toAV_rel (hr j d hd)
      simpa [hlt] using this
    · exact absurd hd (by simp)
  · rename_i hg
    cases row with
    | nil => exact h.elim
    | cons d rest =>
      have hag : ti.agg = false := by simpa using hg
      obtain ⟨-, hn, -⟩ := ht.nst hag
      refine ⟨_, _, run_loadVar_of ht hb (by simp at hfit; omega), ?_, h⟩
      rw [hag]
      simpa using toAV_rel (hr 0 d rfl)

theorem loadAt_sound {w : World} {base : Bs} {hp : AH} {Es : Nat → Nat → Prop} (hH : HRel base hp w Es) {P : Program} {t : Nat} {ti : TI} (ht : TIok P t ti) {x : AV} {u : Value}
    (hx : VRel w hp.M x u) {K : AV → Prop} (h : loadAt ti hp x K) :
    ∃ v av, (Instr.loadAt t u).run P w = .ok v w ∧ VRel w hp.M av v ∧ K av := by
  unfold loadAt at h
  split at h
  · rename_i k b c
    cases hx
    have ho := hH.obj k
    split at h
    · rename_i b' T cells hget
      obtain ⟨rfl, h⟩ := h
      rw [hget] at ho
      obtain ⟨cs, hb, hs, hc⟩ := ho
      unfold loadVars at h
      split at h
      · rename_i hg
        obtain ⟨hn, hK⟩ := h
        refine ⟨_, _, by simpa [Instr.loadAt, Instr.sureAddr] using run_loadVar_of (P := P) ht hb (o := c) (by omega), ?_, hK⟩
        rw [if_pos hg]
        refine .agg _ _ (by simp; omega) ?_
        intro j av hj
        rw [List.getElem?_take] at hj
        split at hj
        · rename_i hlt
          rw [List.getElem?_drop] at hj
          simpa [hlt] using hc _ _ hj
        · exact absurd hj (by simp)
      · rename_i hg
        have hag : ti.agg = false := by simpa using hg
        obtain ⟨-, hn, -⟩ := ht.nst hag
        split at h
        · rename_i av hav
          have hlt : c < cells.length := (List.getElem?_eq_some_iff.1 hav).1
          refine ⟨_, _, by simpa [Instr.loadAt, Instr.sureAddr] using run_loadVar_of (P := P) ht hb (o := c) (by omega), ?_, h⟩
          rw [hag]
          simpa using hc _ _ hav
        · exact h.elim
    · exact h.elim
  · rename_i k H sz r c
    have ho := hH.obj k
    split at h
    · rename_i H' sz' rows own hget
      obtain ⟨rfl, rfl, hlt, h⟩ := h
      rw [hget] at ho
      cases hx with
      | e k b o C sz r c =>
        obtain ⟨cs, T', F, hb, hlen, hC, hsz, hfit, hrl, hF, hd, hr⟩ := ho
        have hrow : rows[r]? = some rows[r] := List.getElem?_eq_getElem hlt
        have h := h _ hrow
        have hle : r * sz + sz ≤ C * sz := by
          have := Nat.mul_le_mul_right sz (show r + 1 ≤ C by omega)
          rw [Nat.add_mul, Nat.one_mul] at this
          exact this
        have hl : (rows[r]).length = sz := hrl _ (List.getElem_mem hlt)
        by_cases hc : c ≤ sz
        · have := loadRow_sound (M := hp.M) (b := b) (o := o + r * sz + c) (cs := cs) (row := (rows[r]).drop c) (w := w) (by simp only [List.length_drop, hl]; omega) ?_ ht hb h
          · obtain ⟨v, av, h1, h2, h3⟩ := this
            exact ⟨v, av, by simpa [Instr.loadAt, Instr.sureAddr] using h1, h2, h3⟩
          · intro j d hj
            rw [List.getElem?_drop] at hj
            have := (hr r (c + j) _ d hrow hj).weaken.map (fun _ _ _ => rfl) (fun q hq _ => (hF _ _ _ hq).2)
            have e : o + r * sz + c + j = o + (r * sz + (c + j)) := by omega
            rw [e]
            exact this
        · exfalso
          have : (rows[r]).drop c = [] := List.drop_eq_nil_of_le (by omega)
          rw [this] at h
          unfold loadRow at h
          split at h
          · rename_i hg
            have hn := h.1
            have hz := ht.npos
            simp at hn
            omega
          · exact h
    · exact h.elim
  · rename_i row
    cases hx with
    | rp row b o cs T fr hM hb hfit hr =>
      obtain ⟨v, av, h1, h2, h3⟩ := loadRow_sound hfit hr ht hb h
      exact ⟨v, av, by simpa [Instr.loadAt, Instr.sureAddr] using h1, h2, h3⟩
  · exact h.elim

end Go.AM
