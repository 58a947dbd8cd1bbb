/-
  How the machine's questions are computed: rules for simp.
-/
import Derived.Test.YtljhopjmmcmioaaAmS
namespace Go.AM
open Go.RowKit

section
variable {P : Program} {T : Nat → Option TI} {w0 : World} {base : Bs} {E : Env} {Q : Exit → ASt → Prop} {K : ASt → Prop} {st : ASt}

-- nothing is looked into before it is reached
@[congr] theorem aPut_cg {d : Option Nat} {v v' : AV} (h : v = v') : aPut st d v K = aPut st d v' K := by rw [h]
@[congr] theorem ACall_cg (f : Nat) {l l' : List AV} {d : Option Nat} (h : l = l') : ACall E f l st d K = ACall E f l' st d K := by rw [h]

/-- what simp does not look into -/
structure Ph {α : Sort _} (a : α) : Type where
  mk ::
def ph {α : Sort _} (a : α) : Ph a := ⟨⟩

/-- two ways on -/
def Br (b : Bool) {X Y : Prop} (_ : Ph X) (_ : Ph Y) : Prop := (b = true → X) ∧ (b = false → Y)
theorem Br_t {X Y : Prop} {p : Ph X} {q : Ph Y} : Br true p q = X := by simp [Br]
theorem Br_f {X Y : Prop} {p : Ph X} {q : Ph Y} : Br false p q = Y := by simp [Br]
theorem Br_n {b : Bool} {X Y : Prop} {p : Ph X} {q : Ph Y} : Br (!b) p q = Br b q p := by cases b <;> simp [Br]
theorem Br.mk {b : Bool} {X Y : Prop} {p : Ph X} {q : Ph Y} (h : b = true → X) (k : b = false → Y) : Br b p q := ⟨h, k⟩

theorem S_skip : aSem E .skip Q st = Q .normal st := (rfl)
theorem S_region {id : Nat} {l : List Oper} : aSem E (.region id ⟨l⟩ false) Q st = aOps E l l (Q .normal) st := (rfl)
theorem S_draw {id : Nat} {l : List Oper} : aSem E (.region id ⟨l⟩ true) Q st = DrawT E id l Q st := (rfl)
theorem S_seq {x y : Code} : aSem E (.seq x y) Q st = aSem E x (seqQ (aSem E y Q) Q) st := (rfl)
theorem S_cond {c : Operand} {x y : Code} : aSem E (.cond c x y) Q st = aTest (st.ev c) fun b => Br b (ph (aSem E x Q st)) (ph (aSem E y Q st)) := (rfl)
theorem S_block {id : Nat} {x : Code} : aSem E (.block id x) Q st = aSem E x (blkQ id Q) st := (rfl)
theorem S_loop {x : Code} : aSem E (.loop x) Q st = LoopT E x Q st := (rfl)
theorem S_exit {id : Nat} : aSem E (.exit id) Q st = Q (.exit id) st := (rfl)
theorem S_ret : aSem E .ret Q st = Q .ret st := (rfl)

theorem Q_seqn : seqQ K Q .normal st = K st := (rfl)
theorem Q_seqr : seqQ K Q .ret st = Q .ret st := (rfl)
theorem Q_seqe {i : Nat} : seqQ K Q (.exit i) st = Q (.exit i) st := (rfl)
theorem Q_blkn {i : Nat} : blkQ i Q .normal st = Q .normal st := (rfl)
theorem Q_blkr {i : Nat} : blkQ i Q .ret st = Q .ret st := (rfl)
theorem Q_blke {i : Nat} : blkQ i Q (.exit i) st = Q .normal st := by simp [blkQ]
theorem Q_blko {i j : Nat} (h : j ≠ i) : blkQ i Q (.exit j) st = Q (.exit j) st := by simp [blkQ, h]

theorem tt_imp {p : Prop} : (true = true → p) = p := by simp
theorem ff_imp {p : Prop} : (false = false → p) = p := by simp
theorem tf_imp {p : Prop} : (true = false → p) = True := by simp
theorem ft_imp {p : Prop} : (false = true → p) = True := by simp
/-- the guard of an operation is asked -/
def askG (x : AV) (want : Bool) {R S : Prop} (_ : Ph R) (_ : Ph S) : Prop :=
  match x with
  | .v (.bool b) => (b = want → R) ∧ (b = !want → S)
  | .un => S
  | _ => False
def askS (o : Option Nat) (F : Nat → Prop) : Prop :=
  match o with
  | some d => F d
  | none => False
theorem askS_some {d : Nat} {F : Nat → Prop} : askS (some d) F = F d := (rfl)
theorem askG_un {b : Bool} {R S : Prop} {r : Ph R} {s : Ph S} : askG .un b r s = S := (rfl)
theorem askG_true {R S : Prop} {r : Ph R} {s : Ph S} {c : Bool} : askG (.v (.bool c)) true r s = Br c r s := (rfl)
theorem askG_false {R S : Prop} {r : Ph R} {s : Ph S} {c : Bool} : askG (.v (.bool c)) false r s = Br c s r := by simp [askG, Br, And.comm]

theorem O_nil {all : List Oper} : aOps E all [] K st = K st := (rfl)
theorem O_cons {all rest : List Oper} {d : Option Nat} {op : Op} {t : TypeId} {p : String} {af : Array Edge} :
    aOps E all (⟨d, op, t, p, af, none⟩ :: rest) K st = aOp E ⟨d, op, t, p, af, none⟩ st (aOps E all rest K) := (rfl)
theorem O_consg {all rest : List Oper} {d : Option Nat} {op : Op} {t : TypeId} {p : String} {af : Array Edge} {j : Nat} {b : Bool} :
    aOps E all (⟨d, op, t, p, af, some (j, b)⟩ :: rest) K st = askS (gslot all j) fun s => askG (getT st.t s) b (ph (aOp E ⟨d, op, t, p, af, some (j, b)⟩ st (aOps E all rest K))) (ph (aPut st d .un (aOps E all rest K))) := by
  simp only [aOps, aWant, askS, askG]
  cases gslot all j with
  | none => rfl
  | some s => rfl

theorem gslot_0 {d : Option Nat} {op : Op} {t : TypeId} {p : String} {af : Array Edge} {g : Option (Nat × Bool)} {l : List Oper} : gslot (⟨d, op, t, p, af, g⟩ :: l) 0 = d := (rfl)
theorem gslot_s {o : Oper} {l : List Oper} {j : Nat} : gslot (o :: l) (j + 1) = gslot l j := (rfl)

theorem P_none {v : AV} : aPut st none v K = K st := (rfl)
theorem P_any {n kb d : Nat} {t : List (Nat × AV)} {h : AH}  : aPut ⟨n, kb, t, h⟩ (some d) .any K = (d < n ∧ K ⟨n, kb, (d, .any) :: t, h⟩) := (rfl)
theorem P_un {n kb d : Nat} {t : List (Nat × AV)} {h : AH}  : aPut ⟨n, kb, t, h⟩ (some d) .un K = (d < n ∧ K ⟨n, kb, (d, .un) :: t, h⟩) := (rfl)
theorem P_nil {n kb d : Nat} {t : List (Nat × AV)} {h : AH}  : aPut ⟨n, kb, t, h⟩ (some d) .nil K = (d < n ∧ K ⟨n, kb, (d, .nil) :: t, h⟩) := (rfl)
theorem P_v {n kb d : Nat} {t : List (Nat × AV)} {h : AH} {u : Value} : aPut ⟨n, kb, t, h⟩ (some d) (.v u) K = (d < n ∧ K ⟨n, kb, (d, (.v u)) :: t, h⟩) := (rfl)
theorem P_ro {n kb d : Nat} {t : List (Nat × AV)} {h : AH} {r : List (List CD)} : aPut ⟨n, kb, t, h⟩ (some d) (.ro r) K = (d < n ∧ K ⟨n, kb, (d, (.ro r)) :: t, h⟩) := (rfl)
theorem P_sl {n kb d : Nat} {t : List (Nat × AV)} {h : AH} {k sz off len : Nat} {H : Hd} : aPut ⟨n, kb, t, h⟩ (some d) (.sl k H sz off len) K = (d < n ∧ K ⟨n, kb, (d, (.sl k H sz off len)) :: t, h⟩) := (rfl)
theorem P_p {n kb d : Nat} {t : List (Nat × AV)} {h : AH} {k b c : Nat} : aPut ⟨n, kb, t, h⟩ (some d) (.p k b c) K = (d < n ∧ K ⟨n, kb, (d, (.p k b c)) :: t, h⟩) := (rfl)
theorem P_e {n kb d : Nat} {t : List (Nat × AV)} {h : AH} {k sz r c : Nat} {H : Hd} : aPut ⟨n, kb, t, h⟩ (some d) (.e k H sz r c) K = (d < n ∧ K ⟨n, kb, (d, (.e k H sz r c)) :: t, h⟩) := (rfl)
theorem P_rp {n kb d : Nat} {t : List (Nat × AV)} {h : AH} {r : List CD} : aPut ⟨n, kb, t, h⟩ (some d) (.rp r) K = (d < n ∧ K ⟨n, kb, (d, (.rp r)) :: t, h⟩) := (rfl)
theorem P_agg {n kb d : Nat} {t : List (Nat × AV)} {h : AH} {l : List AV} : aPut ⟨n, kb, t, h⟩ (some d) (.agg l) K = (d < n ∧ K ⟨n, kb, (d, (.agg l)) :: t, h⟩) := (rfl)
theorem P_tup {n kb d : Nat} {t : List (Nat × AV)} {h : AH} {l : List AV} : aPut ⟨n, kb, t, h⟩ (some d) (.tup l) K = (d < n ∧ K ⟨n, kb, (d, (.tup l)) :: t, h⟩) := (rfl)
theorem P_cv {n kb d : Nat} {t : List (Nat × AV)} {h : AH} {u : Value} {len : Nat} : aPut ⟨n, kb, t, h⟩ (some d) (.cv u len) K = (d < n ∧ K ⟨n, kb, (d, (.cv u len)) :: t, h⟩) := (rfl)
theorem P_ml {n kb d : Nat} {t : List (Nat × AV)} {h : AH} {k sz len : Nat} {H : Hd} : aPut ⟨n, kb, t, h⟩ (some d) (.ml k H sz len) K = (d < n ∧ K ⟨n, kb, (d, (.ml k H sz len)) :: t, h⟩) := (rfl)
theorem P_clo {n kb d : Nat} {t : List (Nat × AV)} {h : AH} {f : Nat} {l : List AV} : aPut ⟨n, kb, t, h⟩ (some d) (.clo f l) K = (d < n ∧ K ⟨n, kb, (d, (.clo f l)) :: t, h⟩) := (rfl)

theorem G_nil {i : Nat} : getT [] i = .any := (rfl)
theorem G_hit {i : Nat} {v : AV} {t : List (Nat × AV)} : getT ((i, v) :: t) i = v := by simp [getT]
theorem G_miss {i j : Nat} {v : AV} {t : List (Nat × AV)} (h : i ≠ j) : getT ((j, v) :: t) i = getT t i := by simp [getT, h]
theorem A_nil {i : Nat} : AH.get [] i = .dead := (rfl)
theorem A_hit {i : Nat} {v : AObj} {t : AH} : AH.get ((i, v) :: t) i = v := by simp [AH.get]
theorem A_miss {i j : Nat} {v : AObj} {t : AH} (h : i ≠ j) : AH.get ((j, v) :: t) i = AH.get t i := by simp [AH.get, h]

@[congr] theorem ev_cg {x x' : Operand} (h : x = x') : st.ev x = st.ev x' := by rw [h]
theorem ev_tmp {n kb i : Nat} {t : List (Nat × AV)} {h : AH} : ASt.ev ⟨n, kb, t, h⟩ (.tmp i) = getT t i := (rfl)
theorem ev_int {k : IntKind} {i : Int} : st.ev (.const (.int k i)) = .v (.int k i) := (rfl)
theorem ev_bool {b : Bool} : st.ev (.const (.bool b)) = .v (.bool b) := (rfl)
theorem ev_str {b : ByteArray} : st.ev (.const (.string b)) = .v (.string b) := (rfl)
theorem ev_nil : st.ev (.const (.slice none 0 0)) = .nil := (rfl)
theorem ev_func {f : Nat} : st.ev (.func f) = .v (.func (.func f) #[] #[]) := (rfl)
theorem key_some {n kb d : Nat} {t : List (Nat × AV)} {h : AH} : ASt.key ⟨n, kb, t, h⟩ (some d) = kb + 16 * d := (rfl)
theorem key_none {n kb : Nat} {t : List (Nat × AV)} {h : AH} : ASt.key ⟨n, kb, t, h⟩ none = kb := (rfl)

/-- what is known of a type -/
def wT (o : Option TI) (F : TI → Prop) : Prop :=
  match o with
  | some ti => F ti
  | none => False
@[congr] theorem wT_cg {x x' : Option TI} {F : TI → Prop} (h : x = x') : wT x F = wT x' F := by rw [h]
theorem wT_some {ti : TI} {F : TI → Prop} : wT (some ti) F = F ti := (rfl)
def wE (e : Option Nat) (F : Nat → Prop) : Prop :=
  match e with
  | some e => F e
  | none => False
@[congr] theorem wE_cg {x x' : Option Nat} {F : Nat → Prop} (h : x = x') : wE x F = wE x' F := by rw [h]
theorem wE_some {e : Nat} {F : Nat → Prop} : wE (some e) F = F e := (rfl)

theorem elemT_eq {t : Nat} {F : Nat → TI → Prop} : elemT ⟨P, T, w0, base⟩ t F = wT (T t) fun ti => wE ti.sl fun e => wT (T e) (F e) := by
  unfold elemT wT wE
  simp only
  cases T t with
  | none => rfl
  | some ti =>
    simp only
    cases ti.sl with
    | none => rfl
    | some e => simp only; cases T e <;> rfl

section ops
variable {d : Option Nat} {t : TypeId} {p : String} {af : Array Edge} {g : Option (Nat × Bool)} {x y : Operand}
theorem X_move : aOp E ⟨d, .move x, t, p, af, g⟩ st K = aPut st d (st.ev x) K := (rfl)
theorem X_assign : aOp E ⟨d, .assign x, t, p, af, g⟩ st K = aPut st d (st.ev x) K := (rfl)
theorem X_pick {c a b : Operand} : aOp E ⟨d, .pick c a b, t, p, af, g⟩ st K = aTest (st.ev c) fun z => Br z (ph (aPut st d (st.ev a) K)) (ph (aPut st d (st.ev b) K)) := (rfl)
theorem X_build {T' : TypeId} {l : List (Nat × Operand)} : aOp E ⟨d, .build T' ⟨l⟩, t, p, af, g⟩ st K = aBuild E T' (l.map fun q => (q.1, st.ev q.2)) fun v => aPut st d v K := (rfl)
theorem X_load {T' : TypeId} : aOp E ⟨d, .load T' x, t, p, af, g⟩ st K = aLoad E st.h T' (st.ev x) fun v => aPut st d v K := (rfl)
theorem X_nil : aOp E ⟨d, .nilCheck x, t, p, af, g⟩ st K = aNil (st.ev x) fun v => aPut st d v K := (rfl)
theorem X_bin {op : BinOp} {T' U : TypeId} : aOp E ⟨d, .binOp op T' x y U, t, p, af, g⟩ st K = aBin2 E op T' (st.ev x) (st.ev y) fun v => aPut st d v K := (rfl)
theorem X_not {T' : TypeId} : aOp E ⟨d, .unOp .not T' x, t, p, af, g⟩ st K = aTest (st.ev x) fun b => aPut st d (.v (.bool (!b))) K := (rfl)
theorem X_conv {s T' : TypeId} : aOp E ⟨d, .convert s T' x, t, p, af, g⟩ st K = aConv E s T' (st.ev x) fun v => aPut st d v K := (rfl)
theorem X_slice {T' : TypeId} {lo hi : Option Operand} : aOp E ⟨d, .slice T' x lo hi none, t, p, af, g⟩ st K = aSlice E T' (st.ev x) (lo.map st.ev) (hi.map st.ev) fun v => aPut st d v K := (rfl)
theorem X_field {T' : TypeId} {f : Nat} : aOp E ⟨d, .fieldAddr T' x f, t, p, af, g⟩ st K = aField E T' f (st.ev x) fun v => aPut st d v K := (rfl)
theorem X_index {T' : TypeId} : aOp E ⟨d, .indexAddr T' x y, t, p, af, g⟩ st K = elemT E T' fun _ te => indexAt te (st.ev x) (st.ev y) fun v => aPut st d v K := (rfl)
theorem X_idx {T' : TypeId} : aOp E ⟨d, .index T' x y, t, p, af, g⟩ st K = aIdx E T' (st.ev x) (st.ev y) fun v => aPut st d v K := (rfl)
theorem X_extract {i : Nat} : aOp E ⟨d, .extract x i, t, p, af, g⟩ st K = aExtract (st.ev x) i fun v => aPut st d v K := (rfl)
theorem X_alloc {T' : TypeId} : aOp E ⟨d, .alloc T', t, p, af, g⟩ st K = aAlloc E st d T' K := (rfl)
theorem X_box {T' : TypeId} : aOp E ⟨d, .box T' x, t, p, af, g⟩ st K = aBox E st d T' (st.ev x) K := (rfl)
theorem X_bslice {T' : TypeId} {len : Nat} {l : List (Nat × Operand)} : aOp E ⟨d, .buildSlice T' len ⟨l⟩, t, p, af, g⟩ st K = aBuildSlice E st d T' len (l.map fun q => (q.1, st.ev q.2)) K := (rfl)
theorem X_make {T' : TypeId} : aOp E ⟨d, .makeSlice T' x y, t, p, af, g⟩ st K = aMake E st d T' (st.ev x) (st.ev y) K := (rfl)
theorem X_store {T' : TypeId} : aOp E ⟨d, .store T' x y, t, p, af, g⟩ st K = aStore E st T' (st.ev x) (st.ev y) fun st' => aPut st' d .un K := (rfl)
theorem X_len {T' : TypeId} : aOp E ⟨d, .call ⟨.builtin .len, #[x], #[T']⟩, t, p, af, g⟩ st K = aLen E T' (st.ev x) fun v => aPut st d v K := (rfl)
theorem X_append {T' U : TypeId} : aOp E ⟨d, .call ⟨.builtin .append, #[x, y], #[T', U]⟩, t, p, af, g⟩ st K = (T' = U ∧ aAppend E st d T' (st.ev x) (st.ev y) K) := (rfl)
theorem X_min {U1 U2 : TypeId} : aOp E ⟨d, .call ⟨.builtin .min, #[x, y], #[U1, U2]⟩, t, p, af, g⟩ st K = aMin (st.ev x) (st.ev y) fun v => aPut st d v K := (rfl)
theorem X_max {U1 U2 : TypeId} : aOp E ⟨d, .call ⟨.builtin .max, #[x, y], #[U1, U2]⟩, t, p, af, g⟩ st K = aMax (st.ev x) (st.ev y) fun v => aPut st d v K := (rfl)
theorem X_call {f : Nat} {l : List Operand} {ts : List TypeId} : aOp E ⟨d, .call ⟨.value (.func f), ⟨l⟩, ⟨ts⟩⟩, t, p, af, g⟩ st K = ACall E f (l.map st.ev) st d K := (rfl)
end ops

@[congr] theorem aTest_cg {x x' : AV} {F : Bool → Prop} (h : x = x') : aTest x F = aTest x' F := by rw [h]
theorem aTest_v {b : Bool} {F : Bool → Prop} : aTest (.v (.bool b)) F = F b := (rfl)
@[congr] theorem aTwo_cg {x x' y y' : AV} {F : Value → Value → Prop} (h : x = x') (k : y = y') : aTwo x y F = aTwo x' y' F := by rw [h, k]
@[congr] theorem aBin2_cg {E : Env} {op : BinOp} {T : Nat} {x x' y y' : AV} {F : AV → Prop} (h : x = x') (k : y = y') : aBin2 E op T x y F = aBin2 E op T x' y' F := by rw [h, k]
theorem aBin2_v {E : Env} {op : BinOp} {T : Nat} {a b : Value} {F : AV → Prop} : aBin2 E op T (.v a) (.v b) F = aBin (E.isBool T) op a b F := (rfl)
theorem intsOf_nil : intsOf [] = some [] := (rfl)
theorem intsOf_cons {a : Int} {l : List AV} : intsOf (.v (.int .i64 a) :: l) = (intsOf l).map (a :: ·) := (rfl)
theorem aTwo_v {a b : Value} {F : Value → Value → Prop} : aTwo (.v a) (.v b) F = F a b := (rfl)
@[congr] theorem aNil_cg {x x' : AV} {F : AV → Prop} (h : x = x') : aNil x F = aNil x' F := by rw [h]
@[congr] theorem aExtract_cg {x x' : AV} {i : Nat} {F : AV → Prop} (h : x = x') : aExtract x i F = aExtract x' i F := by rw [h]
theorem aExtract_0 {v : AV} {l : List AV} {F : AV → Prop} : aExtract (.tup (v :: l)) 0 F = F v := (rfl)
theorem aExtract_s {v : AV} {l : List AV} {i : Nat} {F : AV → Prop} : aExtract (.tup (v :: l)) (i + 1) F = aExtract (.tup l) i F := (rfl)

/-- a comparison's answer: what it says is looked at last -/
noncomputable def dc (p : Prop) : Bool := @decide p (Classical.propDecidable p)
theorem dc_T : dc True = true := by simp [dc]
theorem dc_F : dc False = false := by simp [dc]
theorem dc_yes {p : Prop} : (dc p = true) = p := by simp [dc]
theorem dc_no {p : Prop} : (dc p = false) = ¬ p := by simp [dc]
theorem of_yes {p : Prop} (h : dc p = true) : p := by simpa [dc] using h
theorem of_no {p : Prop} (h : dc p = false) : ¬ p := by simpa [dc] using h
theorem dc_eq (p : Prop) [Decidable p] : dc p = decide p := by simp [dc]

theorem ba_toList (b : ByteArray) : b.toList = b.data.toList := by
  unfold ByteArray.toList
  have : ∀ (n i : Nat) (r : List UInt8), b.size - i = n → ByteArray.toList.loop b i r = r.reverse ++ b.data.toList.drop i := by
    intro n
    induction n with
    | zero =>
      intro i r h
      rw [ByteArray.toList.loop]
      rw [if_neg (by omega)]
      have : b.data.toList.length ≤ i := by have : b.data.size = b.size := rfl; simp; omega
      rw [List.drop_of_length_le this]; simp
    | succ n ih =>
      intro i r h
      rw [ByteArray.toList.loop]
      rw [if_pos (by omega), ih (i + 1) _ (by omega)]
      have hs : i < b.data.toList.length := by have : b.data.size = b.size := rfl; simp; omega
      rw [List.drop_eq_getElem_cons hs]
      have hg : b.get! i = b.data.toList[i] := by
        show b.data[i]! = _
        have : i < b.data.size := by simpa using hs
        rw [getElem!_pos b.data i this]
        simp
      rw [hg]
      simp
  simpa using this b.size 0 [] (by omega)
theorem str_eq (a b : ByteArray) : (a.toList == b.toList) = dc (a = b) := by
  rw [ba_toList, ba_toList, dc_eq]
  by_cases h : a = b
  · subst h; simp
  · have : a.data.toList ≠ b.data.toList := by
      intro he
      apply h
      cases a; cases b
      simpa using he
    rw [decide_eq_false h]
    exact beq_eq_false_iff_ne.2 this

section bins
variable {k k' : IntKind} {a b : Int} {tb : Prop} {F : AV → Prop} {s u : ByteArray} {x y : Bool}
@[congr] theorem aBin_cg {op : BinOp} {x x' y y' : Value} (h : x = x') (h' : y = y') : aBin tb op x y F = aBin tb op x' y' F := by rw [h, h']
theorem B_add : aBin tb .add (.int k a) (.int k b) F = F (.v (.int k (k.wrap (a + b)))) := by simp [aBin]
theorem B_sub : aBin tb .sub (.int k a) (.int k b) F = F (.v (.int k (k.wrap (a - b)))) := by simp [aBin]
theorem B_mul : aBin tb .mul (.int k a) (.int k b) F = F (.v (.int k (k.wrap (a * b)))) := by simp [aBin]
theorem B_quo : aBin tb .quo (.int k a) (.int k b) F = (b ≠ 0 ∧ F (.v (.int k (k.wrap (a.tdiv b))))) := by simp [aBin]
theorem B_rem : aBin tb .rem (.int k a) (.int k b) F = (b ≠ 0 ∧ F (.v (.int k (a.tmod b)))) := by simp [aBin]
theorem B_and : aBin tb .and (.int k a) (.int k b) F = F (.v (.int k (bits .and k a b))) := by simp [aBin]
theorem B_or : aBin tb .or (.int k a) (.int k b) F = F (.v (.int k (bits .or k a b))) := by simp [aBin]
theorem B_xor : aBin tb .xor (.int k a) (.int k b) F = F (.v (.int k (bits .xor k a b))) := by simp [aBin]
theorem B_shl : aBin tb .shl (.int k a) (.int k' b) F = (0 ≤ b ∧ b ≤ k.bits ∧ F (.v (.int k (k.wrap (a * 2 ^ b.toNat))))) := by simp [aBin]
theorem B_shr : aBin tb .shr (.int k a) (.int k' b) F = (0 ≤ b ∧ b ≤ k.bits ∧ F (.v (.int k (a / 2 ^ b.toNat)))) := by simp [aBin]
theorem B_lss : aBin tb .lss (.int k a) (.int k b) F = F (.v (.bool (dc (a < b)))) := by simp [aBin, dc_eq]
theorem B_leq : aBin tb .leq (.int k a) (.int k b) F = F (.v (.bool (dc (a ≤ b)))) := by simp [aBin, dc_eq]
theorem B_gtr : aBin tb .gtr (.int k a) (.int k b) F = F (.v (.bool (dc (b < a)))) := by simp [aBin, dc_eq]
theorem B_geq : aBin tb .geq (.int k a) (.int k b) F = F (.v (.bool (dc (b ≤ a)))) := by simp [aBin, dc_eq]
theorem B_eql : aBin tb .eql (.int k a) (.int k b) F = F (.v (.bool (dc (a = b)))) := by simp [aBin, dc_eq]
theorem B_neq : aBin tb .neq (.int k a) (.int k b) F = F (.v (.bool (!dc (a = b)))) := by simp [aBin, dc_eq]
theorem b_eq (x y : Bool) : (x == y) = dc (x = y) := by cases x <;> cases y <;> simp [dc]
theorem B_beql : aBin tb .eql (.bool x) (.bool y) F = (tb ∧ F (.v (.bool (dc (x = y))))) := by simp only [aBin, b_eq]
theorem B_bneq : aBin tb .neq (.bool x) (.bool y) F = (tb ∧ F (.v (.bool (!dc (x = y))))) := by simp only [aBin, b_eq]
theorem B_seql : aBin tb .eql (.string s) (.string u) F = F (.v (.bool (dc (s = u)))) := by simp only [aBin, str_eq]
theorem B_sneq : aBin tb .neq (.string s) (.string u) F = F (.v (.bool (!dc (s = u)))) := by simp only [aBin, str_eq]
theorem B_sadd : aBin tb .add (.string s) (.string u) F = (s.size + u.size ≤ 140737488355328 ∧ F (.v (.string (s ++ u)))) := by simp [aBin]
end bins
def wI2 (x y : Option (List Int)) (F : List Int → List Int → Prop) : Prop :=
  match x, y with
  | some a, some b => F a b
  | _, _ => False
theorem wI2_ss {a b : List Int} {F : List Int → List Int → Prop} : wI2 (some a) (some b) F = F a b := (rfl)
@[congr] theorem wI2_cg {x x' y y' : Option (List Int)} {F : List Int → List Int → Prop} (h : x = x') (k : y = y') : wI2 x y F = wI2 x' y' F := by rw [h, k]
theorem aBin2_eql {t : Nat} {l m : List AV} {F : AV → Prop} : aBin2 ⟨P, T, w0, base⟩ .eql t (.agg l) (.agg m) F = wT (T t) fun ti => ti.ieq = true ∧ wI2 (intsOf l) (intsOf m) fun a b => a.length = ti.n ∧ b.length = ti.n ∧ F (.v (.bool (dc (a = b)))) := by
  simp only [aBin2, aEqs, wT, wI2, dc_eq]
  rfl
theorem aBin2_neq {t : Nat} {l m : List AV} {F : AV → Prop} : aBin2 ⟨P, T, w0, base⟩ .neq t (.agg l) (.agg m) F = wT (T t) fun ti => ti.ieq = true ∧ wI2 (intsOf l) (intsOf m) fun a b => a.length = ti.n ∧ b.length = ti.n ∧ F (.v (.bool (!dc (a = b)))) := by
  simp only [aBin2, aEqs, wT, wI2, dc_eq]
  rfl
theorem isBool_eq {t : Nat} : Env.isBool ⟨P, T, w0, base⟩ t = wT (T t) fun ti => ti.boo = true := by
  unfold Env.isBool wT
  simp only
  cases T t <;> rfl
theorem isStr_eq {t : Nat} : Env.isStr ⟨P, T, w0, base⟩ t = wT (T t) fun ti => ti.str = true := by
  unfold Env.isStr wT
  simp only
  cases T t <;> rfl
theorem known_eq {t : Nat} : Env.known ⟨P, T, w0, base⟩ t = wT (T t) fun _ => True := by
  unfold Env.known wT
  simp only
  cases T t <;> rfl

section loads
variable {h : AH} {t : Nat} {x x' y y' : AV} {F : AV → Prop} {ti : TI}
@[congr] theorem aLoad_cg (hx : x = x') : aLoad E h t x F = aLoad E h t x' F := by rw [hx]
theorem aLoad_eq : aLoad ⟨P, T, w0, base⟩ h t x F = wT (T t) fun ti => loadAt ti h x F := by unfold aLoad wT; simp only; cases T t <;> rfl
@[congr] theorem aField_cg {f : Nat} (hx : x = x') : aField E t f x F = aField E t f x' F := by rw [hx]
theorem aField_eq {f : Nat} : aField ⟨P, T, w0, base⟩ t f x F = wT (T t) fun ti => fieldAt ti f x F := by unfold aField wT; simp only; cases T t <;> rfl
@[congr] theorem indexAt_cg (hx : x = x') (hy : y = y') : indexAt ti x y F = indexAt ti x' y' F := by rw [hx, hy]
theorem I_ro {rows : List (List CD)} {k : IntKind} {n : Int} : indexAt ti (.ro rows) (.v (.int k n)) F = (0 ≤ n ∧ n < rows.length ∧ ∀ row, rows[n.toNat]? = some row → row.length = ti.n ∧ F (.rp row)) := (rfl)
theorem I_sl {kk sz off len : Nat} {H : Hd} {k : IntKind} {n : Int} : indexAt ti (.sl kk H sz off len) (.v (.int k n)) F = (0 ≤ n ∧ n < len ∧ sz = ti.n ∧ F (.e kk H sz (off + n.toNat) 0)) := (rfl)
theorem I_ml {kk sz len : Nat} {H : Hd} {k : IntKind} {n : Int} : indexAt ti (.ml kk H sz len) (.v (.int k n)) F = (0 ≤ n ∧ n < len ∧ sz = ti.n ∧ F (.e kk H sz n.toNat 0)) := (rfl)
@[congr] theorem aLen_cg (hx : x = x') : aLen E t x F = aLen E t x' F := by rw [hx]
theorem L_ro {rows : List (List CD)} : aLen E t (.ro rows) F = elemT E t fun _ _ => F (.v (.int .i64 rows.length)) := (rfl)
theorem L_sl {kk sz off len : Nat} {H : Hd} : aLen E t (.sl kk H sz off len) F = elemT E t fun _ _ => F (.v (.int .i64 len)) := (rfl)
theorem L_cv {u : Value} {len : Nat} : aLen E t (.cv u len) F = elemT E t fun _ _ => F (.v (.int .i64 len)) := (rfl)
theorem L_ml {kk sz len : Nat} {H : Hd} : aLen E t (.ml kk H sz len) F = elemT E t fun _ _ => F (.v (.int .i64 len)) := (rfl)
theorem L_nil : aLen E t .nil F = elemT E t fun _ _ => F (.v (.int .i64 0)) := (rfl)
theorem L_str {s : ByteArray} : aLen E t (.v (.string s)) F = (E.isStr t ∧ F (.v (.int .i64 s.size))) := (rfl)
@[congr] theorem loadRow_cg {row row' : List CD} (hr : row = row') : loadRow ti row F = loadRow ti row' F := by rw [hr]
@[congr] theorem loadAt_cg (hx : x = x') : loadAt ti h x F = loadAt ti h x' F := by rw [hx]
theorem D_rp {row : List CD} : loadAt ti h (.rp row) F = loadRow ti row F := (rfl)
theorem loadRow_a {row : List CD} (ha : ti.agg = true) : loadRow ti row F = (ti.n ≤ row.length ∧ F (.agg ((row.take ti.n).map toAV))) := by simp [loadRow, ha]
theorem loadRow_1 {d : CD} {row : List CD} (ha : ti.agg = false) : loadRow ti (d :: row) F = F (toAV d) := by simp [loadRow, ha]
theorem loadVars_a {c : Nat} {cells : List AV} (ha : ti.agg = true) : loadVars ti cells c F = (c + ti.n ≤ cells.length ∧ F (.agg ((cells.drop c).take ti.n))) := by simp [loadVars, ha]
theorem loadVars_1 {c : Nat} {cells : List AV} (ha : ti.agg = false) : loadVars ti cells c F = aExtract (.tup cells) c F := by
  simp only [loadVars, ha, aExtract]
  rfl
/-- a heap's object is asked for -/
def wV (o : AObj) (F : Nat → List AV → Prop) : Prop :=
  match o with
  | .vars b _ cells => F b cells
  | _ => False
def wVT (o : AObj) (F : Nat → TypeId → List AV → Prop) : Prop :=
  match o with
  | .vars b t cells => F b t cells
  | _ => False
def wR (o : AObj) (F : Hd → Nat → List (List CD) → Bool → Prop) : Prop :=
  match o with
  | .rows H sz rows own => F H sz rows own
  | _ => False
@[congr] theorem wV_cg {o o' : AObj} {F : Nat → List AV → Prop} (h : o = o') : wV o F = wV o' F := by rw [h]
@[congr] theorem wVT_cg {o o' : AObj} {F : Nat → TypeId → List AV → Prop} (h : o = o') : wVT o F = wVT o' F := by rw [h]
@[congr] theorem wR_cg {o o' : AObj} {F : Hd → Nat → List (List CD) → Bool → Prop} (h : o = o') : wR o F = wR o' F := by rw [h]
theorem wV_v {b : Nat} {t : TypeId} {c : List AV} {F : Nat → List AV → Prop} : wV (.vars b t c) F = F b c := (rfl)
theorem wVT_v {b : Nat} {t : TypeId} {c : List AV} {F : Nat → TypeId → List AV → Prop} : wVT (.vars b t c) F = F b t c := (rfl)
theorem wR_r {H : Hd} {sz : Nat} {rows : List (List CD)} {own : Bool} {F : Hd → Nat → List (List CD) → Bool → Prop} : wR (.rows H sz rows own) F = F H sz rows own := (rfl)
theorem D_p {k b c : Nat} : loadAt ti h (.p k b c) F = wV (h.get k) fun b' cells => b = b' ∧ loadVars ti cells c F := by
  simp only [loadAt, wV]
  cases h.get k <;> rfl
theorem D_e {k sz r c : Nat} {H : Hd} : loadAt ti h (.e k H sz r c) F = wR (h.get k) fun H' sz' rows _ => H = H' ∧ sz = sz' ∧ r < rows.length ∧ ∀ row, rows[r]? = some row → loadRow ti (row.drop c) F := by
  simp only [loadAt, wR]
  cases h.get k <;> rfl
def wF (o : Option (Nat × Nat)) (F : Nat → Nat → Prop) : Prop :=
  match o with
  | some (a, b) => F a b
  | none => False
@[congr] theorem wF_cg {o o' : Option (Nat × Nat)} {F : Nat → Nat → Prop} (h : o = o') : wF o F = wF o' F := by rw [h]
theorem wF_some {a b : Nat} {F : Nat → Nat → Prop} : wF (some (a, b)) F = F a b := (rfl)
@[congr] theorem fieldAt_cg {f : Nat} (hx : x = x') : fieldAt ti f x F = fieldAt ti f x' F := by rw [hx]
theorem F_p {f k b c : Nat} : fieldAt ti f (.p k b c) F = wF (ti.fields[f]?) fun off _ => F (.p k b (c + off)) := by
  simp only [fieldAt, wF]; cases ti.fields[f]? <;> rfl
theorem F_e {f k sz r c : Nat} {H : Hd} : fieldAt ti f (.e k H sz r c) F = wF (ti.fields[f]?) fun off _ => F (.e k H sz r (c + off)) := by
  simp only [fieldAt, wF]; cases ti.fields[f]? <;> rfl
theorem F_rp {f : Nat} {row : List CD} : fieldAt ti f (.rp row) F = wF (ti.fields[f]?) fun off _ => off ≤ row.length ∧ F (.rp (row.drop off)) := by
  simp only [fieldAt, wF]; cases ti.fields[f]? <;> rfl
theorem toAV_v {u : Value} : toAV (.v u) = .v u := (rfl)
theorem toAV_s {r : List (List CD)} : toAV (.s r) = .ro r := (rfl)
theorem toAV_h {k sz len : Nat} {H : Hd} : toAV (.h k H sz len) = .ml k H sz len := (rfl)
theorem toCD_v {u : Value} : toCD (.v u) = .v u := (rfl)
theorem toCD_nil : toCD .nil = .s [] := (rfl)
@[congr] theorem aConv_cg {s d : Nat} (hx : x = x') : aConv E s d x F = aConv E s d x' F := by rw [hx]
def askK (o : Option IntKind) (F : IntKind → Prop) : Prop :=
  match o with
  | some k => F k
  | none => False
@[congr] theorem askK_cg {o o' : Option IntKind} {F : IntKind → Prop} (h : o = o') : askK o F = askK o' F := by rw [h]
theorem askK_some {k : IntKind} {F : IntKind → Prop} : askK (some k) F = F k := (rfl)
theorem C_int {s d : Nat} {k : IntKind} {n : Int} : aConv ⟨P, T, w0, base⟩ s d (.v (.int k n)) F = ((wT (T s) fun _ => True) ∧ wT (T d) fun ti => askK ti.kind fun k' => F (.v (.int k' (k'.wrap n)))) := by
  simp only [aConv, known_eq]
  congr 1
  unfold wT askK
  cases T d with
  | none => rfl
  | some ti => simp only; cases ti.kind <;> rfl
end loads
end
end Go.AM
