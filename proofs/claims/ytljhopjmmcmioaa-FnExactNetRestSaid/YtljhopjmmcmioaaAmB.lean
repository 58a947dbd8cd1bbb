/-
  The abstract machine: what an operation, a region and a piece of code ask for (computed weakest preconditions).
-/
import Derived.Test.YtljhopjmmcmioaaAmA
namespace Go.AM
open Go.RowKit

/-- what the machine knows of a type -/
structure TI where
  agg : Bool := false
  n : Nat := 1
  zero : List AV
  fields : List (Nat × Nat) := []
  sl : Option Nat := none
  bytes : Nat
  kind : Option IntKind := none
  pln : Bool := true
  str : Bool := false
  boo : Bool := false
  ieq : Bool := false

structure Env where
  P : Program
  T : Nat → Option TI
  w0 : World
  base : Bs

def cAV : Value → AV
  | .int k n => .v (.int k n)
  | .bool b => .v (.bool b)
  | .string s => .v (.string s)
  | .slice none 0 0 => .nil
  | _ => .any

def ASt.ev (st : ASt) : Operand → AV
  | .tmp t => getT st.t t
  | .const v => cAV v
  | .func f => .v (.func (.func f) #[] #[])
  | .global _ => .any

def toAV : CD → AV
  | .v u => .v u
  | .s rows => .ro rows
  | .h k H sz len => .ml k H sz len

def toCD : AV → CD
  | .v u => .v u
  | _ => .s []

def aPut (st : ASt) (d : Option Nat) (v : AV) (K : ASt → Prop) : Prop :=
  match d with
  | none => K st
  | some d => d < st.n ∧ K { st with t := (d, v) :: st.t }

/-- the state behind an operation -/
def ASt.aft (st : ASt) (d : Option Nat) (av : AV) (h : AH) : ASt :=
  match d with
  | none => { st with h := h }
  | some d => { st with h := h, t := (d, av) :: st.t }

def ASt.key (st : ASt) (d : Option Nat) : Nat :=
  match d with
  | none => st.kb
  | some d => st.kb + 16 * d

def Env.isBool (E : Env) (T : Nat) : Prop :=
  match E.T T with
  | some ti => ti.boo = true
  | none => False

def Env.isStr (E : Env) (T : Nat) : Prop :=
  match E.T T with
  | some ti => ti.str = true
  | none => False

def Env.known (E : Env) (T : Nat) : Prop :=
  match E.T T with
  | some _ => True
  | none => False

def aBin (tb : Prop) (op : BinOp) (x y : Value) (K : AV → Prop) : Prop :=
  match op, x, y with
  | .add, .int k a, .int k' b => k = k' ∧ K (.v (.int k (k.wrap (a + b))))
  | .sub, .int k a, .int k' b => k = k' ∧ K (.v (.int k (k.wrap (a - b))))
  | .mul, .int k a, .int k' b => k = k' ∧ K (.v (.int k (k.wrap (a * b))))
  | .quo, .int k a, .int k' b => k = k' ∧ b ≠ 0 ∧ K (.v (.int k (k.wrap (a.tdiv b))))
  | .rem, .int k a, .int k' b => k = k' ∧ b ≠ 0 ∧ K (.v (.int k (a.tmod b)))
  | .and, .int k a, .int k' b => k = k' ∧ K (.v (.int k (bits .and k a b)))
  | .or, .int k a, .int k' b => k = k' ∧ K (.v (.int k (bits .or k a b)))
  | .xor, .int k a, .int k' b => k = k' ∧ K (.v (.int k (bits .xor k a b)))
  | .shl, .int k a, .int _ b => 0 ≤ b ∧ b ≤ k.bits ∧ K (.v (.int k (k.wrap (a * 2 ^ b.toNat))))
  | .shr, .int k a, .int _ b => 0 ≤ b ∧ b ≤ k.bits ∧ K (.v (.int k (a / 2 ^ b.toNat)))
  | .lss, .int k a, .int k' b => k = k' ∧ K (.v (.bool (decide (a < b))))
  | .leq, .int k a, .int k' b => k = k' ∧ K (.v (.bool (decide (a ≤ b))))
  | .gtr, .int k a, .int k' b => k = k' ∧ K (.v (.bool (decide (b < a))))
  | .geq, .int k a, .int k' b => k = k' ∧ K (.v (.bool (decide (b ≤ a))))
  | .eql, .int k a, .int k' b => k = k' ∧ K (.v (.bool (decide (a = b))))
  | .neq, .int k a, .int k' b => k = k' ∧ K (.v (.bool (!decide (a = b))))
  | .eql, .bool a, .bool b => tb ∧ K (.v (.bool (a == b)))
  | .neq, .bool a, .bool b => tb ∧ K (.v (.bool (!(a == b))))
  | .add, .string a, .string b => a.size + b.size ≤ 140737488355328 ∧ K (.v (.string (a ++ b)))
  | .eql, .string a, .string b => K (.v (.bool (a.toList == b.toList)))
  | .neq, .string a, .string b => K (.v (.bool (!(a.toList == b.toList))))
  | .lss, .string a, .string b => K (.v (.bool (Op.bytesLess a.toList b.toList)))
  | .geq, .string a, .string b => K (.v (.bool (!Op.bytesLess a.toList b.toList)))
  | .gtr, .string a, .string b => K (.v (.bool (!(Op.bytesLess a.toList b.toList || a.toList == b.toList))))
  | .leq, .string a, .string b => K (.v (.bool (Op.bytesLess a.toList b.toList || a.toList == b.toList)))
  | _, _, _ => False

def loadRow (ti : TI) (row : List CD) (K : AV → Prop) : Prop :=
  if ti.agg then ti.n ≤ row.length ∧ K (.agg ((row.take ti.n).map toAV))
  else match row with
    | d :: _ => K (toAV d)
    | [] => False

def loadVars (ti : TI) (cells : List AV) (c : Nat) (K : AV → Prop) : Prop :=
  if ti.agg then c + ti.n ≤ cells.length ∧ K (.agg ((cells.drop c).take ti.n))
  else match cells[c]? with
    | some av => K av
    | none => False

def loadAt (ti : TI) (h : AH) (x : AV) (K : AV → Prop) : Prop :=
  match x with
  | .p k b c => match h.get k with
    | .vars b' _ cells => b = b' ∧ loadVars ti cells c K
    | _ => False
  | .e k H sz r c => match h.get k with
    | .rows H' sz' rows _ => H = H' ∧ sz = sz' ∧ r < rows.length ∧ ∀ row, rows[r]? = some row → loadRow ti (row.drop c) K
    | _ => False
  | .rp row => loadRow ti row K
  | _ => False

def aLoad (E : Env) (h : AH) (T : Nat) (x : AV) (K : AV → Prop) : Prop :=
  match E.T T with
  | some ti => loadAt ti h x K
  | none => False

def indexAt (te : TI) (x i : AV) (K : AV → Prop) : Prop :=
  match x, i with
  | .ro rows, .v (.int _ n) => 0 ≤ n ∧ n < rows.length ∧ ∀ row, rows[n.toNat]? = some row → row.length = te.n ∧ K (.rp row)
  | .sl k H sz off len, .v (.int _ n) => 0 ≤ n ∧ n < len ∧ sz = te.n ∧ K (.e k H sz (off + n.toNat) 0)
  | .ml k H sz len, .v (.int _ n) => 0 ≤ n ∧ n < len ∧ sz = te.n ∧ K (.e k H sz n.toNat 0)
  | _, _ => False

def elemT (E : Env) (T : Nat) (K : Nat → TI → Prop) : Prop :=
  match E.T T with
  | some ti => match ti.sl with
    | some e => match E.T e with
      | some te => K e te
      | none => False
    | none => False
  | none => False

def aLen (E : Env) (T : Nat) (x : AV) (K : AV → Prop) : Prop :=
  match x with
  | .ro rows => elemT E T fun _ _ => K (.v (.int .i64 rows.length))
  | .sl _ _ _ _ len => elemT E T fun _ _ => K (.v (.int .i64 len))
  | .cv _ len => elemT E T fun _ _ => K (.v (.int .i64 len))
  | .ml _ _ _ len => elemT E T fun _ _ => K (.v (.int .i64 len))
  | .nil => elemT E T fun _ _ => K (.v (.int .i64 0))
  | .v (.string s) => E.isStr T ∧ K (.v (.int .i64 s.size))
  | _ => False

def fieldAt (ti : TI) (f : Nat) (x : AV) (K : AV → Prop) : Prop :=
  match ti.fields[f]? with
  | some (off, _) => match x with
    | .p k b c => K (.p k b (c + off))
    | .e k H sz r c => K (.e k H sz r (c + off))
    | .rp row => off ≤ row.length ∧ K (.rp (row.drop off))
    | _ => False
  | none => False

def aField (E : Env) (T f : Nat) (x : AV) (K : AV → Prop) : Prop :=
  match E.T T with
  | some ti => fieldAt ti f x K
  | none => False

/-- cells c, c+1, .. are written over -/
def putL {α : Type} : List α → Nat → List α → List α
  | l, _, [] => l
  | [], _, _ :: _ => []
  | _ :: l, 0, v :: vs => v :: putL l 0 vs
  | x :: l, c + 1, v :: vs => x :: putL l c (v :: vs)

def AV.cells : AV → List AV
  | .agg l => l
  | x => [x]

/-- a value of one cell -/
def AV.one : AV → Bool
  | .nil => true
  | AV.v _ => true
  | .ro _ => true
  | .sl .. => true
  | .p .. => true
  | AV.e .. => true
  | .rp _ => true
  | .clo .. => true
  | .cv .. => true
  | .ml .. => true
  | _ => false

def fillA (fields : List (Nat × Nat)) (cells : List AV) (parts : List (Nat × AV)) (K : List AV → Prop) : Prop :=
  match parts with
  | [] => K cells
  | (i, v) :: rest => match fields[i]? with
    | some (off, n) => v.cells.length = n ∧ off + n ≤ cells.length ∧ (v.cells.all AV.one) = true ∧ fillA fields (putL cells off v.cells) rest K
    | none => False

def aBuild (E : Env) (T : Nat) (parts : List (Nat × AV)) (K : AV → Prop) : Prop :=
  match E.T T with
  | some ti => ti.agg = true ∧ fillA ti.fields ti.zero parts (fun l => K (.agg l))
  | none => False

def aConv (E : Env) (s d : Nat) (x : AV) (K : AV → Prop) : Prop :=
  E.known s ∧ match E.T d with
  | some ti => match ti.kind, x with
    | some k, .v (.int _ n) => K (.v (.int k (k.wrap n)))
    | _, _ => False
  | none => False


def aMin (x y : AV) (K : AV → Prop) : Prop :=
  match x, y with
  | .v (.int k a), .v (.int _ b) => K (.v (.int k (if b < a then b else a)))
  | _, _ => False

def aMax (x y : AV) (K : AV → Prop) : Prop :=
  match x, y with
  | .v (.int k a), .v (.int _ b) => K (.v (.int k (if a < b then b else a)))
  | _, _ => False

def cut {α : Type} (rows : List α) (off len : Nat) : List α := if off = 0 ∧ len = rows.length then rows else (rows.drop off).take len

/-- an optional bound of a slice expression -/
def bound (x : Option AV) (z : Nat) (K : Nat → Prop) : Prop :=
  match x with
  | none => K z
  | some (.v (.int _ n)) => 0 ≤ n ∧ K n.toNat
  | _ => False

def aSlice (E : Env) (T : Nat) (x : AV) (lo hi : Option AV) (K : AV → Prop) : Prop :=
  match x with
  | .ro rows => elemT E T fun _ te => (∀ row ∈ rows, row.length = te.n) ∧ bound hi rows.length fun h => h ≤ rows.length ∧ bound lo 0 fun l => l ≤ h ∧ K (.ro (cut rows l (h - l)))
  | .sl k H sz off len => elemT E T fun _ te => sz = te.n ∧ bound hi len fun h => h ≤ len ∧ bound lo 0 fun l => l ≤ h ∧ K (.sl k H sz (off + l) (h - l))
  | .v (.string s) => E.isStr T ∧ bound hi s.size fun h => h ≤ s.size ∧ bound lo 0 fun l => l ≤ h ∧ K (.v (.string (s.extract l h)))
  | _ => False

def aIdx (E : Env) (T : Nat) (x i : AV) (K : AV → Prop) : Prop :=
  match x, i with
  | .v (.string s), .v (.int _ n) => E.isStr T ∧ 0 ≤ n ∧ ∃ h : n.toNat < s.size, K (.v (.int .u8 (s[n.toNat]'h).toNat))
  | _, _ => False

def aTest (x : AV) (K : Bool → Prop) : Prop :=
  match x with
  | .v (.bool b) => K b
  | _ => False

def aNil (x : AV) (K : AV → Prop) : Prop :=
  match x with
  | .p .. => K x
  | AV.e .. => K x
  | .rp _ => K x
  | .clo .. => K x
  | .v (.func (.func f) a b) => K (.v (.func (.func f) a b))
  | _ => False

def aExtract (x : AV) (i : Nat) (K : AV → Prop) : Prop :=
  match x with
  | .tup l => match l[i]? with
    | some v => K v
    | none => False
  | _ => False

def aTwo (x y : AV) (K : Value → Value → Prop) : Prop :=
  match x, y with
  | .v a, .v b => K a b
  | _, _ => False

def intsOf : List AV → Option (List Int)
  | [] => some []
  | .v (.int .i64 a) :: l => (intsOf l).map (a :: ·)
  | _ => none

/-- two structs of integers -/
def aEqs (E : Env) (op : BinOp) (T : Nat) (l m : List AV) (K : AV → Prop) : Prop :=
  match E.T T with
  | some ti => ti.ieq = true ∧ match intsOf l, intsOf m with
    | some a, some b => a.length = ti.n ∧ b.length = ti.n ∧ match op with
      | .eql => K (.v (.bool (decide (a = b))))
      | .neq => K (.v (.bool (!decide (a = b))))
      | _ => False
    | _, _ => False
  | none => False

def aBin2 (E : Env) (op : BinOp) (T : Nat) (x y : AV) (K : AV → Prop) : Prop :=
  match x, y with
  | .v a, .v b => aBin (E.isBool T) op a b K
  | .agg l, .agg m => aEqs E op T l m K
  | _, _ => False

/-- the operations that only compute -/
def aPure (E : Env) (st : ASt) (op : Op) (K : AV → Prop) : Prop :=
  match op with
  | .move x | .assign x => K (st.ev x)
  | .pick c a b => aTest (st.ev c) fun t => (t = true → K (st.ev a)) ∧ (t = false → K (st.ev b))
  | .build T parts => aBuild E T (parts.toList.map fun q => (q.1, st.ev q.2)) K
  | .load T x => aLoad E st.h T (st.ev x) K
  | .nilCheck x => aNil (st.ev x) K
  | .binOp op T x y _ => aBin2 E op T (st.ev x) (st.ev y) K
  | .unOp .not _ x => aTest (st.ev x) fun b => K (.v (.bool (!b)))
  | .convert s d x => aConv E s d (st.ev x) K
  | .makeFunc (.func f) first caps => first.toList = [] ∧ K (.clo f (caps.toList.map st.ev))
  | .slice T x lo hi none => aSlice E T (st.ev x) (lo.map st.ev) (hi.map st.ev) K
  | .fieldAddr T x f => aField E T f (st.ev x) K
  | .indexAddr T x i => elemT E T fun _ te => indexAt te (st.ev x) (st.ev i) K
  | .index T x i => aIdx E T (st.ev x) (st.ev i) K
  | .extract x i => aExtract (st.ev x) i K
  | _ => False

/-- a value becomes data: what is owned is handed over -/
def aFrz (h : AH) (x : AV) (K : CD → AH → Bool → Prop) : Prop :=
  match x with
  | .v u => K (.v u) h true
  | .nil => K (.s []) h true
  | .ro rows => K (.s rows) h false
  | .sl k H sz off len => match h.get k with
    | .rows H' sz' rows own => H = H' ∧ sz = sz' ∧ off + len ≤ rows.length ∧ K (.s (cut rows off len)) ((k, .dead) :: h) own
    | _ => False
  | _ => False

def aFrzL (h : AH) (l : List AV) (K : List CD → AH → Bool → Prop) : Prop :=
  match l with
  | [] => K [] h true
  | a :: l => aFrz h a fun d h' o => aFrzL h' l fun ds h'' o' => K (d :: ds) h'' (o && o')

/-- a value is read as data -/
def aRd (h : AH) (x : AV) (K : CD → Prop) : Prop :=
  match x with
  | .v u => K (.v u)
  | .nil => K (.s [])
  | .ro rows => K (.s rows)
  | .sl k H sz off len => match h.get k with
    | .rows H' sz' rows _ => H = H' ∧ sz = sz' ∧ off + len ≤ rows.length ∧ K (.s (cut rows off len))
    | _ => False
  | _ => False

def aRdL (h : AH) (l : List AV) (K : List CD → Prop) : Prop :=
  match l with
  | [] => K []
  | a :: l => aRd h a fun d => aRdL h l fun ds => K (d :: ds)

def aStore (E : Env) (st : ASt) (T : Nat) (x y : AV) (K : ASt → Prop) : Prop :=
  match E.T T with
  | some ti => y.cells.length = ti.n ∧ (y.cells.all AV.one) = true ∧ match x with
    | .p k b c => match st.h.get k with
      | .vars b' T' cells => b = b' ∧ c + y.cells.length ≤ cells.length ∧ K { st with h := (k, .vars b T' (putL cells c y.cells)) :: st.h }
      | _ => False
    | .e k H sz r c => aFrzL st.h y.cells fun ds h o => match h.get k with
      | .rows H' sz' rows own => H = H' ∧ sz = sz' ∧ r < rows.length ∧ c + ds.length ≤ sz ∧
          K { st with h := (k, .rows H sz (if c = 0 ∧ ds.length = sz then rows.set r ds else rows.modify r fun row => putL row c ds) (own && o)) :: h }
      | _ => False
    | _ => False
  | none => False

def isV : CD → Bool
  | .v _ => true
  | _ => false

/-- what is appended: the rows, what is handed over, whether all of it is the call's own -/
def aNews (te : TI) (h : AH) (x : AV) (K : List (List CD) → AH → Bool → Prop) : Prop :=
  match x with
  | .nil => K [] h true
  | .ro rows => (∀ row ∈ rows, row.length = te.n) ∧ (te.pln = true → ∀ row ∈ rows, ∀ d ∈ row, isV d = true) ∧ K rows h te.pln
  | .sl k H sz off len => match h.get k with
    | .rows H' sz' rows own => H = H' ∧ sz = sz' ∧ sz = te.n ∧ off + len ≤ rows.length ∧
        if te.pln then (∀ row ∈ rows, ∀ d ∈ row, isV d = true) ∧ K (cut rows off len) h true else K (cut rows off len) ((k, .dead) :: h) own
    | _ => False
  | _ => False

def aAppend (E : Env) (st : ASt) (dst : Option Nat) (T : Nat) (s x : AV) (K : ASt → Prop) : Prop :=
  elemT E T fun _ te => 0 < te.bytes ∧ 0 < te.n ∧
    match s with
    | .nil => aNews te st.h x fun news h o => news.length * te.bytes ≤ 140737488355328 ∧
        ∀ H, aPut { st with h := (st.key dst, .rows H te.n news o) :: h } dst (.sl (st.key dst) H te.n 0 news.length) K
    | .sl k H0 sz off len => aNews te st.h x fun news h o => match h.get k with
      | .rows H' sz' rows own => H0 = H' ∧ sz = sz' ∧ sz = te.n ∧ off = 0 ∧ len = rows.length ∧ (len + news.length) * te.bytes ≤ 140737488355328 ∧
          ∀ H, aPut { st with h := (k, .rows H te.n (rows ++ news) (own && o)) :: h } dst (.sl k H te.n 0 (len + news.length)) K
      | _ => False
    | _ => False

def aRows (te : TI) (h : AH) (parts : List (Nat × AV)) (i : Nat) (K : List (List CD) → AH → Bool → Prop) : Prop :=
  match parts with
  | [] => K [] h true
  | (j, v) :: rest => j = i ∧ v.cells.length = te.n ∧ (v.cells.all AV.one) = true ∧
      aFrzL h v.cells fun ds h' o => aRows te h' rest (i + 1) fun rs h'' o' => K (ds :: rs) h'' (o && o')

def aBuildSlice (E : Env) (st : ASt) (dst : Option Nat) (T len : Nat) (parts : List (Nat × AV)) (K : ASt → Prop) : Prop :=
  elemT E T fun _ te => 0 < te.n ∧ len = parts.length ∧ len * te.n ≤ 16777216 ∧ aRows te st.h parts 0 fun rs h o =>
    ∀ b, aPut { st with h := (st.key dst, .rows (some (b, 0, len)) te.n rs o) :: h } dst (.sl (st.key dst) (some (b, 0, len)) te.n 0 len) K

def aMake (E : Env) (st : ASt) (dst : Option Nat) (T : Nat) (l c : AV) (K : ASt → Prop) : Prop :=
  elemT E T fun _ te => 0 < te.n ∧ 0 < te.bytes ∧ aTwo l c fun x y => match x, y with
    | .int .i64 n, .int .i64 m => n = m ∧ 0 ≤ n ∧ n * te.bytes ≤ 140737488355328 ∧
        ∀ b, aPut { st with h := (st.key dst, .rows (some (b, 0, n.toNat)) te.n (List.replicate n.toNat (te.zero.map toCD)) true) :: st.h } dst (.sl (st.key dst) (some (b, 0, n.toNat)) te.n 0 n.toNat) K
    | _, _ => False

def aAlloc (E : Env) (st : ASt) (dst : Option Nat) (T : Nat) (K : ASt → Prop) : Prop :=
  match E.T T with
  | some ti => ∀ b, aPut { st with h := (st.key dst, .vars b T ti.zero) :: st.h } dst (.p (st.key dst) b 0) K
  | none => False

def aBox (E : Env) (st : ASt) (dst : Option Nat) (T : Nat) (x : AV) (K : ASt → Prop) : Prop :=
  match E.T T with
  | some _ => (x.cells.all AV.one) = true ∧ ∀ b, aPut { st with h := (st.key dst, .vars b T x.cells) :: st.h } dst (.p (st.key dst) b 0) K
  | none => False

/-- the function has a text of its own -/
def FnOk (P : Program) (f : Nat) : Prop := ∃ fn, P.funcs[f]? = some fn ∧ (fn.name == "runtime.NumGoroutine") = false ∧ fn.body.isNone = false

def ACall (E : Env) (f : Nat) (args : List AV) (st : ASt) (dst : Option Nat) (K : ASt → Prop) : Prop :=
  FnOk E.P f ∧ ∀ a w, Rep E.w0 E.base st a w → ∀ xs : Array Value, xs.size = args.length → (∀ i av, args[i]? = some av → VRel w st.h.M av (xs.getD i undef)) →
    Calls E.P f xs w fun e w' => ∃ v av h', e = .returned v ∧ K (st.aft dst av h') ∧ Rep E.w0 E.base (st.aft dst av h') (a.put dst v) w' ∧ (E.base.loose = false → Tr st.h.M w h'.M w') ∧ VRel w' h'.M av v

def aCall (E : Env) (st : ASt) (dst : Option Nat) (c : Call) (K : ASt → Prop) : Prop :=
  match c.callee, c.args.toList, c.argTypes.toList with
  | .builtin .len, [x], [T] => aLen E T (st.ev x) fun v => aPut st dst v K
  | .builtin .min, [x, y], _ => aMin (st.ev x) (st.ev y) fun v => aPut st dst v K
  | .builtin .max, [x, y], _ => aMax (st.ev x) (st.ev y) fun v => aPut st dst v K
  | .builtin .append, [s, x], [T, T'] => T = T' ∧ aAppend E st dst T (st.ev s) (st.ev x) K
  | .value (.func f), args, _ => ACall E f (args.map st.ev) st dst K
  | .value (.tmp t), args, _ => match getT st.t t with
    | .clo f caps => ACall E f (args.map st.ev ++ caps) st dst K
    | .v (.func (.func f) _ _) => ACall E f (args.map st.ev) st dst K
    | _ => False
  | _, _, _ => False

def aOp (E : Env) (o : Oper) (st : ASt) (K : ASt → Prop) : Prop :=
  match o.op with
  | .alloc T => aAlloc E st o.dst T K
  | .box T x => aBox E st o.dst T (st.ev x) K
  | .buildSlice T len parts => aBuildSlice E st o.dst T len (parts.toList.map fun q => (q.1, st.ev q.2)) K
  | .makeSlice T l c => aMake E st o.dst T (st.ev l) (st.ev c) K
  | .store T x y => aStore E st T (st.ev x) (st.ev y) fun st' => aPut st' o.dst .un K
  | .call c => aCall E st o.dst c K
  | op => aPure E st op fun v => aPut st o.dst v K

def gslot (all : List Oper) (j : Nat) : Option Nat := (all[j]?).bind (·.dst)

/-- is the operation wanted? what it looks at is a bool, or was left out itself -/
def aWant (all : List Oper) (o : Oper) (st : ASt) (run skip : Prop) : Prop :=
  match o.guard with
  | none => run
  | some (j, want) => match gslot all j with
    | some d => match getT st.t d with
      | .v (.bool b) => (b = want → run) ∧ (b = !want → skip)
      | .un => skip
      | _ => False
    | none => False

def aOps (E : Env) (all : List Oper) : List Oper → (ASt → Prop) → ASt → Prop
  | [], K, st => K st
  | o :: rest, K, st => aWant all o st (aOp E o st (aOps E all rest K)) (aPut st o.dst .un (aOps E all rest K))

/-- a loop, a region that draws its order: met by laws of their own -/
def LoopT (E : Env) (body : Code) (Q : Exit → ASt → Prop) (st : ASt) : Prop :=
  ∀ a w, Rep E.w0 E.base st a w → (Code.loop body).wp E.P (fun e a' w' => ∃ st', Q e st' ∧ Rep E.w0 E.base st' a' w') a w

def DrawT (E : Env) (id : Nat) (ops : List Oper) (Q : Exit → ASt → Prop) (st : ASt) : Prop :=
  ∀ a w, Rep E.w0 E.base st a w → (Code.region id ops.toArray true).wp E.P (fun e a' w' => ∃ st', Q e st' ∧ Rep E.w0 E.base st' a' w') a w

def seqQ (K : ASt → Prop) (Q : Exit → ASt → Prop) : Exit → ASt → Prop
  | .normal, st => K st
  | e, st => Q e st

def blkQ (id : Nat) (Q : Exit → ASt → Prop) : Exit → ASt → Prop
  | .exit j, st => if j = id then Q .normal st else Q (.exit j) st
  | e, st => Q e st

def aSem (E : Env) : Code → (Exit → ASt → Prop) → ASt → Prop
  | .skip, Q, st => Q .normal st
  | .region id ops draw, Q, st => if draw then DrawT E id ops.toList Q st else aOps E ops.toList ops.toList (Q .normal) st
  | .seq x y, Q, st => aSem E x (seqQ (aSem E y Q) Q) st
  | .cond c x y, Q, st => aTest (st.ev c) fun b => (b = true → aSem E x Q st) ∧ (b = false → aSem E y Q st)
  | .block id x, Q, st => aSem E x (blkQ id Q) st
  | .loop x, Q, st => LoopT E x Q st
  | .exit id, Q, st => Q (.exit id) st
  | .ret, Q, st => Q .ret st
  | _, _, _ => False

end Go.AM
