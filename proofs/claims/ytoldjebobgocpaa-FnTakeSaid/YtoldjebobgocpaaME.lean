import Derived.Test.YtoldjebobgocpaaMD
namespace Go.AM
open Go.RowKit
section
variable {P : Program} {T : Nat→Option TI} {w0 : World} {base : Bs} {E : Env} {Q : Exit→ASt→Prop} {K : ASt→Prop} {st : ASt}
@[congr] theorem aPut_cg {d : Option Nat} {v v' : AV} (h : v = v') : aPut st d v K = aPut st d v' K:=by rw [h]
@[congr] theorem ACall_cg (f : Nat) {l l' : List AV} {d : Option Nat} (h : l = l') : ACall E f l st d K = ACall E f l' st d K:=by rw [h]
structure Ph {α : Sort _} (a : α) : Type where
 mk ::
def ph {α : Sort _} (a : α) : Ph a:=⟨⟩
def Br (b : Bool) {X Y : Prop} (_ : Ph X) (_ : Ph Y) : Prop:=(b = true→X)∧(b = false→Y)
theorem Br_t {X Y : Prop} {p : Ph X} {q : Ph Y} : Br true p q = X:=by simp [Br]
theorem Br_f {X Y : Prop} {p : Ph X} {q : Ph Y} : Br false p q = Y:=by simp [Br]
theorem Br_n {b : Bool} {X Y : Prop} {p : Ph X} {q : Ph Y} : Br (!b) p q = Br b q p:=by cases b<;>simp [Br]
theorem Br.mk {b : Bool} {X Y : Prop} {p : Ph X} {q : Ph Y} (h : b = true→X) (k : b = false→Y) : Br b p q:=⟨h,k⟩
theorem S_skip : aSem E .skip Q st = Q .normal st:=(rfl)
theorem S_region {id : Nat} {l : List Oper} : aSem E (.region id ⟨l⟩ false) Q st = aOps E l l (Q .normal) st:=(rfl)
theorem S_draw {id : Nat} {l : List Oper} : aSem E (.region id ⟨l⟩ true) Q st = DrawT E id l Q st:=(rfl)
theorem S_seq {x y : Code} : aSem E (.seq x y) Q st = aSem E x (seqQ (aSem E y Q) Q) st:=(rfl)
theorem S_cond {c : Operand} {x y : Code} : aSem E (.cond c x y) Q st = aTest (st.ev c) fun b=>Br b (ph (aSem E x Q st)) (ph (aSem E y Q st)):=(rfl)
theorem S_block {id : Nat} {x : Code} : aSem E (.block id x) Q st = aSem E x (blkQ id Q) st:=(rfl)
theorem S_loop {x : Code} : aSem E (.loop x) Q st = LoopT E x Q st:=(rfl)
theorem S_exit {id : Nat} : aSem E (.exit id) Q st = Q (.exit id) st:=(rfl)
theorem S_ret : aSem E .ret Q st = Q .ret st:=(rfl)
theorem Q_seqn : seqQ K Q .normal st = K st:=(rfl)
theorem Q_seqr : seqQ K Q .ret st = Q .ret st:=(rfl)
theorem Q_seqe {i : Nat} : seqQ K Q (.exit i) st = Q (.exit i) st:=(rfl)
theorem Q_blkn {i : Nat} : blkQ i Q .normal st = Q .normal st:=(rfl)
theorem Q_blkr {i : Nat} : blkQ i Q .ret st = Q .ret st:=(rfl)
theorem Q_blke {i : Nat} : blkQ i Q (.exit i) st = Q .normal st:=by simp [blkQ]
theorem Q_blko {i j : Nat} (h : j≠i) : blkQ i Q (.exit j) st = Q (.exit j) st:=by simp [blkQ,h]
def askG (x : AV) (want : Bool) {R S : Prop} (_ : Ph R) (_ : Ph S) : Prop:=
 match x with
 | .v (.bool b)=>(b = want→R)∧(b = !want→S)
 | .un=>S
 | _=>False
def askS (o : Option Nat) (F : Nat→Prop) : Prop:=
 match o with
 | some d=>F d
 | none=>False
theorem askS_some {d : Nat} {F : Nat→Prop} : askS (some d) F = F d:=(rfl)
theorem askG_un {b : Bool} {R S : Prop} {r : Ph R} {s : Ph S} : askG .un b r s = S:=(rfl)
theorem askG_true {R S : Prop} {r : Ph R} {s : Ph S} {c : Bool} : askG (.v (.bool c)) true r s = Br c r s:=(rfl)
theorem askG_false {R S : Prop} {r : Ph R} {s : Ph S} {c : Bool} : askG (.v (.bool c)) false r s = Br c s r:=by simp [askG,Br,And.comm]
theorem O_nil {all : List Oper} : aOps E all [] K st = K st:=(rfl)
theorem O_cons {all rest : List Oper} {d : Option Nat} {op : Op} {t : TypeId} {p : String} {af : Array Edge} :
 aOps E all (⟨d,op,t,p,af,none⟩ :: rest) K st = aOp E ⟨d,op,t,p,af,none⟩ st (aOps E all rest K):=(rfl)
theorem O_consg {all rest : List Oper} {d : Option Nat} {op : Op} {t : TypeId} {p : String} {af : Array Edge} {j : Nat} {b : Bool} :
 aOps E all (⟨d,op,t,p,af,some (j,b)⟩ :: rest) K st = askS (gslot all j) fun s=>askG (getT st.t s) b (ph (aOp E ⟨d,op,t,p,af,some (j,b)⟩ st (aOps E all rest K))) (ph (aPut st d .un (aOps E all rest K))):=by
 simp only [aOps,aWant,askS,askG]
 cases gslot all j with
 | none=>rfl
 | some s=>rfl
theorem gslot_0 {d : Option Nat} {op : Op} {t : TypeId} {p : String} {af : Array Edge} {g : Option (Nat × Bool)} {l : List Oper} : gslot (⟨d,op,t,p,af,g⟩ :: l) 0 = d:=(rfl)
theorem gslot_s {o : Oper} {l : List Oper} {j : Nat} : gslot (o :: l) (j + 1) = gslot l j:=(rfl)
theorem P_none {v : AV} : aPut st none v K = K st:=(rfl)
theorem P_any {n kb d : Nat} {t : List (Nat × AV)} {h : AH}  : aPut ⟨n,kb,t,h⟩ (some d) .any K = (d < n∧K ⟨n,kb,(d,.any) :: t,h⟩):=(rfl)
theorem P_un {n kb d : Nat} {t : List (Nat × AV)} {h : AH}  : aPut ⟨n,kb,t,h⟩ (some d) .un K = (d < n∧K ⟨n,kb,(d,.un) :: t,h⟩):=(rfl)
theorem P_nil {n kb d : Nat} {t : List (Nat × AV)} {h : AH}  : aPut ⟨n,kb,t,h⟩ (some d) .nil K = (d < n∧K ⟨n,kb,(d,.nil) :: t,h⟩):=(rfl)
theorem P_v {n kb d : Nat} {t : List (Nat × AV)} {h : AH} {u : Value} : aPut ⟨n,kb,t,h⟩ (some d) (.v u) K = (d < n∧K ⟨n,kb,(d,(.v u)) :: t,h⟩):=(rfl)
theorem P_ro {n kb d : Nat} {t : List (Nat × AV)} {h : AH} {r : List (List CD)} : aPut ⟨n,kb,t,h⟩ (some d) (.ro r) K = (d < n∧K ⟨n,kb,(d,(.ro r)) :: t,h⟩):=(rfl)
theorem P_sl {n kb d : Nat} {t : List (Nat × AV)} {h : AH} {k sz off len : Nat} {H : Hd} : aPut ⟨n,kb,t,h⟩ (some d) (.sl k H sz off len) K = (d < n∧K ⟨n,kb,(d,(.sl k H sz off len)) :: t,h⟩):=(rfl)
theorem P_p {n kb d : Nat} {t : List (Nat × AV)} {h : AH} {k b c : Nat} : aPut ⟨n,kb,t,h⟩ (some d) (.p k b c) K = (d < n∧K ⟨n,kb,(d,(.p k b c)) :: t,h⟩):=(rfl)
theorem P_e {n kb d : Nat} {t : List (Nat × AV)} {h : AH} {k sz r c : Nat} {H : Hd} : aPut ⟨n,kb,t,h⟩ (some d) (.e k H sz r c) K = (d < n∧K ⟨n,kb,(d,(.e k H sz r c)) :: t,h⟩):=(rfl)
theorem P_rp {n kb d : Nat} {t : List (Nat × AV)} {h : AH} {r : List CD} : aPut ⟨n,kb,t,h⟩ (some d) (.rp r) K = (d < n∧K ⟨n,kb,(d,(.rp r)) :: t,h⟩):=(rfl)
theorem P_agg {n kb d : Nat} {t : List (Nat × AV)} {h : AH} {l : List AV} : aPut ⟨n,kb,t,h⟩ (some d) (.agg l) K = (d < n∧K ⟨n,kb,(d,(.agg l)) :: t,h⟩):=(rfl)
theorem P_tup {n kb d : Nat} {t : List (Nat × AV)} {h : AH} {l : List AV} : aPut ⟨n,kb,t,h⟩ (some d) (.tup l) K = (d < n∧K ⟨n,kb,(d,(.tup l)) :: t,h⟩):=(rfl)
theorem P_cv {n kb d : Nat} {t : List (Nat × AV)} {h : AH} {u : Value} {len : Nat} : aPut ⟨n,kb,t,h⟩ (some d) (.cv u len) K = (d < n∧K ⟨n,kb,(d,(.cv u len)) :: t,h⟩):=(rfl)
theorem P_ml {n kb d : Nat} {t : List (Nat × AV)} {h : AH} {k sz len : Nat} {H : Hd} : aPut ⟨n,kb,t,h⟩ (some d) (.ml k H sz len) K = (d < n∧K ⟨n,kb,(d,(.ml k H sz len)) :: t,h⟩):=(rfl)
theorem P_clo {n kb d : Nat} {t : List (Nat × AV)} {h : AH} {f : Nat} {l : List AV} : aPut ⟨n,kb,t,h⟩ (some d) (.clo f l) K = (d < n∧K ⟨n,kb,(d,(.clo f l)) :: t,h⟩):=(rfl)
theorem G_nil {i : Nat} : getT [] i = .any:=(rfl)
theorem G_hit {i : Nat} {v : AV} {t : List (Nat × AV)} : getT ((i,v) :: t) i = v:=by simp [getT]
theorem G_miss {i j : Nat} {v : AV} {t : List (Nat × AV)} (h : i≠j) : getT ((j,v) :: t) i = getT t i:=by simp [getT,h]
theorem A_nil {i : Nat} : AH.get [] i = .dead:=(rfl)
theorem A_hit {i : Nat} {v : AObj} {t : AH} : AH.get ((i,v) :: t) i = v:=by simp [AH.get]
theorem A_miss {i j : Nat} {v : AObj} {t : AH} (h : i≠j) : AH.get ((j,v) :: t) i = AH.get t i:=by simp [AH.get,h]
@[congr] theorem ev_cg {x x' : Operand} (h : x = x') : st.ev x = st.ev x':=by rw [h]
theorem ev_tmp {n kb i : Nat} {t : List (Nat × AV)} {h : AH} : ASt.ev ⟨n,kb,t,h⟩ (.tmp i) = getT t i:=(rfl)
theorem ev_int {k : IntKind} {i : Int} : st.ev (.const (.int k i)) = .v (.int k i):=(rfl)
theorem ev_bool {b : Bool} : st.ev (.const (.bool b)) = .v (.bool b):=(rfl)
theorem ev_str {b : ByteArray} : st.ev (.const (.string b)) = .v (.string b):=(rfl)
theorem ev_nil : st.ev (.const (.slice none 0 0)) = .nil:=(rfl)
theorem ev_func {f : Nat} : st.ev (.func f) = .v (.func (.func f) #[] #[]):=(rfl)
theorem key_some {n kb d : Nat} {t : List (Nat × AV)} {h : AH} : ASt.key ⟨n,kb,t,h⟩ (some d) = kb + 16 * d:=(rfl)
theorem key_none {n kb : Nat} {t : List (Nat × AV)} {h : AH} : ASt.key ⟨n,kb,t,h⟩ none = kb:=(rfl)
def wT (o : Option TI) (F : TI→Prop) : Prop:=
 match o with
 | some ti=>F ti
 | none=>False
@[congr] theorem wT_cg {x x' : Option TI} {F : TI→Prop} (h : x = x') : wT x F = wT x' F:=by rw [h]
theorem wT_some {ti : TI} {F : TI→Prop} : wT (some ti) F = F ti:=(rfl)
def wE (e : Option Nat) (F : Nat→Prop) : Prop:=
 match e with
 | some e=>F e
 | none=>False
@[congr] theorem wE_cg {x x' : Option Nat} {F : Nat→Prop} (h : x = x') : wE x F = wE x' F:=by rw [h]
theorem wE_some {e : Nat} {F : Nat→Prop} : wE (some e) F = F e:=(rfl)
theorem elemT_eq {t : Nat} {F : Nat→TI→Prop} : elemT ⟨P,T,w0,base⟩ t F = wT (T t) fun ti=>wE ti.sl fun e=>wT (T e) (F e):=by
 unfold elemT wT wE;simp only
 cases T t with
 | none=>rfl
 | some ti=>
   simp only
   cases ti.sl with
   | none=>rfl
   | some e=>simp only;cases T e<;>rfl
section ops
variable {d : Option Nat} {t : TypeId} {p : String} {af : Array Edge} {g : Option (Nat × Bool)} {x y : Operand}
theorem X_move : aOp E ⟨d,.move x,t,p,af,g⟩ st K = aPut st d (st.ev x) K:=(rfl)
theorem X_assign : aOp E ⟨d,.assign x,t,p,af,g⟩ st K = aPut st d (st.ev x) K:=(rfl)
theorem X_pick {c a b : Operand} : aOp E ⟨d,.pick c a b,t,p,af,g⟩ st K = aTest (st.ev c) fun z=>Br z (ph (aPut st d (st.ev a) K)) (ph (aPut st d (st.ev b) K)):=(rfl)
theorem X_build {T' : TypeId} {l : List (Nat × Operand)} : aOp E ⟨d,.build T' ⟨l⟩,t,p,af,g⟩ st K = aBuild E T' (l.map fun q=>(q.1,st.ev q.2)) fun v=>aPut st d v K:=(rfl)
theorem X_load {T' : TypeId} : aOp E ⟨d,.load T' x,t,p,af,g⟩ st K = aLoad E st.h T' (st.ev x) fun v=>aPut st d v K:=(rfl)
theorem X_nil : aOp E ⟨d,.nilCheck x,t,p,af,g⟩ st K = aNil (st.ev x) fun v=>aPut st d v K:=(rfl)
theorem X_bin {op : BinOp} {T' U : TypeId} : aOp E ⟨d,.binOp op T' x y U,t,p,af,g⟩ st K = aBin2 E op T' (st.ev x) (st.ev y) fun v=>aPut st d v K:=(rfl)
theorem X_not {T' : TypeId} : aOp E ⟨d,.unOp .not T' x,t,p,af,g⟩ st K = aTest (st.ev x) fun b=>aPut st d (.v (.bool (!b))) K:=(rfl)
theorem X_conv {s T' : TypeId} : aOp E ⟨d,.convert s T' x,t,p,af,g⟩ st K = aConv2 E st.h s T' (st.ev x) fun v=>aPut st d v K:=(rfl)
theorem X_slice3 {T' : TypeId} {lo hi : Option Operand} {mx : Operand} : aOp E ⟨d,.slice T' x lo hi (some mx),t,p,af,g⟩ st K = aSlice3 E T' (st.ev x) (lo.map st.ev) (hi.map st.ev) (st.ev mx) fun v=>aPut st d v K:=(rfl)
theorem X_slice {T' : TypeId} {lo hi : Option Operand} : aOp E ⟨d,.slice T' x lo hi none,t,p,af,g⟩ st K = aSlice E T' (st.ev x) (lo.map st.ev) (hi.map st.ev) fun v=>aPut st d v K:=(rfl)
theorem X_field {T' : TypeId} {f : Nat} : aOp E ⟨d,.fieldAddr T' x f,t,p,af,g⟩ st K = aField E T' f (st.ev x) fun v=>aPut st d v K:=(rfl)
theorem X_fieldV {T' : TypeId} {f : Nat} : aOp E ⟨d,.field T' x f,t,p,af,g⟩ st K = aFieldV E T' f (st.ev x) fun v=>aPut st d v K:=(rfl)
theorem X_index {T' : TypeId} : aOp E ⟨d,.indexAddr T' x y,t,p,af,g⟩ st K = elemT E T' fun _ te=>aCv E (st.ev x) fun z=>indexAt te z (st.ev y) fun v=>aPut st d v K:=(rfl)
theorem X_idx {T' : TypeId} : aOp E ⟨d,.index T' x y,t,p,af,g⟩ st K = aIdx E T' (st.ev x) (st.ev y) fun v=>aPut st d v K:=(rfl)
theorem X_extract {i : Nat} : aOp E ⟨d,.extract x i,t,p,af,g⟩ st K = aExtract (st.ev x) i fun v=>aPut st d v K:=(rfl)
theorem X_alloc {T' : TypeId} : aOp E ⟨d,.alloc T',t,p,af,g⟩ st K = aAlloc E st d T' K:=(rfl)
theorem X_box {T' : TypeId} : aOp E ⟨d,.box T' x,t,p,af,g⟩ st K = aBox E st d T' (st.ev x) K:=(rfl)
theorem X_bslice {T' : TypeId} {len : Nat} {l : List (Nat × Operand)} : aOp E ⟨d,.buildSlice T' len ⟨l⟩,t,p,af,g⟩ st K = aBuildSlice E st d T' len (l.map fun q=>(q.1,st.ev q.2)) K:=(rfl)
theorem X_make {T' : TypeId} : aOp E ⟨d,.makeSlice T' x y,t,p,af,g⟩ st K = aMake E st d T' (st.ev x) (st.ev y) K:=(rfl)
theorem X_store {T' : TypeId} : aOp E ⟨d,.store T' x y,t,p,af,g⟩ st K = aStore E st T' (st.ev x) (st.ev y) fun st'=>aPut st' d .un K:=(rfl)
theorem X_len {T' : TypeId} : aOp E ⟨d,.call ⟨.builtin .len,#[x],#[T']⟩,t,p,af,g⟩ st K = aLen E T' (st.ev x) fun v=>aPut st d v K:=(rfl)
theorem X_append {T' U : TypeId} : aOp E ⟨d,.call ⟨.builtin .append,#[x,y],#[T',U]⟩,t,p,af,g⟩ st K = (T' = U∧aAppend E st d T' (st.ev x) (st.ev y) K):=(rfl)
theorem X_min {U1 U2 : TypeId} : aOp E ⟨d,.call ⟨.builtin .min,#[x,y],#[U1,U2]⟩,t,p,af,g⟩ st K = aMin (st.ev x) (st.ev y) fun v=>aPut st d v K:=(rfl)
theorem X_max {U1 U2 : TypeId} : aOp E ⟨d,.call ⟨.builtin .max,#[x,y],#[U1,U2]⟩,t,p,af,g⟩ st K = aMax (st.ev x) (st.ev y) fun v=>aPut st d v K:=(rfl)
theorem X_call {f : Nat} {l : List Operand} {ts : List TypeId} : aOp E ⟨d,.call ⟨.value (.func f),⟨l⟩,⟨ts⟩⟩,t,p,af,g⟩ st K = ACall E f (l.map st.ev) st d K:=(rfl)
end ops
@[congr] theorem aTest_cg {x x' : AV} {F : Bool→Prop} (h : x = x') : aTest x F = aTest x' F:=by rw [h]
theorem aTest_v {b : Bool} {F : Bool→Prop} : aTest (.v (.bool b)) F = F b:=(rfl)
@[congr] theorem aTwo_cg {x x' y y' : AV} {F : Value→Value→Prop} (h : x = x') (k : y = y') : aTwo x y F = aTwo x' y' F:=by rw [h,k]
@[congr] theorem aBin2_cg {E : Env} {op : BinOp} {T : Nat} {x x' y y' : AV} {F : AV→Prop} (h : x = x') (k : y = y') : aBin2 E op T x y F = aBin2 E op T x' y' F:=by rw [h,k]
theorem aBin2_v {E : Env} {op : BinOp} {T : Nat} {a b : Value} {F : AV→Prop} : aBin2 E op T (.v a) (.v b) F = aBin (E.isBool T) op a b F:=(rfl)
theorem intsOf_nil : intsOf [] = some []:=(rfl)
theorem intsOf_cons {a : Int} {l : List AV} : intsOf (.v (.int .i64 a) :: l) = (intsOf l).map (a :: ·):=(rfl)
theorem aTwo_v {a b : Value} {F : Value→Value→Prop} : aTwo (.v a) (.v b) F = F a b:=(rfl)
@[congr] theorem aNil_cg {x x' : AV} {F : AV→Prop} (h : x = x') : aNil x F = aNil x' F:=by rw [h]
@[congr] theorem aExtract_cg {x x' : AV} {i : Nat} {F : AV→Prop} (h : x = x') : aExtract x i F = aExtract x' i F:=by rw [h]
theorem aExtract_0 {v : AV} {l : List AV} {F : AV→Prop} : aExtract (.tup (v :: l)) 0 F = F v:=(rfl)
theorem aExtract_s {v : AV} {l : List AV} {i : Nat} {F : AV→Prop} : aExtract (.tup (v :: l)) (i + 1) F = aExtract (.tup l) i F:=(rfl)
noncomputable def dc (p : Prop) : Bool:=@decide p (Classical.propDecidable p)
theorem dc_T : dc True = true:=by simp [dc]
theorem dc_F : dc False = false:=by simp [dc]
theorem dc_yes {p : Prop} : (dc p = true) = p:=by simp [dc]
theorem dc_no {p : Prop} : (dc p = false) = ¬ p:=by simp [dc]
theorem of_yes {p : Prop} (h : dc p = true) : p:=by simpa [dc] using h
theorem of_no {p : Prop} (h : dc p = false) : ¬ p:=by simpa [dc] using h
theorem dc_eq (p : Prop) [Decidable p] : dc p = decide p:=by simp [dc]
theorem ba_toList (b : ByteArray) : b.toList = b.data.toList:=by
 unfold ByteArray.toList
 have : ∀ (n i : Nat) (r : List UInt8),b.size - i = n→ByteArray.toList.loop b i r = r.reverse ++ b.data.toList.drop i:=by
  intro n
  induction n with
  | zero=>
    intro i r h;rw [ByteArray.toList.loop];rw [if_neg (by omega)];have : b.data.toList.length≤i:=by have : b.data.size = b.size:=rfl;simp;omega
    rw [List.drop_of_length_le this];simp
  | succ n ih=>
    intro i r h;rw [ByteArray.toList.loop];rw [if_pos (by omega),ih (i + 1) _ (by omega)];have hs : i < b.data.toList.length:=by have : b.data.size = b.size:=rfl;simp;omega
    rw [List.drop_eq_getElem_cons hs]
    have hg : b.get! i = b.data.toList[i]:=by
     show b.data[i]! = _
     have : i < b.data.size:=by simpa using hs
     rw [getElem!_pos b.data i this];simp
    rw [hg];simp
 simpa using this b.size 0 [] (by omega)
theorem str_eq (a b : ByteArray) : (a.toList == b.toList) = dc (a = b):=by
 rw [ba_toList,ba_toList,dc_eq];by_cases h : a = b
 ·subst h;simp
 ·have : a.data.toList≠b.data.toList:=by
   intro he
   apply h
   cases a;cases b
   simpa using he
  rw [decide_eq_false h];exact beq_eq_false_iff_ne.2 this
section bins
variable {k k' : IntKind} {a b : Int} {tb : Prop} {F : AV→Prop} {s u : ByteArray} {x y : Bool}
@[congr] theorem aBin_cg {op : BinOp} {x x' y y' : Value} (h : x = x') (h' : y = y') : aBin tb op x y F = aBin tb op x' y' F:=by rw [h,h']
theorem B_add : aBin tb .add (.int k a) (.int k b) F = F (.v (.int k (k.wrap (a + b)))):=by simp [aBin]
theorem B_sub : aBin tb .sub (.int k a) (.int k b) F = F (.v (.int k (k.wrap (a - b)))):=by simp [aBin]
theorem B_mul : aBin tb .mul (.int k a) (.int k b) F = F (.v (.int k (k.wrap (a * b)))):=by simp [aBin]
theorem B_quo : aBin tb .quo (.int k a) (.int k b) F = (b≠0∧F (.v (.int k (k.wrap (a.tdiv b))))):=by simp [aBin]
theorem B_rem : aBin tb .rem (.int k a) (.int k b) F = (b≠0∧F (.v (.int k (a.tmod b)))):=by simp [aBin]
theorem B_and : aBin tb .and (.int k a) (.int k b) F = F (.v (.int k (bits .and k a b))):=by simp [aBin]
theorem B_or : aBin tb .or (.int k a) (.int k b) F = F (.v (.int k (bits .or k a b))):=by simp [aBin]
theorem B_xor : aBin tb .xor (.int k a) (.int k b) F = F (.v (.int k (bits .xor k a b))):=by simp [aBin]
theorem B_shl : aBin tb .shl (.int k a) (.int k' b) F = (0≤b∧b≤k.bits∧F (.v (.int k (k.wrap (a * 2 ^ b.toNat))))):=by simp [aBin]
theorem B_shr : aBin tb .shr (.int k a) (.int k' b) F = (0≤b∧b≤k.bits∧F (.v (.int k (a / 2 ^ b.toNat)))):=by simp [aBin]
theorem B_lss : aBin tb .lss (.int k a) (.int k b) F = F (.v (.bool (dc (a < b)))):=by simp [aBin,dc_eq]
theorem B_leq : aBin tb .leq (.int k a) (.int k b) F = F (.v (.bool (dc (a≤b)))):=by simp [aBin,dc_eq]
theorem B_gtr : aBin tb .gtr (.int k a) (.int k b) F = F (.v (.bool (dc (b < a)))):=by simp [aBin,dc_eq]
theorem B_geq : aBin tb .geq (.int k a) (.int k b) F = F (.v (.bool (dc (b≤a)))):=by simp [aBin,dc_eq]
theorem B_eql : aBin tb .eql (.int k a) (.int k b) F = F (.v (.bool (dc (a = b)))):=by simp [aBin,dc_eq]
theorem B_neq : aBin tb .neq (.int k a) (.int k b) F = F (.v (.bool (!dc (a = b)))):=by simp [aBin,dc_eq]
theorem b_eq (x y : Bool) : (x == y) = dc (x = y):=by cases x<;>cases y<;>simp [dc]
theorem B_beql : aBin tb .eql (.bool x) (.bool y) F = (tb∧F (.v (.bool (dc (x = y))))):=by simp only [aBin,b_eq]
theorem B_bneq : aBin tb .neq (.bool x) (.bool y) F = (tb∧F (.v (.bool (!dc (x = y))))):=by simp only [aBin,b_eq]
theorem B_seql : aBin tb .eql (.string s) (.string u) F = F (.v (.bool (dc (s = u)))):=by simp only [aBin,str_eq]
theorem B_sneq : aBin tb .neq (.string s) (.string u) F = F (.v (.bool (!dc (s = u)))):=by simp only [aBin,str_eq]
theorem B_sadd : aBin tb .add (.string s) (.string u) F = (s.size + u.size≤140737488355328∧F (.v (.string (s ++ u)))):=by simp [aBin]
end bins
def wI2 (x y : Option (List Int)) (F : List Int→List Int→Prop) : Prop:=
 match x,y with
 | some a,some b=>F a b
 | _,_=>False
theorem wI2_ss {a b : List Int} {F : List Int→List Int→Prop} : wI2 (some a) (some b) F = F a b:=(rfl)
@[congr] theorem wI2_cg {x x' y y' : Option (List Int)} {F : List Int→List Int→Prop} (h : x = x') (k : y = y') : wI2 x y F = wI2 x' y' F:=by rw [h,k]
theorem aBin2_eql {t : Nat} {l m : List AV} {F : AV→Prop} : aBin2 ⟨P,T,w0,base⟩ .eql t (.agg l) (.agg m) F = wT (T t) fun ti=>ti.ieq = true∧wI2 (intsOf l) (intsOf m) fun a b=>a.length = ti.n∧b.length = ti.n∧F (.v (.bool (dc (a = b)))):=by
 simp only [aBin2,aEqs,wT,wI2,dc_eq];rfl
theorem aBin2_neq {t : Nat} {l m : List AV} {F : AV→Prop} : aBin2 ⟨P,T,w0,base⟩ .neq t (.agg l) (.agg m) F = wT (T t) fun ti=>ti.ieq = true∧wI2 (intsOf l) (intsOf m) fun a b=>a.length = ti.n∧b.length = ti.n∧F (.v (.bool (!dc (a = b)))):=by
 simp only [aBin2,aEqs,wT,wI2,dc_eq];rfl
theorem isBool_eq {t : Nat} : Env.isBool ⟨P,T,w0,base⟩ t = wT (T t) fun ti=>ti.boo = true:=by
 unfold Env.isBool wT;simp only
 cases T t<;>rfl
theorem isStr_eq {t : Nat} : Env.isStr ⟨P,T,w0,base⟩ t = wT (T t) fun ti=>ti.str = true:=by
 unfold Env.isStr wT;simp only
 cases T t<;>rfl
theorem known_eq {t : Nat} : Env.known ⟨P,T,w0,base⟩ t = wT (T t) fun _=>True:=by
 unfold Env.known wT;simp only
 cases T t<;>rfl
section loads
variable {h : AH} {t : Nat} {x x' y y' : AV} {F : AV→Prop} {ti : TI}
@[congr] theorem aLoad_cg (hx : x = x') : aLoad E h t x F = aLoad E h t x' F:=by rw [hx]
theorem aLoad_eq : aLoad ⟨P,T,w0,base⟩ h t x F = wT (T t) fun ti=>loadAt ti h x F:=by unfold aLoad wT;simp only;cases T t<;>rfl
@[congr] theorem aField_cg {f : Nat} (hx : x = x') : aField E t f x F = aField E t f x' F:=by rw [hx]
theorem aFieldV_eq {f : Nat} : aFieldV ⟨P,T,w0,base⟩ t f x F = wT (T t) fun ti=>fieldV ti f x F:=by unfold aFieldV wT;simp only;cases T t<;>rfl
theorem aField_eq {f : Nat} : aField ⟨P,T,w0,base⟩ t f x F = wT (T t) fun ti=>fieldAt ti f x F:=by unfold aField wT;simp only;cases T t<;>rfl
@[congr] theorem aCv_cg (hx : x = x') : aCv E x F = aCv E x' F:=by rw [hx]
@[simp ↓] theorem aCv_ro {rows : List (List CD)} : aCv E (.ro rows) F = F (.ro rows):=(rfl)
@[simp ↓] theorem aCv_sl {kk sz off len : Nat} {H : Hd} : aCv E (.sl kk H sz off len) F = F (.sl kk H sz off len):=(rfl)
@[simp ↓] theorem aCv_ml {kk sz len : Nat} {H : Hd} : aCv E (.ml kk H sz len) F = F (.ml kk H sz len):=(rfl)
@[simp ↓] theorem aCv_nil : aCv E .nil F = F .nil:=(rfl)
@[congr] theorem indexAt_cg (hx : x = x') (hy : y = y') : indexAt ti x y F = indexAt ti x' y' F:=by rw [hx,hy]
theorem I_ro {rows : List (List CD)} {k : IntKind} {n : Int} : indexAt ti (.ro rows) (.v (.int k n)) F = (0≤n∧n < rows.length∧∀ row,rows[n.toNat]? = some row→row.length = ti.n∧F (.rp row)):=(rfl)
theorem I_sl {kk sz off len : Nat} {H : Hd} {k : IntKind} {n : Int} : indexAt ti (.sl kk H sz off len) (.v (.int k n)) F = (0≤n∧n < len∧sz = ti.n∧F (.e kk H sz (off + n.toNat) 0)):=(rfl)
theorem I_ml {kk sz len : Nat} {H : Hd} {k : IntKind} {n : Int} : indexAt ti (.ml kk H sz len) (.v (.int k n)) F = (0≤n∧n < len∧sz = ti.n∧F (.e kk H sz n.toNat 0)):=(rfl)
@[congr] theorem aLen_cg (hx : x = x') : aLen E t x F = aLen E t x' F:=by rw [hx]
theorem L_ro {rows : List (List CD)} : aLen E t (.ro rows) F = elemT E t fun _ _=>F (.v (.int .i64 rows.length)):=(rfl)
theorem L_sl {kk sz off len : Nat} {H : Hd} : aLen E t (.sl kk H sz off len) F = elemT E t fun _ _=>F (.v (.int .i64 len)):=(rfl)
theorem L_cv {u : Value} {len : Nat} : aLen E t (.cv u len) F = elemT E t fun _ _=>F (.v (.int .i64 len)):=(rfl)
theorem L_ml {kk sz len : Nat} {H : Hd} : aLen E t (.ml kk H sz len) F = elemT E t fun _ _=>F (.v (.int .i64 len)):=(rfl)
theorem L_nil : aLen E t .nil F = elemT E t fun _ _=>F (.v (.int .i64 0)):=(rfl)
theorem L_vnil : aLen E t (.v (.slice none 0 0)) F = elemT E t fun _ _=>F (.v (.int .i64 0)):=(rfl)
theorem L_str {s : ByteArray} : aLen E t (.v (.string s)) F = (E.isStr t∧F (.v (.int .i64 s.size))):=(rfl)
@[congr] theorem loadRow_cg {row row' : List CD} (hr : row = row') : loadRow ti row F = loadRow ti row' F:=by rw [hr]
@[congr] theorem loadAt_cg (hx : x = x') : loadAt ti h x F = loadAt ti h x' F:=by rw [hx]
theorem D_rp {row : List CD} : loadAt ti h (.rp row) F = loadRow ti row F:=(rfl)
theorem loadRow_a {row : List CD} (ha : ti.agg = true) : loadRow ti row F = (ti.n≤row.length∧F (.agg ((row.take ti.n).map toAV))):=by simp [loadRow,ha]
theorem loadRow_1 {d : CD} {row : List CD} (ha : ti.agg = false) : loadRow ti (d :: row) F = F (toAV d):=by simp [loadRow,ha]
theorem loadVars_a {c : Nat} {cells : List AV} (ha : ti.agg = true) : loadVars ti cells c F = (c + ti.n≤cells.length∧F (.agg ((cells.drop c).take ti.n))):=by simp [loadVars,ha]
theorem loadVars_1 {c : Nat} {cells : List AV} (ha : ti.agg = false) : loadVars ti cells c F = aExtract (.tup cells) c F:=by
 simp only [loadVars,ha,aExtract];rfl
def wV (o : AObj) (F : Nat→List AV→Prop) : Prop:=
 match o with
 | .vars b _ cells=>F b cells
 | _=>False
def wVT (o : AObj) (F : Nat→TypeId→List AV→Prop) : Prop:=
 match o with
 | .vars b t cells=>F b t cells
 | _=>False
def wR (o : AObj) (F : Hd→Nat→List (List CD)→Bool→Prop) : Prop:=
 match o with
 | .rows H sz rows own=>F H sz rows own
 | _=>False
def wRL (o : AObj) (F : Hd→Nat→List (List CD)→Bool→Prop) (G : Hd→Nat→List (List CD)→Prop) : Prop:=
 match o with
 | .rows H sz rows own=>F H sz rows own
 | .lent H sz rows=>G H sz rows
 | _=>False
def wRP (o : AObj) (F : Hd→Nat→List (List CD)→Bool→Prop) (G : Hd→Nat→List (List CD)→Nat→Prop) : Prop:=
 match o with
 | .rows H sz rows own=>F H sz rows own
 | .part H sz rows lo=>G H sz rows lo
 | _=>False
@[congr] theorem wRL_cg {o o' : AObj} {F : Hd→Nat→List (List CD)→Bool→Prop} {G : Hd→Nat→List (List CD)→Prop} (h : o = o') : wRL o F G = wRL o' F G:=by rw [h]
@[congr] theorem wRP_cg {o o' : AObj} {F : Hd→Nat→List (List CD)→Bool→Prop} {G : Hd→Nat→List (List CD)→Nat→Prop} (h : o = o') : wRP o F G = wRP o' F G:=by rw [h]
theorem wRL_r {H : Hd} {sz : Nat} {rows : List (List CD)} {own : Bool} {F : Hd→Nat→List (List CD)→Bool→Prop} {G : Hd→Nat→List (List CD)→Prop} : wRL (.rows H sz rows own) F G = F H sz rows own:=(rfl)
theorem wRL_l {H : Hd} {sz : Nat} {rows : List (List CD)} {F : Hd→Nat→List (List CD)→Bool→Prop} {G : Hd→Nat→List (List CD)→Prop} : wRL (.lent H sz rows) F G = G H sz rows:=(rfl)
theorem wRP_r {H : Hd} {sz : Nat} {rows : List (List CD)} {own : Bool} {F : Hd→Nat→List (List CD)→Bool→Prop} {G : Hd→Nat→List (List CD)→Nat→Prop} : wRP (.rows H sz rows own) F G = F H sz rows own:=(rfl)
theorem wRP_p {H : Hd} {sz lo : Nat} {rows : List (List CD)} {F : Hd→Nat→List (List CD)→Bool→Prop} {G : Hd→Nat→List (List CD)→Nat→Prop} : wRP (.part H sz rows lo) F G = G H sz rows lo:=(rfl)
theorem handed_t {H : Hd} {sz n : Nat} {rows : List (List CD)} : handed true H sz rows n = .part H sz rows n:=(rfl)
theorem handed_f {H : Hd} {sz n : Nat} {rows : List (List CD)} : handed false H sz rows n = .dead:=(rfl)
theorem lendL_nil {ds : List CD} {h : AH} : lendL [] ds h = h:=(rfl)
theorem lendL_cons {a : AV} {l : List AV} {d : CD} {ds : List CD} {h : AH} : lendL (a :: l) (d :: ds) h = lendL l ds (lend1 a d h):=(rfl)
theorem lend1_v {u : Value} {d : CD} {h : AH} : lend1 (.v u) d h = h:=(rfl)
theorem lend1_nil {d : CD} {h : AH} : lend1 .nil d h = h:=(rfl)
theorem lend1_ro {r : List (List CD)} {d : CD} {h : AH} : lend1 (.ro r) d h = h:=(rfl)
theorem lend1_sl {k sz len : Nat} {H : Hd} {rows : List (List CD)} {h : AH} : lend1 (.sl k H sz 0 len) (.s rows) h = (k,.lent H sz rows) :: h:=(rfl)
theorem lend1_off {k sz len n : Nat} {H : Hd} {d : CD} {h : AH} : lend1 (.sl k H sz (n + 1) len) d h = h:=(rfl)
@[congr] theorem wV_cg {o o' : AObj} {F : Nat→List AV→Prop} (h : o = o') : wV o F = wV o' F:=by rw [h]
@[congr] theorem wVT_cg {o o' : AObj} {F : Nat→TypeId→List AV→Prop} (h : o = o') : wVT o F = wVT o' F:=by rw [h]
@[congr] theorem wR_cg {o o' : AObj} {F : Hd→Nat→List (List CD)→Bool→Prop} (h : o = o') : wR o F = wR o' F:=by rw [h]
theorem wV_v {b : Nat} {t : TypeId} {c : List AV} {F : Nat→List AV→Prop} : wV (.vars b t c) F = F b c:=(rfl)
theorem wVT_v {b : Nat} {t : TypeId} {c : List AV} {F : Nat→TypeId→List AV→Prop} : wVT (.vars b t c) F = F b t c:=(rfl)
theorem wR_r {H : Hd} {sz : Nat} {rows : List (List CD)} {own : Bool} {F : Hd→Nat→List (List CD)→Bool→Prop} : wR (.rows H sz rows own) F = F H sz rows own:=(rfl)
theorem D_p {k b c : Nat} : loadAt ti h (.p k b c) F = wV (h.get k) fun b' cells=>b = b'∧loadVars ti cells c F:=by
 simp only [loadAt,wV]
 cases h.get k<;>rfl
theorem D_e {k sz r c : Nat} {H : Hd} : loadAt ti h (.e k H sz r c) F = wRL (h.get k) (fun H' sz' rows _=>H = H'∧sz = sz'∧r < rows.length∧∀ row,rows[r]? = some row→loadRow ti (row.drop c) F) (fun H' sz' rows=>H = H'∧sz = sz'∧r < rows.length∧∀ row,rows[r]? = some row→loadRow ti (row.drop c) F):=by
 simp only [loadAt,wRL]
 cases h.get k<;>rfl
def wF (o : Option (Nat × Nat)) (F : Nat→Nat→Prop) : Prop:=
 match o with
 | some (a,b)=>F a b
 | none=>False
@[congr] theorem wF_cg {o o' : Option (Nat × Nat)} {F : Nat→Nat→Prop} (h : o = o') : wF o F = wF o' F:=by rw [h]
theorem wF_some {a b : Nat} {F : Nat→Nat→Prop} : wF (some (a,b)) F = F a b:=(rfl)
@[congr] theorem fieldV_cg {f : Nat} (hx : x = x') : fieldV ti f x F = fieldV ti f x' F:=by rw [hx]
def wO (o : Option AV) (F : AV→Prop) : Prop:=
 match o with
 | some v=>F v
 | none=>False
@[congr] theorem wO_cg {o o' : Option AV} (h : o = o') : wO o F = wO o' F:=by rw [h]
theorem wO_some {v : AV} : wO (some v) F = F v:=(rfl)
def wFV (o : Option (Nat × Nat)) (b : Option Bool) (l : List AV) (F : AV→Prop) : Prop:=
 match o,b with
 | some (off,n),some true=>off + n≤l.length∧F (.agg ((l.drop off).take n))
 | some (off,_),some false=>wO l[off]? F
 | _,_=>False
@[congr] theorem wFV_cg {o o' : Option (Nat × Nat)} {b b' : Option Bool} {l l' : List AV} (h : o = o') (hb : b = b') (hl : l = l') : wFV o b l F = wFV o' b' l' F:=by rw [h,hb,hl]
theorem wFV_t {off n : Nat} {l : List AV} : wFV (some (off,n)) (some true) l F = (off + n≤l.length∧F (.agg ((l.drop off).take n))):=(rfl)
theorem wFV_f {off n : Nat} {l : List AV} : wFV (some (off,n)) (some false) l F = wO l[off]? F:=(rfl)
theorem FV_agg {f : Nat} {l : List AV} : fieldV ti f (.agg l) F = wFV (ti.fields[f]?) (ti.fagg[f]?) l F:=by
 simp only [fieldV,wFV]
 cases h1 : ti.fields[f]? with
 | none=>rfl
 | some q=>
   cases h2 : ti.fagg[f]? with
   | none=>rfl
   | some b=>
     obtain ⟨off,n⟩:=q
     cases b with
     | false=>simp only [Bool.false_eq_true,if_false,wO];cases l[off]?<;>rfl
     | true=>simp only [if_true]
@[congr] theorem fieldAt_cg {f : Nat} (hx : x = x') : fieldAt ti f x F = fieldAt ti f x' F:=by rw [hx]
theorem F_p {f k b c : Nat} : fieldAt ti f (.p k b c) F = wF (ti.fields[f]?) fun off _=>F (.p k b (c + off)):=by
 simp only [fieldAt,wF];cases ti.fields[f]?<;>rfl
theorem F_e {f k sz r c : Nat} {H : Hd} : fieldAt ti f (.e k H sz r c) F = wF (ti.fields[f]?) fun off _=>F (.e k H sz r (c + off)):=by
 simp only [fieldAt,wF];cases ti.fields[f]?<;>rfl
theorem F_rp {f : Nat} {row : List CD} : fieldAt ti f (.rp row) F = wF (ti.fields[f]?) fun off _=>off≤row.length∧F (.rp (row.drop off)):=by
 simp only [fieldAt,wF];cases ti.fields[f]?<;>rfl
theorem toAV_v {u : Value} : toAV (.v u) = .v u:=(rfl)
theorem toAV_s {r : List (List CD)} : toAV (.s r) = .ro r:=(rfl)
theorem toAV_h {k sz len : Nat} {H : Hd} : toAV (.h k H sz len) = .ml k H sz len:=(rfl)
theorem toCD_v {u : Value} : toCD (.v u) = .v u:=(rfl)
theorem toCD_nil : toCD .nil = .s []:=(rfl)
@[congr] theorem aConv_cg {s d : Nat} (hx : x = x') : aConv E s d x F = aConv E s d x' F:=by rw [hx]
@[congr] theorem aConv2_cg {s d : Nat} {h : AH} (hx : x = x') : aConv2 E h s d x F = aConv2 E h s d x' F:=by rw [hx]
def askK (o : Option IntKind) (F : IntKind→Prop) : Prop:=
 match o with
 | some k=>F k
 | none=>False
@[congr] theorem askK_cg {o o' : Option IntKind} {F : IntKind→Prop} (h : o = o') : askK o F = askK o' F:=by rw [h]
theorem askK_some {k : IntKind} {F : IntKind→Prop} : askK (some k) F = F k:=(rfl)
theorem C_int {s d : Nat} {k : IntKind} {n : Int} : aConv ⟨P,T,w0,base⟩ s d (.v (.int k n)) F = ((wT (T s) fun _=>True)∧wT (T d) fun ti=>askK ti.kind fun k'=>F (.v (.int k' (k'.wrap n)))):=by
 simp only [aConv,known_eq]
 congr 1
 unfold wT askK
 cases T d with
 | none=>rfl
 | some ti=>simp only;cases ti.kind<;>rfl
theorem C2_v {s d : Nat} {h : AH} {u : Value} : aConv2 ⟨P,T,w0,base⟩ h s d (.v u) F = aConv ⟨P,T,w0,base⟩ s d (.v u) F:=(rfl)
theorem C2_ro {s d : Nat} {h : AH} {rows : List (List CD)} : aConv2 ⟨P,T,w0,base⟩ h s d (.ro rows) F = aStr ⟨P,T,w0,base⟩ s d rows F:=(rfl)
theorem C2_sl {s d k sz off len : Nat} {H : Hd} {h : AH} : aConv2 ⟨P,T,w0,base⟩ h s d (.sl k H sz off len) F = wR (h.get k) fun H' sz' rows _=>H = H'∧sz = sz'∧off + len≤rows.length∧aStr ⟨P,T,w0,base⟩ s d (cut rows off len) F:=by
 simp only [aConv2,wR];cases h.get k<;>rfl
theorem CS_eq {s d : Nat} {rows : List (List CD)} : aStr ⟨P,T,w0,base⟩ s d rows F = (Env.isStr ⟨P,T,w0,base⟩ d∧wT (T s) fun ti=>wE ti.sl fun e=>wT (T e) fun te=>te.kind = some .u8∧∃ l : List UInt8,rows = l.map byteRow∧F (.v (.string ⟨l.toArray⟩))):=by
 simp only [aStr,elemT_eq]
end loads
end
open Go.RowKit
section
variable {P : Program} {T : Nat→Option TI} {w0 : World} {base : Bs} {E : Env} {Q : Exit→ASt→Prop} {K : ASt→Prop} {st : ASt}
theorem cells_agg {l : List AV} : AV.cells (.agg l) = l:=(rfl)
theorem cells_v {u : Value} : AV.cells (.v u) = [.v u]:=(rfl)
theorem cells_nil : AV.cells .nil = [.nil]:=(rfl)
theorem cells_ro {r : List (List CD)} : AV.cells (.ro r) = [.ro r]:=(rfl)
theorem cells_sl {k sz off len : Nat} {H : Hd} : AV.cells (.sl k H sz off len) = [.sl k H sz off len]:=(rfl)
theorem cells_p {k b c : Nat} : AV.cells (.p k b c) = [.p k b c]:=(rfl)
theorem cells_clo {f : Nat} {l : List AV} : AV.cells (.clo f l) = [.clo f l]:=(rfl)
theorem cells_cv {u : Value} {len : Nat} : AV.cells (.cv u len) = [.cv u len]:=(rfl)
theorem cells_ml {k sz len : Nat} {H : Hd} : AV.cells (.ml k H sz len) = [.ml k H sz len]:=(rfl)
theorem one_cv {u : Value} {len : Nat} : AV.one (.cv u len) = true:=(rfl)
theorem one_ml {k sz len : Nat} {H : Hd} : AV.one (.ml k H sz len) = true:=(rfl)
theorem one_v {u : Value} : AV.one (.v u) = true:=(rfl)
theorem one_nil : AV.one .nil = true:=(rfl)
theorem one_ro {r : List (List CD)} : AV.one (.ro r) = true:=(rfl)
theorem one_sl {k sz off len : Nat} {H : Hd} : AV.one (.sl k H sz off len) = true:=(rfl)
theorem one_p {k b c : Nat} : AV.one (.p k b c) = true:=(rfl)
theorem one_clo {f : Nat} {l : List AV} : AV.one (.clo f l) = true:=(rfl)
theorem one_all {l : List CD} : (l.map toAV).all AV.one = true:=by
 induction l with
 | nil=>rfl
 | cons d l ih=>cases d<;>simpa [toAV,AV.one] using ih
theorem putL_nil {α : Type} {l : List α} {i : Nat} : putL l i [] = l:=by cases l<;>rfl
theorem putL_0 {α : Type} {x v : α} {l vs : List α} : putL (x :: l) 0 (v :: vs) = v :: putL l 0 vs:=(rfl)
theorem putL_s {α : Type} {x v : α} {l vs : List α} {c : Nat} : putL (x :: l) (c + 1) (v :: vs) = x :: putL l c (v :: vs):=(rfl)
section fr
variable {h : AH} {x x' y y' : AV} {t : Nat} {F : CD→AH→Bool→Prop} {G : List CD→AH→Bool→Prop}
@[congr] theorem aFrz_cg (hx : x = x') : aFrz h x F = aFrz h x' F:=by rw [hx]
theorem Z_v {u : Value} : aFrz h (.v u) F = F (.v u) h true:=(rfl)
theorem Z_nil : aFrz h .nil F = F (.s []) h true:=(rfl)
theorem Z_ro {r : List (List CD)} : aFrz h (.ro r) F = F (.s r) h false:=(rfl)
theorem Z_sl {k sz off len : Nat} {H : Hd} : aFrz h (.sl k H sz off len) F = wR (h.get k) fun H' sz' rows own=>H = H'∧sz = sz'∧off + len≤rows.length∧F (.s (cut rows off len)) ((k,.dead) :: h) own:=by
 simp only [aFrz,wR];cases h.get k<;>rfl
@[congr] theorem aFrzL_cg {l l' : List AV} (hx : l = l') : aFrzL h l G = aFrzL h l' G:=by rw [hx]
theorem ZL_nil : aFrzL h [] G = G [] h true:=(rfl)
theorem ZL_cons {a : AV} {l : List AV} : aFrzL h (a :: l) G = aFrz h a fun d h' o=>aFrzL h' l fun ds h'' o'=>G (d :: ds) h'' (o && o'):=(rfl)
theorem cut_all {α : Type} {rows : List α} : cut rows 0 rows.length = rows:=by simp [cut]
theorem cut_len {α : Type} {rows : List α} {n : Nat} (h : n = rows.length) : cut rows 0 n = rows:=by simp [cut,h]
@[congr] theorem aStore_cg (hx : x = x') (hy : y = y') : aStore E st t x y K = aStore E st t x' y' K:=by rw [hx,hy]
theorem W_p {k b c : Nat} : aStore ⟨P,T,w0,base⟩ st t (.p k b c) y K = wT (T t) fun ti=>y.cells.length = ti.n∧(y.cells.all AV.one) = true∧wVT (st.h.get k) fun b' T' cells=>b = b'∧c + y.cells.length≤cells.length∧K { st with h:=(k,.vars b T' (putL cells c y.cells)) :: st.h }:=by
 simp only [aStore,wT,wVT]
 cases T t with
 | none=>rfl
 | some ti=>simp only;cases st.h.get k<;>rfl
theorem W_e {k sz r c : Nat} {H : Hd} : aStore ⟨P,T,w0,base⟩ st t (.e k H sz r c) y K = wT (T t) fun ti => y.cells.length = ti.n ∧ (y.cells.all AV.one) = true ∧ aFrzL st.h y.cells fun ds h o => wR (h.get k) fun H' sz' rows own => H = H' ∧ sz = sz' ∧ r < rows.length ∧ c + ds.length ≤ sz ∧
 K { st with h:=lendL y.cells ds ((k,.rows H sz (if c = 0∧ds.length = sz then rows.set r ds else rows.modify r fun row=>putL row c ds) (own && o)) :: h) }:=by
 simp only [aStore,wT]
 cases T t with
 | none=>rfl
 | some ti=>
   simp only;rfl
@[congr] theorem aBuild_cg {l l' : List (Nat × AV)} {F : AV→Prop} (hl : l = l') : aBuild E t l F = aBuild E t l' F:=by rw [hl]
theorem aBuild_eq {l : List (Nat × AV)} {F : AV→Prop} : aBuild ⟨P,T,w0,base⟩ t l F = wT (T t) fun ti=>ti.agg = true∧fillA ti.fields ti.zero l fun l=>F (.agg l):=by
 simp only [aBuild,wT];cases T t<;>rfl
@[congr] theorem fillA_cg {fs : List (Nat × Nat)} {cells cells' : List AV} {l l' : List (Nat × AV)} {F : List AV→Prop} (hc : cells = cells') (hl : l = l') : fillA fs cells l F = fillA fs cells' l' F:=by rw [hc,hl]
theorem fillA_nil {fs : List (Nat × Nat)} {cells : List AV} {F : List AV→Prop} : fillA fs cells [] F = F cells:=(rfl)
theorem fillA_cons {fs : List (Nat × Nat)} {cells : List AV} {i : Nat} {v : AV} {l : List (Nat × AV)} {F : List AV→Prop} : fillA fs cells ((i,v) :: l) F = wF (fs[i]?) fun off n=>v.cells.length = n∧off + n≤cells.length∧(v.cells.all AV.one) = true∧fillA fs (putL cells off v.cells) l F:=by
 simp only [fillA,wF];cases fs[i]?<;>rfl
variable {R : List (List CD)→AH→Bool→Prop} {te : TI}
@[congr] theorem aNews_cg (hx : x = x') : aNews te h x R = aNews te h x' R:=by rw [hx]
theorem N_nil : aNews te h .nil R = R [] h true:=(rfl)
theorem N_ro {rows : List (List CD)} : aNews te h (.ro rows) R = ((∀ row∈rows,row.length = te.n)∧(te.pln = true→∀ row∈rows,∀ d∈row,isV d = true)∧R rows h te.pln):=(rfl)
theorem N_slp {k sz off len : Nat} {H : Hd} (hp : te.pln = true) : aNews te h (.sl k H sz off len) R = wR (h.get k) fun H' sz' rows _=>H = H'∧sz = sz'∧sz = te.n∧off + len≤rows.length∧(∀ row∈rows,∀ d∈row,isV d = true)∧R (cut rows off len) h true:=by
 simp only [aNews,wR,hp];cases h.get k<;>simp
theorem N_sl {k sz off len : Nat} {H : Hd} (hp : te.pln = false) : aNews te h (.sl k H sz off len) R = wRP (h.get k) (fun H' sz' rows own=>H = H'∧sz = sz'∧sz = te.n∧off + len≤rows.length∧R (cut rows off len) ((k,handed own H sz rows (off + len)) :: h) own) (fun H' sz' rows lo=>H = H'∧sz = sz'∧sz = te.n∧off + len≤rows.length∧lo≤off∧R (cut rows off len) ((k,.part H sz rows (off + len)) :: h) true):=by
 simp only [aNews,wRP,hp];cases h.get k<;>simp
variable {dst : Option Nat}
@[congr] theorem aAppend_cg (hx : x = x') (hy : y = y') : aAppend E st dst t x y K = aAppend E st dst t x' y' K:=by rw [hx,hy]
theorem A_new : aAppend E st dst t .nil x K = elemT E t fun _ te => 0 < te.bytes ∧ 0 < te.n ∧ aNews te st.h x fun news h o => news.length * te.bytes ≤ 140737488355328 ∧
        ∀ H,aPut { st with h:=(st.key dst,.rows H te.n news o) :: h } dst (.sl (st.key dst) H te.n 0 news.length) K:=(rfl)
theorem A_sl {k sz off len : Nat} {H0 : Hd} : aAppend E st dst t (.sl k H0 sz off len) x K = elemT E t fun _ te => 0 < te.bytes ∧ 0 < te.n ∧ aNews te st.h x fun news h o => wR (h.get k) fun H' sz' rows own => H0 = H' ∧ sz = sz' ∧ sz = te.n ∧ off = 0 ∧ len = rows.length ∧ (len + news.length) * te.bytes ≤ 140737488355328 ∧
 ∀ H,aPut { st with h:=(k,.rows H te.n (rows ++ news) (own && o)) :: h } dst (.sl k H te.n 0 (len + news.length)) K:=by
 unfold aAppend;rfl
theorem A_vnil : aAppend E st dst t (.v (.slice none 0 0)) x K = aAppend E st dst t .nil x K:=(rfl)
theorem A_ml {k sz len : Nat} {H0 : Hd} (h0 : 0 < len) : aAppend E st dst t (.ml k H0 sz len) x K = aAppend E st dst t (.sl k H0 sz 0 len) x K:=by simp only [aAppend,AV.norm,if_pos (MlS.pos h0)]
@[congr] theorem aRows_cg {l l' : List (Nat × AV)} {i : Nat} (hl : l = l') : aRows te h l i R = aRows te h l' i R:=by rw [hl]
theorem R_nil {i : Nat} : aRows te h [] i R = R [] h true:=(rfl)
theorem R_cons {i j : Nat} {v : AV} {l : List (Nat × AV)} : aRows te h ((j,v) :: l) i R = (j = i∧v.cells.length = te.n∧(v.cells.all AV.one) = true∧aFrzL h v.cells fun ds h' o=>aRows te h' l (i + 1) fun rs h'' o'=>R (ds :: rs) h'' (o && o')):=(rfl)
@[congr] theorem aBuildSlice_cg {len : Nat} {l l' : List (Nat × AV)} (hl : l = l') : aBuildSlice E st dst t len l K = aBuildSlice E st dst t len l' K:=by rw [hl]
theorem aBuildSlice_eq {len : Nat} {l : List (Nat × AV)} : aBuildSlice E st dst t len l K = elemT E t fun _ te=>0 < te.n∧len = l.length∧len * te.n≤16777216∧aRows te st.h l 0 fun rs h o=>
 ∀ b,aPut { st with h:=(st.key dst,.rows (some (b,0,len)) te.n rs o) :: h } dst (.sl (st.key dst) (some (b,0,len)) te.n 0 len) K:=(rfl)
@[congr] theorem aMake_cg (hx : x = x') (hy : y = y') : aMake E st dst t x y K = aMake E st dst t x' y' K:=by rw [hx,hy]
theorem aMake_eq {n m : Int} : aMake E st dst t (.v (.int .i64 n)) (.v (.int .i64 m)) K = elemT E t fun _ te => 0 < te.n ∧ 0 < te.bytes ∧ n = m ∧ 0 ≤ n ∧ n * te.bytes ≤ 140737488355328 ∧
        ∀ b,aPut { st with h:=(st.key dst,.rows (some (b,0,n.toNat)) te.n (List.replicate n.toNat (te.zero.map toCD)) true) :: st.h } dst (.sl (st.key dst) (some (b,0,n.toNat)) te.n 0 n.toNat) K:=(rfl)
theorem aAlloc_eq : aAlloc ⟨P,T,w0,base⟩ st dst t K = wT (T t) fun ti=>∀ b,aPut { st with h:=(st.key dst,.vars b t ti.zero) :: st.h } dst (.p (st.key dst) b 0) K:=by
 simp only [aAlloc,wT];cases T t<;>rfl
@[congr] theorem aBox_cg (hx : x = x') : aBox E st dst t x K = aBox E st dst t x' K:=by rw [hx]
theorem aBox_eq : aBox ⟨P,T,w0,base⟩ st dst t x K = wT (T t) fun _=>(x.cells.all AV.one) = true∧∀ b,aPut { st with h:=(st.key dst,.vars b t x.cells) :: st.h } dst (.p (st.key dst) b 0) K:=by
 simp only [aBox,wT];cases T t<;>rfl
@[congr] theorem aSlice_cg {lo lo' hi hi' : Option AV} {F : AV→Prop} (hx : x = x') (hl : lo = lo') (hh : hi = hi') : aSlice E t x lo hi F = aSlice E t x' lo' hi' F:=by rw [hx,hl,hh]
theorem SL3_ro {rows : List (List CD)} {lo : Option AV} {hv mx : AV} {F : AV→Prop} : aSlice3 E t (.ro rows) lo (some hv) mx F = elemT E t fun _ te=>(∀ row∈rows,row.length = te.n)∧bound (some hv) 0 fun h=>bound (some mx) 0 fun m=>h≤m∧m≤rows.length∧bound lo 0 fun l=>l≤h∧F (.ro (cut rows l (h - l))):=(rfl)
theorem SL_ro {rows : List (List CD)} {lo hi : Option AV} {F : AV→Prop} : aSlice E t (.ro rows) lo hi F = elemT E t fun _ te=>(∀ row∈rows,row.length = te.n)∧bound hi rows.length fun h=>h≤rows.length∧bound lo 0 fun l=>l≤h∧F (.ro (cut rows l (h - l))):=(rfl)
theorem SL_sl {k sz off len : Nat} {H : Hd} {lo hi : Option AV} {F : AV→Prop} : aSlice E t (.sl k H sz off len) lo hi F = elemT E t fun _ te=>sz = te.n∧bound hi len fun h=>h≤len∧bound lo 0 fun l=>l≤h∧F (.sl k H sz (off + l) (h - l)):=(rfl)
theorem SL_ml {k sz len : Nat} {H : Hd} {lo hi : Option AV} {F : AV→Prop} (h0 : 0 < len) : aSlice E t (.ml k H sz len) lo hi F = aSlice E t (.sl k H sz 0 len) lo hi F:=by simp only [aSlice,AV.norm,if_pos (MlS.pos h0)]
theorem SL_str {s : ByteArray} {lo hi : Option AV} {F : AV→Prop} : aSlice E t (.v (.string s)) lo hi F = (E.isStr t∧bound hi s.size fun h=>h≤s.size∧bound lo 0 fun l=>l≤h∧F (.v (.string (s.extract l h)))):=(rfl)
theorem bound_none {z : Nat} {F : Nat→Prop} : bound none z F = F z:=(rfl)
theorem bound_int {z : Nat} {F : Nat→Prop} {k : IntKind} {n : Int} : bound (some (.v (.int k n))) z F = (0≤n∧F n.toNat):=(rfl)
end fr
section calls
variable {h : AH} {x : AV} {R : Value→CD→Prop}
theorem in_v {u : Value} {d : CD} : aIn R h (.v u) d = (d = .v u):=(rfl)
theorem in_nil {d : CD} : aIn R h .nil d = (d = .s []):=(rfl)
theorem in_ro {r : List (List CD)} {d : CD} : aIn R h (.ro r) d = (d = .s r):=(rfl)
theorem in_sl {k sz off len : Nat} {H : Hd} {d : CD} : aIn R h (.sl k H sz off len) d = wRL (h.get k) (fun H' sz' rows _=>H = H'∧sz = sz'∧off + len≤rows.length∧d = .s (cut rows off len)) (fun H' sz' rows=>H = H'∧sz = sz'∧off = 0∧len = rows.length∧d = .s rows):=by
 simp only [aIn,wRL];cases h.get k<;>rfl
theorem in_cv {u : Value} {len : Nat} {d : CD} : aIn R h (.cv u len) d = R u d:=(rfl)
theorem in_ml {k sz len : Nat} {H : Hd} {d : CD} : aIn R h (.ml k H sz len) d = wR (h.get k) fun H' sz' rows _=>H = H'∧sz = sz'∧len = rows.length∧d = .s rows:=by
 simp only [aIn,wR];cases h.get k<;>rfl
theorem inL_nil : aInL R h [] [] = True:=(rfl)
theorem inL_cons {a : AV} {l : List AV} {d : CD} {ds : List CD} : aInL R h (a :: l) (d :: ds) = (aIn R h a d∧aInL R h l ds):=(rfl)
theorem inV_c {a : AV} {d : CD} : aInV R h a (.c d) = aIn R h a d:=(rfl)
theorem inV_agg {l : List AV} {ds : List CD} : aInV R h (.agg l) (.agg ds) = aInL R h l ds:=(rfl)
theorem inVs_nil : aInVs R h [] [] = True:=(rfl)
theorem inVs_cons {a : AV} {l : List AV} {d : VD} {ds : List VD} : aInVs R h (a :: l) (d :: ds) = (aInV R h a d∧aInVs R h l ds):=(rfl)
variable {key : Nat}
theorem land_v {u : Value} {sz : Nat} {F : AV→AH→Prop} : landT h key (.v u,sz) F = F (.v u) h:=(rfl)
theorem land_s {rows : List (List CD)} {sz : Nat} {F : AV→AH→Prop} : landT h key (.s rows,sz) F = ∀ H,F (.sl key H sz 0 rows.length) ((key,.rows H sz rows true) :: h):=(rfl)
theorem landL_nil {F : List AV→AH→Nat→Prop} : landL h key [] F = F [] h key:=(rfl)
theorem landL_cons {t : CD × Nat} {ts : List (CD × Nat)} {F : List AV→AH→Nat→Prop} : landL h key (t :: ts) F = landT h key t fun v h'=>landL h' (key + 1) ts fun l h'' key'=>F (v :: l) h'' key':=(rfl)
theorem landV_c {d : CD} {sz : Nat} {F : AV→AH→Nat→Prop} : landV h key (.c d sz) F = landT h key (d,sz) fun v h'=>F v h' (key + 1):=(rfl)
theorem landV_agg {ts : List (CD × Nat)} {F : AV→AH→Nat→Prop} : landV h key (.agg ts) F = landL h key ts fun l h' key'=>F (.agg l) h' key':=(rfl)
theorem landVs_nil {F : List AV→AH→Prop} : landVs h key [] F = F [] h:=(rfl)
theorem landVs_cons {r : RV} {rs : List RV} {F : List AV→AH→Prop} : landVs h key (r :: rs) F = landV h key r fun v h' key'=>landVs h' key' rs fun l h''=>F (v :: l) h'':=(rfl)
theorem landR_one {r : RV} {F : AV→AH→Prop} : landR h key (.one r) F = landV h key r fun v h' _=>F v h':=(rfl)
theorem landR_tup {rs : List RV} {F : AV→AH→Prop} : landR h key (.tup rs) F = landVs h key rs fun l h'=>F (.tup l) h':=(rfl)
variable {F : AH→Prop} {t : CD × Nat}
@[congr] theorem aOut_cg {x' : AV} (hx : x = x') : aOut h x t F = aOut h x' t F:=by rw [hx]
theorem out_v {u : Value} : aOut h (.v u) t F = (t.1 = .v u∧F h):=(rfl)
theorem out_nil : aOut h .nil t F = (t.1 = .s []∧0 < t.2∧F h):=(rfl)
theorem out_sl {k sz off len : Nat} {H : Hd} : aOut h (.sl k H sz off len) t F = wR (h.get k) fun H' sz' rows own=>H = H'∧sz = sz'∧t.2 = sz∧0 < sz∧own = true∧off + len≤rows.length∧(∀ row∈rows,row.length = sz)∧t.1 = .s (cut rows off len)∧F ((k,.dead) :: h):=by
 simp only [aOut,wR];cases h.get k<;>rfl
theorem outL_nil : aOutL h [] [] F = F h:=(rfl)
theorem outL_cons {a : AV} {l : List AV} {ts : List (CD × Nat)} : aOutL h (a :: l) (t :: ts) F = aOut h a t fun h'=>aOutL h' l ts F:=(rfl)
theorem outV_c {d : CD} {sz : Nat} : aOutV h x (.c d sz) F = aOut h x (d,sz) F:=(rfl)
theorem outV_agg {l : List AV} {ts : List (CD × Nat)} : aOutV h (.agg l) (.agg ts) F = aOutL h l ts F:=(rfl)
theorem outVs_nil : aOutVs h [] [] F = F h:=(rfl)
theorem outVs_cons {a : AV} {l : List AV} {r : RV} {rs : List RV} : aOutVs h (a :: l) (r :: rs) F = aOutV h a r fun h'=>aOutVs h' l rs F:=(rfl)
theorem res_nil {L : List AV→Prop} : aRes E st [] L = L []:=(rfl)
theorem res_tmp {i : Nat} {rs : List ResultVar} {L : List AV→Prop} : aRes E st (.tmp i :: rs) L = aRes E st rs fun l=>L (getT st.t i :: l):=(rfl)
theorem res_cell {i : Nat} {t : TypeId} {rs : List ResultVar} {L : List AV→Prop} : aRes E st (.cell i t :: rs) L = aLoad E st.h t (getT st.t i) fun v=>aRes E st rs fun l=>L (v :: l):=(rfl)
theorem ret_one {r : RV} : retQ h (.one r) [x] = aOutV h x r fun _=>True:=(rfl)
theorem ret_tup {rs : List RV} {l : List AV} : retQ h (.tup rs) l = (l.length≠1∧aOutVs h l rs fun _=>True):=(rfl)
variable {rs : List ResultVar} {rr : RR}
theorem body_n : bodyQ E rs rr .normal st = aRes E st rs (retQ st.h rr):=(rfl)
theorem body_r : bodyQ E rs rr .ret st = aRes E st rs (retQ st.h rr):=(rfl)
theorem loop_n {β : Type} {Inv : β→Prop} {I : β→ASt} {μ : β→Nat} {x : β} : loopQ Inv I μ x Q .normal st = ∃ x',Inv x'∧μ x' < μ x∧Weak st (I x'):=(rfl)
theorem loop_r {β : Type} {Inv : β→Prop} {I : β→ASt} {μ : β→Nat} {x : β} : loopQ Inv I μ x Q .ret st = Q .ret st:=(rfl)
theorem loop_e {β : Type} {Inv : β→Prop} {I : β→ASt} {μ : β→Nat} {x : β} {i : Nat} : loopQ Inv I μ x Q (.exit i) st = Q (.exit i) st:=(rfl)
end calls
end
section weak
def wkT (t : List (Nat × AV)) : List (Nat × AV)→Prop
 | []=>True
 | (i,v) :: l=>AVle (getT t i) v∧wkT t l
def wkH (h : AH) : AH→Prop
 | []=>True
 | (i,o) :: l=>ObjLe (h.get i) o∧wkH h l
theorem wkT_eq {t : List (Nat × AV)} : ∀ l : List (Nat × AV),(∀ p∈l,AVle (getT t p.1) p.2) = wkT t l
 | []=>by simp [wkT]
 | (i,v) :: l=>by simp only [List.mem_cons,forall_eq_or_imp,wkT,wkT_eq l]
theorem wkH_eq {h : AH} : ∀ l : AH,(∀ p∈l,ObjLe (h.get p.1) p.2) = wkH h l
 | []=>by simp [wkH]
 | (i,v) :: l=>by simp only [List.mem_cons,forall_eq_or_imp,wkH,wkH_eq l]
theorem weak_eq {n kb n' kb' : Nat} {t t' : List (Nat × AV)} {h h' : AH} : Weak ⟨n,kb,t,h⟩ ⟨n',kb',t',h'⟩ = (n = n'∧kb = kb'∧wkT t t'∧wkH h h'):=by
 unfold Weak;simp only [wkT_eq,wkH_eq]
theorem wkT_nil {t : List (Nat × AV)} : wkT t [] = True:=(rfl)
theorem wkT_cons {t l : List (Nat × AV)} {i : Nat} {v : AV} : wkT t ((i,v) :: l) = (AVle (getT t i) v∧wkT t l):=(rfl)
theorem wkH_nil {h : AH} : wkH h [] = True:=(rfl)
theorem wkH_cons {h l : AH} {i : Nat} {o : AObj} : wkH h ((i,o) :: l) = (ObjLe (h.get i) o∧wkH h l):=(rfl)
theorem le_any {a : AV} : AVle a .any = True:=(rfl)
theorem le_v {a : AV} {u : Value} : AVle a (.v u) = (a = .v u):=(rfl)
theorem le_nil {a : AV} : AVle a .nil = (a = .nil):=(rfl)
theorem le_un {a : AV} : AVle a .un = (a = .un):=(rfl)
theorem le_p {a : AV} {k b c : Nat} : AVle a (.p k b c) = (a = .p k b c):=(rfl)
theorem le_agg {a : AV} {l : List AV} : AVle a (.agg l) = (a = .agg l):=(rfl)
theorem le_tup {a : AV} {l : List AV} : AVle a (.tup l) = (a = .tup l):=(rfl)
theorem le_clo {a : AV} {f : Nat} {l : List AV} : AVle a (.clo f l) = (a = .clo f l):=(rfl)
theorem le_cv {a : AV} {u : Value} {len : Nat} : AVle a (.cv u len) = (a = .cv u len):=(rfl)
theorem le_ml {a : AV} {k sz len : Nat} {H : Hd} : AVle a (.ml k H sz len) = (a = .ml k H sz len):=(rfl)
theorem le_e {a : AV} {k sz r c : Nat} {H : Hd} : AVle a (.e k H sz r c) = (a = .e k H sz r c):=(rfl)
theorem le_sl {a : AV} {k sz off len : Nat} {H : Hd} : AVle a (.sl k H sz off len) = (a = .sl k H sz off len∨(a = .nil∧H = none∧off = 0∧len = 0)):=(rfl)
theorem le_ro {a : AV} {rows : List (List CD)} : AVle a (.ro rows) = (a = .ro rows∨(a = .nil∧rows = [])):=(rfl)
theorem ole_dead {o : AObj} : ObjLe o .dead = True:=(rfl)
theorem ole_vars {b b' : Nat} {t t' : TypeId} {c c' : List AV} : ObjLe (.vars b' t' c') (.vars b t c) = (b' = b∧t' = t∧ALe c' c):=(rfl)
theorem ole_lent {o : AObj} {H : Hd} {sz : Nat} {rows : List (List CD)} : ObjLe o (.lent H sz rows) = (o = .lent H sz rows):=(rfl)
theorem ole_part {o : AObj} {H : Hd} {sz lo : Nat} {rows : List (List CD)} : ObjLe o (.part H sz rows lo) = (o = .part H sz rows lo):=(rfl)
theorem ole_rows {o : AObj} {H : Hd} {sz : Nat} {rows : List (List CD)} {own : Bool} : ObjLe o (.rows H sz rows own) = (o = .rows H sz rows own∨(o = .dead∧H = none∧rows = [])):=(rfl)
theorem ale_nil : ALe [] [] = True:=(rfl)
theorem ale_cons {a b : AV} {l l' : List AV} : ALe (a :: l) (b :: l') = (AVle a b∧ALe l l'):=(rfl)
end weak
theorem PureC.intro' {P : Program} {T : Nat → Option TI} (hT : ∀ t ti, T t = some ti → TIok P t ti) {f : Nat} {fn : Func} {c : Code} (hf : P.funcs[f]? = some fn) (hname : (fn.name == "runtime.NumGoroutine") = false) (hb : fn.body = some c)
 {n : Nat} {rs : List ResultVar} (hn : fn.ntmps = n) (hrs : fn.results = ⟨rs⟩) {args : List VD} {res : RR} (ha : args.length≤n)
 (h : ∀ w0 base,aSem ⟨P,T,w0,⟨base,base,false,fun _=>True⟩⟩ c (bodyQ ⟨P,T,w0,⟨base,base,false,fun _=>True⟩⟩ rs res) { n:=n,kb:=0,t:=argT 0 args,h:=[] }) : PureC P f args res:=by
 subst hn;exact PureC.intro hT hf hname hb ha (by rw [hrs];exact h)
theorem PureX.intro' {P : Program} {T : Nat → Option TI} (hT : ∀ t ti, T t = some ti → TIok P t ti) {L : World → Prop} (hL : LSt L) {f : Nat} {fn : Func} {c : Code} (hf : P.funcs[f]? = some fn) (hname : (fn.name == "runtime.NumGoroutine") = false) (hb : fn.body = some c)
 {n : Nat} {rs : List ResultVar} (hn : fn.ntmps = n) (hrs : fn.results = ⟨rs⟩) {args : List VD} {res : RR} (ha : args.length≤n)
 (h : ∀ w0 base,EOk ⟨P,T,w0,⟨base,base,false,L⟩⟩→aSem ⟨P,T,w0,⟨base,base,false,L⟩⟩ c (bodyQ ⟨P,T,w0,⟨base,base,false,L⟩⟩ rs res) { n:=n,kb:=0,t:=argT 0 args,h:=[] }) : PureX P L f args res:=by
 subst hn;exact PureX.intro hT hL hf hname hb ha (by rw [hrs];exact h)
attribute [simp] dc_T dc_F isBool_eq isStr_eq known_eq toAV_v toAV_s toAV_h toCD_v toCD_nil cells_agg cells_v cells_nil cells_ro cells_sl cells_p cells_clo one_v cells_cv cells_ml one_cv one_ml le_cv le_ml le_e one_nil one_ro one_sl one_p one_clo one_all putL_nil putL_0 putL_s cut_all le_any le_v le_nil le_un le_p le_agg le_tup le_clo le_sl le_ro ole_dead ole_vars ole_rows ale_nil ale_cons argT VD.toAV isV
attribute [simp ↓] Br_t Br_f Br_n S_skip S_region S_draw S_seq S_cond S_block S_loop S_exit S_ret Q_seqn Q_seqr Q_seqe Q_blkn Q_blkr Q_blke Q_blko askS_some askG_un askG_true askG_false O_nil O_cons O_consg gslot_0 gslot_s P_none P_any P_un P_nil P_v P_ro P_sl P_p P_e P_rp P_agg P_tup P_clo P_cv P_ml G_nil G_hit G_miss A_nil A_hit A_miss ev_tmp ev_int ev_bool ev_str ev_nil ev_func key_some key_none wT_some wE_some elemT_eq X_move X_assign X_pick X_build X_load X_nil X_bin X_not X_conv X_slice X_slice3 SL3_ro X_field X_fieldV X_index X_idx X_extract X_alloc X_box X_bslice X_make X_store X_len X_append X_min X_max X_call aTest_v aTwo_v aBin2_v aBin2_eql aBin2_neq wI2_ss intsOf_nil intsOf_cons aExtract_0 aExtract_s B_add B_sub B_mul B_quo B_rem B_and B_or B_xor B_shl B_shr B_lss B_leq B_gtr B_geq B_eql B_neq B_beql B_bneq B_seql B_sneq B_sadd aLoad_eq aField_eq aFieldV_eq FV_agg wFV_t wFV_f wO_some I_ro I_sl I_ml L_ro L_sl L_cv L_ml L_nil L_vnil L_str D_rp loadRow_a loadRow_1 loadVars_a loadVars_1 wV_v wVT_v wR_r D_p D_e wF_some F_p F_e F_rp askK_some C_int C2_v C2_ro C2_sl CS_eq Z_v Z_nil Z_ro Z_sl ZL_nil ZL_cons W_p W_e aBuild_eq fillA_nil fillA_cons N_nil N_ro N_slp N_sl A_new A_sl A_ml A_vnil R_nil R_cons aBuildSlice_eq aMake_eq aAlloc_eq aBox_eq SL_ro SL_sl SL_ml SL_str bound_none bound_int in_v in_nil in_ro in_sl in_cv in_ml inL_nil inL_cons inV_c inV_agg inVs_nil inVs_cons land_v land_s landL_nil landL_cons landV_c landV_agg landVs_nil landVs_cons landR_one landR_tup out_v out_nil out_sl outL_nil outL_cons outV_c outV_agg outVs_nil outVs_cons res_nil res_tmp res_cell ret_one ret_tup body_n body_r loop_n loop_r loop_e weak_eq wkT_nil wkT_cons wkH_nil wkH_cons
attribute [simp] ole_lent ole_part
attribute [simp ↓] wRL_r wRL_l wRP_r wRP_p handed_t handed_f lendL_nil lendL_cons lend1_v lend1_nil lend1_ro lend1_sl lend1_off
open Go.RowKit
def callV (x : AV) (F : Nat→List AV→Prop) : Prop:=
 match x with
 | .clo f caps=>F f caps
 | .v (.func (.func f) _ _)=>F f []
 | _=>False
@[congr] theorem callV_cg {x x' : AV} {F : Nat→List AV→Prop} (h : x = x') : callV x F = callV x' F:=by rw [h]
theorem callV_f {f : Nat} {a b : Array Value} {F : Nat→List AV→Prop} : callV (.v (.func (.func f) a b)) F = F f []:=(rfl)
theorem callV_c {f : Nat} {l : List AV} {F : Nat→List AV→Prop} : callV (.clo f l) F = F f l:=(rfl)
theorem X_callv {E : Env} {st : ASt} {K : ASt→Prop} {d : Option Nat} {t : TypeId} {p : String} {af : Array Edge} {g : Option (Nat × Bool)} {i : Nat} {l : List Operand} {ts : List TypeId} :
 aOp E ⟨d,.call ⟨.value (.tmp i),⟨l⟩,⟨ts⟩⟩,t,p,af,g⟩ st K = callV (getT st.t i) fun f caps=>ACall E f (l.map st.ev ++ caps) st d K:=by
 simp only [aOp,aCall,callV]
 cases getT st.t i with
 | v u=>
   cases u with
   | func f a b=>cases f<;>simp
   | _=>rfl
 | _=>rfl
def sv (v : AV) (F : AV→Prop) : Prop:=F v
@[congr] theorem sv_cg {v v' : AV} {F : AV→Prop} (h : v = v') : sv v F = sv v' F:=by rw [h]
section
variable {E : Env} {st : ASt} {F : AV→Prop} {u : Value} {rows : List (List CD)} {l : List AV} {k sz off len f b c r : Nat} {H : Hd} {row : List CD}
theorem sv_v : sv (.v u) F = F (.v u):=(rfl)
theorem sv_cv {len : Nat} : sv (.cv u len) F = F (.cv u len):=(rfl)
theorem sv_ml {len : Nat} : sv (.ml k H sz len) F = F (.ml k H sz len):=(rfl)
theorem sv_un : sv .un F = F .un:=(rfl)
theorem sv_nil : sv .nil F = F .nil:=(rfl)
theorem sv_ro : sv (.ro rows) F = F (.ro rows):=(rfl)
theorem sv_sl : sv (.sl k H sz off len) F = F (.sl k H sz off len):=(rfl)
theorem sv_p : sv (.p k b c) F = F (.p k b c):=(rfl)
theorem sv_e : sv (.e k H sz r c) F = F (.e k H sz r c):=(rfl)
theorem sv_rp : sv (.rp row) F = F (.rp row):=(rfl)
theorem sv_agg : sv (.agg l) F = F (.agg l):=(rfl)
theorem sv_tup : sv (.tup l) F = F (.tup l):=(rfl)
theorem sv_clo : sv (.clo f l) F = F (.clo f l):=(rfl)
@[congr] theorem SCall_cg {f : Nat} {l l' : List AV} {h : AH} (hl : l = l') : SCall E f l h F = SCall E f l' h F:=by rw [hl]
variable {x y : Operand} {T' U : TypeId}
theorem Y_move : aStl E st (.move x) F = sv (st.ev x) F:=(rfl)
theorem Y_assign : aStl E st (.assign x) F = sv (st.ev x) F:=(rfl)
theorem Y_pick {c a b : Operand} : aStl E st (.pick c a b) F = aTest (st.ev c) fun z=>Br z (ph (sv (st.ev a) F)) (ph (sv (st.ev b) F)):=(rfl)
theorem Y_build {l : List (Nat × Operand)} : aStl E st (.build T' ⟨l⟩) F = aBuild E T' (l.map fun q=>(q.1,st.ev q.2)) fun v=>sv v F:=(rfl)
theorem Y_load : aStl E st (.load T' x) F = aLoad E st.h T' (st.ev x) fun v=>sv v F:=(rfl)
theorem Y_nil : aStl E st (.nilCheck x) F = aNil (st.ev x) fun v=>sv v F:=(rfl)
theorem Y_bin {op : BinOp} : aStl E st (.binOp op T' x y U) F = aBin2 E op T' (st.ev x) (st.ev y) fun v=>sv v F:=(rfl)
theorem Y_not : aStl E st (.unOp .not T' x) F = aTest (st.ev x) fun b=>sv (.v (.bool (!b))) F:=(rfl)
theorem Y_conv {s : TypeId} : aStl E st (.convert s T' x) F = aConv2 E st.h s T' (st.ev x) fun v=>sv v F:=(rfl)
theorem Y_slice {lo hi : Option Operand} : aStl E st (.slice T' x lo hi none) F = aSlice E T' (st.ev x) (lo.map st.ev) (hi.map st.ev) fun v=>sv v F:=(rfl)
theorem Y_field {f : Nat} : aStl E st (.fieldAddr T' x f) F = aField E T' f (st.ev x) fun v=>sv v F:=(rfl)
theorem Y_fieldV {f : Nat} : aStl E st (.field T' x f) F = aFieldV E T' f (st.ev x) fun v=>sv v F:=(rfl)
theorem Y_index : aStl E st (.indexAddr T' x y) F = elemT E T' fun _ te=>aCv E (st.ev x) fun z=>indexAt te z (st.ev y) fun v=>sv v F:=(rfl)
theorem Y_idx : aStl E st (.index T' x y) F = aIdx E T' (st.ev x) (st.ev y) fun v=>sv v F:=(rfl)
theorem Y_extract {i : Nat} : aStl E st (.extract x i) F = aExtract (st.ev x) i fun v=>sv v F:=(rfl)
theorem Y_len : aStl E st (.call ⟨.builtin .len,#[x],#[T']⟩) F = aLen E T' (st.ev x) fun v=>sv v F:=(rfl)
theorem Y_min {U1 U2 : TypeId} : aStl E st (.call ⟨.builtin .min,#[x,y],#[U1,U2]⟩) F = aMin (st.ev x) (st.ev y) fun v=>sv v F:=(rfl)
theorem Y_max {U1 U2 : TypeId} : aStl E st (.call ⟨.builtin .max,#[x,y],#[U1,U2]⟩) F = aMax (st.ev x) (st.ev y) fun v=>sv v F:=(rfl)
theorem Y_call {f : Nat} {l : List Operand} {ts : List TypeId} : aStl E st (.call ⟨.value (.func f),⟨l⟩,⟨ts⟩⟩) F = SCall E f (l.map st.ev) st.h fun v=>sv v F:=(rfl)
end
section
variable {E : Env} {all rest : List Oper} {n kb : Nat} {t : List (Nat × AV)} {h : AH} {K : ASt→Prop}
def aAll (E : Env) (all : List Oper) (n kb : Nat) (h : AH) : List Oper→(t : List (Nat × AV))→(List (Nat × AV)→Prop)→Prop
 | [],t,K=>K t
 | o :: rest,t,K=>aStlW E all o ⟨n,kb,t,h⟩ fun v=>aAll E all n kb h rest ((o.dst.getD 0,v) :: t) K
variable {F : List (Nat × AV)→Prop} {op : Op} {ty : TypeId} {p : String} {af : Array Edge} {d : Nat}
theorem Al_nil : aAll E all n kb h [] t F = F t:=(rfl)
theorem Al_cons : aAll E all n kb h (⟨some d,op,ty,p,af,none⟩ :: rest) t F = aStl E ⟨n,kb,t,h⟩ op fun v=>aAll E all n kb h rest ((d,v) :: t) F:=(rfl)
theorem Al_consg {j : Nat} {b : Bool} : aAll E all n kb h (⟨some d,op,ty,p,af,some (j,b)⟩ :: rest) t F = askS (gslot all j) fun s=>askG (getT t s) b (ph (aStl E ⟨n,kb,t,h⟩ op fun v=>aAll E all n kb h rest ((d,v) :: t) F)) (ph (aAll E all n kb h rest ((d,.un) :: t) F)):=by
 simp only [aAll,aStlW,askS,askG]
 cases gslot all j with
 | none=>rfl
 | some s=>rfl
theorem aPre_eq {ops : List Oper} {G : PV → Prop} (hG : ∀ pv,G pv = F (pvT pv ++ t)) : ∀ (l : List Nat) (pv : PV),(∀ i ∈ l,∃ d,(opAt ops i).dst = some d ∧ d < n) → (∀ p ∈ pv,∀ d,p.2.1.dst = some d → d < n) →
 aPre E ops ⟨n,kb,t,h⟩ pv (l.map fun i=>(i,opAt ops i)) (fun pv'=>(∀ p∈pv',∀ d,p.2.1.dst = some d→d < n)∧G pv') = aAll E ops n kb h (l.map (opAt ops)) (pvT pv ++ t) F
 | [],pv,_,hpv=>by
   simp only [List.map_nil,aPre,aAll];rw [hG];exact propext ⟨fun h=>h.2,fun h=>⟨hpv,h⟩⟩
 | i :: l,pv,hl,hpv=>by
   simp only [List.map_cons,aPre,aAll];refine congrArg _ ?_
   funext v
   obtain ⟨d,hd,hlt⟩:=hl i (List.mem_cons_self ..)
   rw [aPre_eq hG l _ (fun j hj=>hl j (List.mem_cons_of_mem _ hj)) (fun p hp d' hd'=>by
    rcases List.mem_cons.1 hp with rfl | hp
    ·rw [hd] at hd';cases hd';exact hlt
    ·exact hpv p hp d' hd')]
   have : pvT ((i,opAt ops i,v) :: pv) = (d,v) :: pvT pv:=by simp [pvT,hd]
   rw [this,hd];rfl
def quietOk (n : Nat) (ops : List Oper) : Bool:=drawOk ops (List.range ops.length) [] && ops.all fun o=>match o.dst with | some d=>decide (d < n) | none=>false
theorem DrawT.quiet {E : Env} (hE : EOk E) (hm : E.P.follows .mixedOrders = true) {id : Nat} {ops : List Oper} {Q : Exit→ASt→Prop} {n kb : Nat} {t : List (Nat × AV)} {h : AH} (hok : quietOk n ops = true)
 (hx : aAll E ops n kb h ops t fun t'=>Q .normal ⟨n,kb,t',h⟩) : DrawT E id ops Q ⟨n,kb,t,h⟩:=by
 simp only [quietOk,Bool.and_eq_true] at hok;obtain ⟨h1,h2⟩:=hok
 have hd : ∀ i∈List.range ops.length,∃ d,(opAt ops i).dst = some d∧d < n:=by
  intro i hi;have hlt:=List.mem_range.1 hi;have hop : opAt ops i = ops[i]:=by simp [opAt,hlt]
  have:=List.all_eq_true.1 h2 ops[i] (List.getElem_mem hlt);rw [hop]
  split at this
  ·rename_i d hd;exact ⟨d,hd,by simpa using this⟩
  ·simp at this
 have hmap : (List.range ops.length).map (opAt ops) = ops:=by
  refine List.ext_getElem (by simp) (fun i hi hi'=>?_);simp [opAt,hi']
 refine DrawT.intro2 hE hm (List.range ops.length) [] (.inl rfl) h1 (fun pv st'=>st' = ⟨n,kb,pvT pv ++ (maskT pv ++ t),h⟩∧Q .normal ⟨n,kb,pvT pv ++ t,h⟩) ?_ ?_
 ·have:=aPre_eq (E:=E) (ops:=ops) (kb:=kb) (h:=h) (t:=t) (n:=n) (F:=fun t'=>Q .normal ⟨n,kb,t',h⟩) (G:=fun pv=>aTail E ops ⟨n,kb,t,h⟩ pv [] [] { (⟨n,kb,t,h⟩ : ASt) with t:=maskT pv ++ t } (fun st'=>st' = ⟨n,kb,pvT pv ++ (maskT pv ++ t),h⟩∧Q .normal ⟨n,kb,pvT pv ++ t,h⟩)) (fun pv=>by
   simp only [aTail];rw [show (pv.filter fun p=>!([] : List Nat).contains p.1) = pv from List.filter_eq_self.2 (by simp)];simp) (List.range ops.length) [] hd (by simp)
  simp only [List.map_nil] at this ⊢;rw [this,hmap];exact hx
 ·rintro pv st' a w ⟨rfl,hq⟩ hR
  refine ⟨_,hq,hR.dfr,hR.size,fun s=>?_,hR.heap,hR.below,hR.base_le⟩
  show VRel w h.M (getT (pvT pv ++ t) s) _
  by_cases hs : ∃ p∈pvT pv,p.1 = s
  ·have e1 : ∀ x y : List (Nat × AV),getT (pvT pv ++ x) s = getT (pvT pv ++ y) s:=by
    intro x y;obtain ⟨p,hp,rfl⟩:=hs;generalize pvT pv = l at hp
    induction l with
    | nil=>simp at hp
    | cons q l ih=>
      obtain ⟨q1,q2⟩:=q;simp only [List.cons_append,getT];by_cases hq : p.1 = q1
      ·rw [if_pos hq,if_pos hq]
      ·rw [if_neg hq,if_neg hq]
       rcases List.mem_cons.1 hp with rfl | hp
       ·exact absurd rfl hq
       ·exact ih hp
   rw [e1 t (maskT pv ++ t)];exact hR.tmp s
  ·have:=hR.tmp s
   have hne : ∀ p∈pvT pv,p.1≠s:=fun p hp he=>hs ⟨p,hp,he⟩
   have hne' : ∀ p∈maskT pv,p.1≠s:=by
    intro p hp he;unfold maskT at hp;rw [List.mem_filterMap] at hp;obtain ⟨x,hx,hd⟩:=hp;rw [Option.map_eq_some_iff] at hd;obtain ⟨d,hd,rfl⟩:=hd;exact hs ⟨(d,x.2.2),by unfold pvT;rw [List.mem_filterMap];exact ⟨x,hx,by rw [hd];rfl⟩,he⟩
   rw [getT_append hne];have h3 : getT (pvT pv ++ (maskT pv ++ t)) s = getT t s:=by rw [getT_append hne,getT_append hne']
   have h4 : VRel w h.M (getT (pvT pv ++ (maskT pv ++ t)) s) (a.tmps.getD s undef):=this;rw [h3] at h4;exact h4
end
attribute [simp ↓] callV_f callV_c X_callv sv_v sv_un sv_cv sv_ml sv_nil sv_ro sv_sl sv_p sv_e sv_rp sv_agg sv_tup sv_clo Y_move Y_assign Y_pick Y_build Y_load Y_nil Y_bin Y_not Y_conv Y_slice Y_field Y_fieldV Y_index Y_idx Y_extract Y_len Y_min Y_max Y_call Al_nil Al_cons Al_consg
attribute [simp] roR roV
open Go.RowKit
mutual
def AV.q : AV→Bool
 | .ro _=>false
 | .rp _=>false
 | .agg l=>AV.qL l
 | .tup l=>AV.qL l
 | .clo _ l=>AV.qL l
 | _=>true
def AV.qL : List AV→Bool
 | []=>true
 | a :: l=>a.q && AV.qL l
end
def AObj.q : AObj→Bool
 | .dead=>true
 | .vars _ _ cells=>AV.qL cells
 | .rows _ _ _ own=>own
 | _=>false
def qT : List (Nat × AV)→Bool
 | []=>true
 | (_,v) :: l=>v.q && qT l
def qH : AH→Bool
 | []=>true
 | (_,o) :: l=>o.q && qH l
def ASt.quiet (st : ASt) : Prop:=qT st.t = true∧qH st.h = true
theorem AV.qL_get : ∀ (l : List AV),AV.qL l = true→∀ (i : Nat) (a : AV),l[i]? = some a→a.q = true
 | [],_,i,a,h=>by simp at h
 | b :: l,h,i,a,hi=>by
   simp only [AV.qL,Bool.and_eq_true] at h
   cases i with
   | zero=>simp at hi;subst hi;exact h.1
   | succ i=>exact AV.qL_get l h.2 i a (by simpa using hi)
theorem VRel.quiet {w w' : World} {M M' : Nat→Prop} {av : AV} {x : Value} (h : VRel w M av x) (hq : av.q = true) : VRel w' M' av x:=by
 induction h with
 | any x=>exact .any x
 | un=>exact .un
 | nil=>exact .nil
 | v u h=>exact .v u h
 | ro rows x h=>simp [AV.q] at hq
 | sl k H sz off len x h=>exact .sl k H sz off len x h
 | cv u len h=>exact .cv u len h
 | ml k H sz len x h=>exact .ml k H sz len x h
 | is u=>exact .is u
 | p k b c=>exact .p k b c
 | e k b o C sz r c=>exact .e k b o C sz r c
 | rp row b o cs T fr hM hb hfit hr=>simp [AV.q] at hq
 | agg l xs hs _ ih=>exact .agg l xs hs (fun i av hi=>ih i av hi (AV.qL_get l (by simpa [AV.q] using hq) i av hi))
 | tup l xs hs _ ih=>exact .tup l xs hs (fun i av hi=>ih i av hi (AV.qL_get l (by simpa [AV.q] using hq) i av hi))
 | clo f l xs hs _ ih=>exact .clo f l xs hs (fun i av hi=>ih i av hi (AV.qL_get l (by simpa [AV.q] using hq) i av hi))
theorem qT_get : ∀ (t : List (Nat × AV)),qT t = true→∀ i,(getT t i).q = true
 | [],_,i=>rfl
 | (k,v) :: t,h,i=>by
   simp only [qT,Bool.and_eq_true] at h;unfold getT
   split
   ·exact h.1
   ·exact qT_get t h.2 i
theorem qH_get : ∀ (h : AH),qH h = true→∀ i,(h.get i).q = true
 | [],_,i=>rfl
 | (k,v) :: t,h,i=>by
   simp only [qH,Bool.and_eq_true] at h;rw [get_cons]
   split
   ·exact h.1
   ·exact qH_get t h.2 i
def Ent (E : Env) (st : ASt) (S : ASt→Prop) : Prop:=∀ a w,Rep E.w0 E.base st a w→∃ st',S st'∧Rep E.w0 E.base st' a w
theorem Ent.refl {E : Env} {st : ASt} {S : ASt→Prop} (h : S st) : Ent E st S:=fun _ _ hR=>⟨st,h,hR⟩
def loopG {β : Type} (E : Env) (Inv : β→Prop) (I : β→ASt) (μ : β→Nat) (x : β) (Q : Exit→ASt→Prop) : Exit→ASt→Prop
 | .normal,st=>Ent E st fun st'=>∃ x',Inv x'∧μ x' < μ x∧Weak st' (I x')
 | e,st=>Q e st
theorem LoopT.introG {E : Env} (hE : EOk E) {body : Code} {Q : Exit→ASt→Prop} {st : ASt} {β : Type} (Inv : β→Prop) (I : β→ASt) (μ : β→Nat) (x0 : β) (h0 : Inv x0) (hw : Weak st (I x0))
 (hr : ∀ x,Inv x→Ent E (I x) (aSem E body (loopG E Inv I μ x Q))) : LoopT E body Q st:=by
 intro a w hR;refine wp_loop_ghost (fun n a w=>∃ x,Inv x∧μ x = n∧Rep E.w0 E.base (I x) a w) (μ x0) ⟨x0,h0,rfl,hw.rep hR⟩ ?_
 rintro n a w ⟨x,hx,rfl,hR⟩
 obtain ⟨st1,hs1,hR1⟩:=hr x hx a w hR;refine wp_mono (aSem_sound hE body _ _ a w hR1 hs1) ?_
 rintro e a' w' ⟨st',hq,hR'⟩
 cases e with
 | normal=>
   obtain ⟨st2,⟨x',h1,h2,h3⟩,hR2⟩:=hq a' w' hR';exact ⟨μ x',h2,x',h1,rfl,h3.rep hR2⟩
 | _=>exact ⟨st',hq,hR'⟩
def setC (rows : List (List CD)) (i j : Nat) (d : CD) : List (List CD):=rows.modify i fun r=>r.set j d
theorem setC_length (rows : List (List CD)) (i j : Nat) (d : CD) : (setC rows i j d).length = rows.length:=by simp [setC]
theorem setC_get {rows : List (List CD)} {i j : Nat} {d : CD} {i' j' : Nat} {row : List CD} {x : CD} (hi : (setC rows i j d)[i']? = some row) (hj : row[j']? = some x) :
 (i' = i∧j' = j∧x = d)∨¬ (i' = i∧j' = j)∧∃ row0,rows[i']? = some row0∧row0[j']? = some x:=by
 unfold setC at hi;rw [List.getElem?_modify] at hi;by_cases h : i = i'
 ·subst h
  simp only [↓reduceIte,Option.map_eq_map,Option.map_eq_some_iff] at hi;obtain ⟨row0,h0,rfl⟩:=hi;rw [List.getElem?_set] at hj;by_cases h2 : j = j'
  ·subst h2
   rw [if_pos rfl] at hj
   split at hj
   ·simp at hj;exact .inl ⟨rfl,rfl,hj.symm⟩
   ·simp at hj
  ·rw [if_neg h2] at hj
   exact .inr ⟨fun h=>h2 h.2.symm,row0,h0,hj⟩
 ·simp only [if_neg h] at hi
  simp at hi;exact .inr ⟨fun h'=>h h'.1.symm,row,hi,hj⟩
theorem setC_mem {rows : List (List CD)} {i j sz : Nat} {d : CD} (h : ∀ row∈rows,row.length = sz) : ∀ row∈setC rows i j d,row.length = sz:=by
 intro row hr;obtain ⟨k,hk⟩:=List.getElem?_of_mem hr;unfold setC at hk;rw [List.getElem?_modify] at hk;by_cases h' : i = k
 ·subst h'
  simp only [↓reduceIte,Option.map_eq_map,Option.map_eq_some_iff] at hk;obtain ⟨row0,h0,rfl⟩:=hk;simp [h row0 (List.mem_of_getElem? h0)]
 ·simp only [if_neg h'] at hk
  simp at hk;exact h row (List.mem_of_getElem? hk)
theorem Rep.reheap {w0 : World} {base : Bs} {st : ASt} {a : Act} {w : World} (hR : Rep w0 base st a w) (hq : qT st.t = true) {h' : AH} {E' : Nat→Nat→Prop} (H : HRel base h' w E') : Rep w0 base { st with h:=h' } a w:=
 ⟨hR.dfr,hR.size,fun i=>(hR.tmp i).quiet (qT_get _ hq i),⟨E',H⟩,hR.below,hR.base_le⟩
theorem ObjRel.quiet {w : World} {M M' E : Nat→Prop} {o : AObj} (h : ObjRel w M E o) (hq : o.q = true) (hM : ∀ c,E c→¬ M c→¬ M' c) : ObjRel w M' E o:=by
 cases o with
 | dead=>exact h
 | vars b T cells=>
   obtain ⟨cs,h1,h2,h3⟩:=h;exact ⟨cs,h1,h2,fun j av hj=>(h3 j av hj).quiet (AV.qL_get _ (by simpa [AObj.q] using hq) j av hj)⟩
 | rows H sz rows own=>
   cases H with
   | none=>exact h
   | some q=>
     obtain ⟨b,o,C⟩:=q;obtain ⟨cs,T,F,h1,h2,h3,h4,h5,h6,h7,h8,h9⟩:=h;refine ⟨cs,T,F,h1,h2,h3,h4,h5,h6,fun i j c hc=>⟨(h7 i j c hc).1,?_⟩,h8,h9⟩;exact hM c ((h7 i j c hc).1 (by simpa [AObj.q] using hq)) (h7 i j c hc).2
 | lent=>simp [AObj.q] at hq
 | part=>simp [AObj.q] at hq
theorem Ent.open {E : Env} {st : ASt} {S : ASt→Prop} (hFG : ∀ b,E.base.F b→E.base.G b) {k i j k' sz sz' : Nat} {H : Hd} {rows srows : List (List CD)} {row : List CD} (hk : st.h.get k = .rows H sz rows true)
 (hi : rows[i]? = some row) (hj : row[j]? = some (.s srows)) (hk' : st.h.get k' = .dead) (hz : 0 < sz') (hr : ∀ r∈srows,r.length = sz') (hq : st.quiet)
 (h : ∀ H',Ent E { st with h:=(k',.rows H' sz' srows true) :: (k,.rows H sz (setC rows i j (.h k' H' sz' srows.length)) true) :: st.h } S) : Ent E st S:=by
 intro a w hR;obtain ⟨Es,HH⟩:=hR.heap;have hne : k'≠k:=by rintro rfl;rw [hk] at hk';cases hk'
 have ho:=HH.obj k;rw [hk] at ho
 cases H with
 | none=>rw [show rows = [] from ho] at hi;simp at hi
 | some q=>
   obtain ⟨b,o,C⟩:=q;obtain ⟨cs,T,F,hb,hl,hC,hsz,hfit,hrl,hF,hd,hrd⟩:=ho;have hu:=hrd i j row _ hi hj;obtain ⟨u,hud⟩ : ∃ u,cs.getD (o + (i * sz + j)) undef = u:=⟨_,rfl⟩;rw [hud] at hu;have hblkk : (st.h.get k).blk = some b:=by rw [hk];rfl
   by_cases hs0 : srows = []∧(MlS k' sz' 0→∃ a,u = .slice a 0 0)
   ·obtain ⟨rfl,hs1⟩:=hs0
    refine h none a w (hR.reheap hq.1 (E':=Es) ?_)
    have hg : ∀ x,(AH.get ((k',AObj.rows none sz' [] true) :: (k,AObj.rows (some (b,o,C)) sz (setC rows i j (.h k' none sz' 0)) true) :: st.h) x).blk = (st.h.get x).blk:=by
     intro x;rw [get_cons,get_cons]
     split
     ·rename_i hx;subst hx;rw [hk'];rfl
     ·split
      ·rename_i hx;subst hx;rw [hk];rfl
      ·rfl
    have hM : ∀ c,AH.M ((k',AObj.rows none sz' [] true) :: (k,AObj.rows (some (b,o,C)) sz (setC rows i j (.h k' none sz' 0)) true) :: st.h) c ↔ st.h.M c:=by
     intro c;unfold AH.M;simp only [hg]
    refine ⟨fun x=>?_,fun x x' c h1 h2=>HH.inj x x' c (by rw [← hg];exact h1) (by rw [← hg];exact h2),fun x c h1=>HH.low x c (by rw [← hg];exact h1),HH.elow,HH.einj,fun x c hc hm=>HH.em x c hc ((hM c).1 hm)⟩;rw [get_cons,get_cons]
    split
    ·rfl
    ·split
     ·rename_i hx
      subst hx;refine ⟨cs,T,F,hb,by rw [setC_length];exact hl,hC,hsz,hfit,setC_mem hrl,fun i j c hc=>⟨(hF i j c hc).1,fun hm=>(hF i j c hc).2 ((hM c).1 hm)⟩,hd,?_⟩;intro i2 j2 row2 d2 h1 h2;rcases setC_get h1 h2 with ⟨rfl,rfl,rfl⟩ | ⟨-,row0,h3,h4⟩
      ·rw [hud];exact .h _ _ _ _ _ (fun h=>⟨hs1 h,rfl⟩) (fun _ _=>hu)
      ·exact hrd _ _ _ _ h3 h4
     ·exact (HH.obj x).mono (fun c _ hc=>(hM c).1 hc) (fun _ hc=>hc)
   ·cases hu with
    | empty a cap hc=>exact absurd ⟨rfl,fun _=>⟨a,by rw [hc rfl]⟩⟩ hs0
    | slice b1 off1 cap1 sz1 cs1 T1 fr1 _ F1 hcap1 hmax1 hsz1 hS1 hb1 hfit1 hown1 hF1 hd1 hlen1 hr1=>
      obtain ⟨hfr1,hroom1⟩:=hown1 rfl;subst hfr1
      have hkey : off1 + cap1 * sz'≤cs1.size∧(∀ row∈srows,row.length = sz')∧∀ i j row d,srows[i]? = some row→row[j]? = some d→Rd w true (F1 i j) (cs1.getD (off1 + (i * sz' + j)) undef) d:=by
       cases srows with
       | nil=>
         have h1 : sz' = 1:=Classical.byContradiction fun h=>hs0 ⟨rfl,fun h1=>h1.elim (fun h=>absurd h (by omega)) (fun h2=>absurd h2.1 h)⟩
         have:=Nat.mul_le_mul_left cap1 (show sz'≤sz1 by omega);exact ⟨by omega,by simp,fun i j row d h=>by simp at h⟩
       | cons r0 l=>
         have e : sz1 = sz':=by rw [← hlen1 r0 (List.mem_cons_self ..),hr r0 (List.mem_cons_self ..)]
         subst e;exact ⟨hroom1,hlen1,hr1⟩
      clear hr1 hlen1 hroom1 hfit1 hsz1
      obtain ⟨hroom1,hlen1,hr1⟩:=hkey;have hsz1:=hz;have hb1E : Es k b1:=(hF i j b1 hS1).1 rfl;have hb1M : ¬ st.h.M b1:=(hF i j b1 hS1).2;refine h (some (b1,off1,cap1)) a w (hR.reheap hq.1 (E':=fun x c=>if x = k' then (∃ i' j',F1 i' j' c) else if x = k then Es k c∧¬ F i j c else Es x c) ?_);have hE' : ∀ c,¬ Es k' c∨True:=fun _=>.inr trivial
      have hget : ∀ x,AH.get ((k',AObj.rows (some (b1,off1,cap1)) sz' srows true) :: (k,AObj.rows (some (b,o,C)) sz (setC rows i j (.h k' (some (b1,off1,cap1)) sz' srows.length)) true) :: st.h) x =
       if x = k' then AObj.rows (some (b1,off1,cap1)) sz' srows true else if x = k then AObj.rows (some (b,o,C)) sz (setC rows i j (.h k' (some (b1,off1,cap1)) sz' srows.length)) true else st.h.get x:=fun x=>rfl
      generalize hgen : (((k',AObj.rows (some (b1,off1,cap1)) sz' srows true) :: (k,AObj.rows (some (b,o,C)) sz (setC rows i j (.h k' (some (b1,off1,cap1)) sz' srows.length)) true) :: st.h) : AH) = h2 at hget ⊢
      change AH at h2
      have hblk : ∀ x c,(h2.get x).blk = some c→(x = k'∧c = b1)∨x≠k'∧(st.h.get x).blk = some c:=by
       intro x c hc;rw [hget] at hc
       split at hc
       ·rename_i hx;simp [AObj.blk] at hc;exact .inl ⟨hx,hc.symm⟩
       ·rename_i hx
        split at hc
        ·rename_i hx2;subst hx2;rw [hk];exact .inr ⟨hx,hc⟩
        ·exact .inr ⟨hx,hc⟩
      have hM : ∀ c,h2.M c→c = b1∨st.h.M c:=by
       rintro c ⟨x,hx⟩
       rcases hblk x c hx with h | h
       ·exact .inl h.2
       ·exact .inr ⟨x,h.2⟩
      have hF1E : ∀ i' j' c,F1 i' j' c→F i j c∧c≠b1:=fun i' j' c hc=>⟨(hF1 i' j' c hc).1,(hF1 i' j' c hc).2 rfl⟩
      refine ⟨fun x=>?_,fun x x' c h1 h2=>?_,fun x c h1=>?_,fun x c hc=>?_,fun x x' c hc hc'=>?_,fun x c hc hm=>?_⟩
      ·rw [hget]
       by_cases hx : x = k'
       ·simp only [if_pos hx]
        refine ⟨cs1,T1,F1,hb1,hcap1,hmax1,hsz1,hroom1,hlen1,fun i' j' c hc=>⟨fun _=>⟨i',j',hc⟩,fun hm=>?_⟩,fun _=>hd1 rfl,hr1⟩;obtain ⟨h1,h2⟩:=hF1E i' j' c hc;rcases hM c hm with rfl | h
        ·exact h2 rfl
        ·exact (hF i j c h1).2 h
       ·simp only [if_neg hx]
        by_cases hxk : x = k
        ·simp only [if_pos hxk]
         refine ⟨cs,T,fun i' j' c=>F i' j' c∧¬ (i' = i∧j' = j),hb,by rw [setC_length];exact hl,hC,hsz,hfit,setC_mem hrl,fun i' j' c hc=>⟨fun _=>⟨(hF i' j' c hc.1).1 rfl,fun h=>hc.2 (hd rfl _ _ _ _ c hc.1 h)⟩,fun hm=>?_⟩,fun _ i1 j1 i2 j2 c h1 h2=>hd rfl _ _ _ _ c h1.1 h2.1,?_⟩
         ·rcases hM c hm with rfl | h
          ·exact hc.2 (hd rfl _ _ _ _ c hc.1 hS1)
          ·exact (hF i' j' c hc.1).2 h
         ·intro i2 j2 row2 d2 h1 h2
          rcases setC_get h1 h2 with ⟨rfl,rfl,rfl⟩ | ⟨hn,row0,h3,h4⟩
          ·rw [hud]
           refine .h _ _ _ _ _ (fun _=>?_) (fun h0 h1=>absurd ⟨List.eq_nil_of_length_eq_zero h0,fun h=>absurd (h0 ▸ h) h1⟩ hs0);exact .inl ⟨by simp,by omega⟩
          ·exact (hrd _ _ _ _ h3 h4).map (fun _ _ _=>rfl) (fun c hc _=>⟨hc,hn⟩)
        ·simp only [if_neg hxk]
         refine (HH.obj x).quiet (qH_get _ hq.2 x) (fun c hc hm hm'=>?_);rcases hM c hm' with rfl | h
         ·exact hxk (HH.einj _ _ c hc hb1E)
         ·exact hm h
      ·rcases hblk x c h1 with ⟨rfl,rfl⟩ | ⟨hx,h1⟩<;>rcases hblk x' c h2 with ⟨hx',hc'⟩ | ⟨hx',h2⟩
       ·exact hx'.symm
       ·exact absurd ⟨x',h2⟩ hb1M
       ·rw [hc'] at h1;exact absurd ⟨x,h1⟩ hb1M
       ·exact HH.inj x x' c h1 h2
      ·rcases hblk x c h1 with ⟨rfl,rfl⟩ | ⟨hx,h1⟩
       ·have:=(HH.elow k c hb1E).1
        exact ⟨fun h=>this (hFG _ h),this⟩
       ·exact HH.low x c h1
      ·split at hc
       ·obtain ⟨i',j',hc⟩:=hc
        exact HH.elow k c ((hF i j c (hF1E i' j' c hc).1).1 rfl)
       ·split at hc
        ·exact HH.elow k c hc.1
        ·exact HH.elow x c hc
      ·have key : ∀ y,(if y = k' then (∃ i' j',F1 i' j' c) else if y = k then Es k c∧¬ F i j c else Es y c)→(y = k'∧F i j c∧Es k c)∨(y≠k'∧y = k∧Es k c∧¬ F i j c)∨(y≠k'∧y≠k∧Es y c):=by
        intro y hy
        split at hy
        ·rename_i h;obtain ⟨i',j',hy⟩:=hy
         exact .inl ⟨h,(hF1E i' j' c hy).1,(hF i j c (hF1E i' j' c hy).1).1 rfl⟩
        ·rename_i h
         split at hy
         ·rename_i h3;exact .inr (.inl ⟨h,h3,hy⟩)
         ·rename_i h3;exact .inr (.inr ⟨h,h3,hy⟩)
       rcases key x hc with ⟨h1,h2,h3⟩ | ⟨h0,h1,h2,h3⟩ | ⟨h0,h1,h2⟩<;>rcases key x' hc' with ⟨g1,g2,g3⟩ | ⟨g0,g1,g2,g3⟩ | ⟨g0,g1,g2⟩
       ·rw [h1,g1]
       ·exact absurd h2 g3
       ·exact absurd (HH.einj _ _ c g2 h3) g1
       ·exact absurd g2 h3
       ·rw [h1,g1]
       ·exact absurd (HH.einj _ _ c g2 h2) g1
       ·exact absurd (HH.einj _ _ c h2 g3) h1
       ·exact absurd (HH.einj _ _ c h2 g2) h1
       ·exact HH.einj _ _ c h2 g2
      ·split at hc
       ·obtain ⟨i',j',hc⟩:=hc
        obtain ⟨h1,h2⟩:=hF1E i' j' c hc;rcases hM c hm with rfl | h
        ·exact h2 rfl
        ·exact (hF i j c h1).2 h
       ·split at hc
        ·rcases hM c hm with rfl | h
         ·exact hc.2 hS1
         ·exact HH.em k c hc.1 h
        ·rename_i hxk
         rcases hM c hm with rfl | h
         ·exact hxk (HH.einj _ _ c hc hb1E)
         ·exact HH.em x c hc h
end Go.AM
