import Derived.Test.YtoldjebobgocpaaGreatMD
namespace Go.AM
open Go.RowKit
section
variable {P : Program} {T : Nat->Option TI} {w0 : World} {base : Bs} {E : Env} {Q : Exit->ASt->Prop} {K : ASt->Prop} {st : ASt}
@[congr] theorem QY {d : Option Nat} {v v' : AV} (h : v = v') : aV st d v K = aV st d v' K:=by rw [h]
@[congr] theorem QS (f : Nat) {l l' : List AV} {d : Option Nat} (h : l = l') : aa E f l st d K = aa E f l' st d K:=by rw [h]
structure Ph {α : Sort _} (a : α) : Type where
 mk ::
def ph {α : Sort _} (a : α) : Ph a:=⟨⟩
def Br (b : Bool) {X Y : Prop} (_ : Ph X) (_ : Ph Y) : Prop:=(b = true->X)/\(b = false->Y)
theorem Sq {X Y : Prop} {p : Ph X} {q : Ph Y} : Br true p q = X:=by simp [Br]
theorem Ss {X Y : Prop} {p : Ph X} {q : Ph Y} : Br false p q = Y:=by simp [Br]
theorem Sr {b : Bool} {X Y : Prop} {p : Ph X} {q : Ph Y} : Br (!b) p q = Br b q p:=by cases b<;>simp [Br]
theorem Br.mk {b : Bool} {X Y : Prop} {p : Ph X} {q : Ph Y} (h : b = true->X) (k : b = false->Y) : Br b p q:=⟨h,k⟩
theorem Nb : d9 E .skip Q st = Q .normal st:=(rfl)
theorem Hk {id : Nat} {l : List Oper} : d9 E (.region id ⟨l⟩ false) Q st = oz E l l (Q .normal) st:=(rfl)
theorem Nf {id : Nat} {l : List Oper} : d9 E (.region id ⟨l⟩ true) Q st = au E id l Q st:=(rfl)
theorem Qe {x y : Code} : d9 E (.seq x y) Q st = d9 E x (Fo (d9 E y Q) Q) st:=(rfl)
theorem Ng {c : Operand} {x y : Code} : d9 E (.cond c x y) Q st = jA (st.ev c) λb=>Br b (ph (d9 E x Q st)) (ph (d9 E y Q st)):=(rfl)
theorem Ju {id : Nat} {x : Code} : d9 E (.block id x) Q st = d9 E x (w7 id Q) st:=(rfl)
theorem Nc {x : Code} : d9 E (.loop x) Q st = aB E x Q st:=(rfl)
theorem Nd {id : Nat} : d9 E (.exit id) Q st = Q (.exit id) st:=(rfl)
theorem Qf : d9 E .ret Q st = Q .ret st:=(rfl)
theorem Nm : Fo K Q .normal st = K st:=(rfl)
theorem Nl : Fo K Q .ret st = Q .ret st:=(rfl)
theorem Nn {i : Nat} : Fo K Q (.exit i) st = Q (.exit i) st:=(rfl)
theorem Nq {i : Nat} : w7 i Q .normal st = Q .normal st:=(rfl)
theorem No {i : Nat} : w7 i Q .ret st = Q .ret st:=(rfl)
theorem Nr {i : Nat} : w7 i Q (.exit i) st = Q .normal st:=by simp [w7]
theorem Np {i j : Nat} (h : j≠i) : w7 i Q (.exit j) st = Q (.exit j) st:=by simp [w7,h]
def q6 (x : AV) (want : Bool) {R S : Prop} (_ : Ph R) (_ : Ph S) : Prop:=
 match x with
 | .v (.bool b)=>(b = want->R)/\(b = !want->S)
 | .un=>S
 | _=>False
def w9 (o : Option Nat) (F : Nat->Prop) : Prop:=
 match o with
 | some d=>F d
 | none=>False
theorem DS {d : Nat} {F : Nat->Prop} : w9 (some d) F = F d:=(rfl)
theorem Jb {b : Bool} {R S : Prop} {r : Ph R} {s : Ph S} : q6 .un b r s = S:=(rfl)
theorem DV {R S : Prop} {r : Ph R} {s : Ph S} {c : Bool} : q6 (.v (.bool c)) true r s = Br c r s:=(rfl)
theorem A7 {R S : Prop} {r : Ph R} {s : Ph S} {c : Bool} : q6 (.v (.bool c)) false r s = Br c s r:=by simp [q6,Br,And.comm]
theorem Qq {all : List Oper} : oz E all [] K st = K st:=(rfl)
theorem Nu {all rest : List Oper} {d : Option Nat} {op : Op} {t : TypeId} {p : String} {af : Array Edge} :
 oz E all (⟨d,op,t,p,af,none⟩ :: rest) K st = aOp E ⟨d,op,t,p,af,none⟩ st (oz E all rest K):=(rfl)
theorem Jw {all rest : List Oper} {d : Option Nat} {op : Op} {t : TypeId} {p : String} {af : Array Edge} {j : Nat} {b : Bool} :
 oz E all (⟨d,op,t,p,af,some (j,b)⟩ :: rest) K st = w9 (gO all j) λs=>q6 (aG st.t s) b (ph (aOp E ⟨d,op,t,p,af,some (j,b)⟩ st (oz E all rest K))) (ph (aV st d .un (oz E all rest K))):=by
 simp only [oz,G4,w9,q6]
 cases gO all j with
 | none=>rfl
 | some s=>rfl
theorem IO {d : Option Nat} {op : Op} {t : TypeId} {p : String} {af : Array Edge} {g : Option (Nat × Bool)} {l : List Oper} : gO (⟨d,op,t,p,af,g⟩ :: l) 0 = d:=(rfl)
theorem IN {o : Oper} {l : List Oper} {j : Nat} : gO (o :: l) (j + 1) = gO l j:=(rfl)
theorem Nt {v : AV} : aV st none v K = K st:=(rfl)
theorem Qo {n kb d : Nat} {t : List (Nat × AV)} {h : AH}  : aV ⟨n,kb,t,h⟩ (some d) .any K = (d < n/\K ⟨n,kb,(d,.any) :: t,h⟩):=(rfl)
theorem R7 {n kb d : Nat} {t : List (Nat × AV)} {h : AH}  : aV ⟨n,kb,t,h⟩ (some d) .un K = (d < n/\K ⟨n,kb,(d,.un) :: t,h⟩):=(rfl)
theorem Qm {n kb d : Nat} {t : List (Nat × AV)} {h : AH}  : aV ⟨n,kb,t,h⟩ (some d) .nil K = (d < n/\K ⟨n,kb,(d,.nil) :: t,h⟩):=(rfl)
theorem P_v {n kb d : Nat} {t : List (Nat × AV)} {h : AH} {u : Value} : aV ⟨n,kb,t,h⟩ (some d) (.v u) K = (d < n/\K ⟨n,kb,(d,(.v u)) :: t,h⟩):=(rfl)
theorem Sa {n kb d : Nat} {t : List (Nat × AV)} {h : AH} {r : List (List CD)} : aV ⟨n,kb,t,h⟩ (some d) (.ro r) K = (d < n/\K ⟨n,kb,(d,(.ro r)) :: t,h⟩):=(rfl)
theorem R8 {n kb d : Nat} {t : List (Nat × AV)} {h : AH} {k sz off len : Nat} {H : Hd} : aV ⟨n,kb,t,h⟩ (some d) (.sl k H sz off len) K = (d < n/\K ⟨n,kb,(d,(.sl k H sz off len)) :: t,h⟩):=(rfl)
theorem P_p {n kb d : Nat} {t : List (Nat × AV)} {h : AH} {k b c : Nat} : aV ⟨n,kb,t,h⟩ (some d) (.p k b c) K = (d < n/\K ⟨n,kb,(d,(.p k b c)) :: t,h⟩):=(rfl)
theorem P_e {n kb d : Nat} {t : List (Nat × AV)} {h : AH} {k sz r c : Nat} {H : Hd} : aV ⟨n,kb,t,h⟩ (some d) (.e k H sz r c) K = (d < n/\K ⟨n,kb,(d,(.e k H sz r c)) :: t,h⟩):=(rfl)
theorem R9 {n kb d : Nat} {t : List (Nat × AV)} {h : AH} {r : List CD} : aV ⟨n,kb,t,h⟩ (some d) (.rp r) K = (d < n/\K ⟨n,kb,(d,(.rp r)) :: t,h⟩):=(rfl)
theorem Qp {n kb d : Nat} {t : List (Nat × AV)} {h : AH} {l : List AV} : aV ⟨n,kb,t,h⟩ (some d) (.agg l) K = (d < n/\K ⟨n,kb,(d,(.agg l)) :: t,h⟩):=(rfl)
theorem Ql {n kb d : Nat} {t : List (Nat × AV)} {h : AH} {l : List AV} : aV ⟨n,kb,t,h⟩ (some d) (.tup l) K = (d < n/\K ⟨n,kb,(d,(.tup l)) :: t,h⟩):=(rfl)
theorem Sc {n kb d : Nat} {t : List (Nat × AV)} {h : AH} {u : Value} {len : Nat} : aV ⟨n,kb,t,h⟩ (some d) (.cv u len) K = (d < n/\K ⟨n,kb,(d,(.cv u len)) :: t,h⟩):=(rfl)
theorem Sb {n kb d : Nat} {t : List (Nat × AV)} {h : AH} {k sz len : Nat} {H : Hd} : aV ⟨n,kb,t,h⟩ (some d) (.ml k H sz len) K = (d < n/\K ⟨n,kb,(d,(.ml k H sz len)) :: t,h⟩):=(rfl)
theorem Qn {n kb d : Nat} {t : List (Nat × AV)} {h : AH} {f : Nat} {l : List AV} : aV ⟨n,kb,t,h⟩ (some d) (.clo f l) K = (d < n/\K ⟨n,kb,(d,(.clo f l)) :: t,h⟩):=(rfl)
theorem Qv {i : Nat} : aG [] i = .any:=(rfl)
theorem Hr {i : Nat} {v : AV} {t : List (Nat × AV)} : aG ((i,v) :: t) i = v:=by simp [aG]
theorem Bm {i j : Nat} {v : AV} {t : List (Nat × AV)} (h : i≠j) : aG ((j,v) :: t) i = aG t i:=by simp [aG,h]
theorem QP {i : Nat} : AH.get [] i = .dead:=(rfl)
theorem QR {i : Nat} {v : AObj} {t : AH} : AH.get ((i,v) :: t) i = v:=by simp [AH.get]
theorem NH {i j : Nat} {v : AObj} {t : AH} (h : i≠j) : AH.get ((j,v) :: t) i = AH.get t i:=by simp [AH.get,h]
@[congr] theorem SD {x x' : Operand} (h : x = x') : st.ev x = st.ev x':=by rw [h]
theorem MG {n kb i : Nat} {t : List (Nat × AV)} {h : AH} : ASt.ev ⟨n,kb,t,h⟩ (.tmp i) = aG t i:=(rfl)
theorem MK {k : IntKind} {i : Int} : st.ev (.const (.int k i)) = .v (.int k i):=(rfl)
theorem I0 {b : Bool} : st.ev (.const (.bool b)) = .v (.bool b):=(rfl)
theorem MH {b : ByteArray} : st.ev (.const (.string b)) = .v (.string b):=(rfl)
theorem MJ : st.ev (.const (.slice none 0 0)) = .nil:=(rfl)
theorem IZ {f : Nat} : st.ev (.func f) = .v (.func (.func f) #[] #[]):=(rfl)
theorem F0 {n kb d : Nat} {t : List (Nat × AV)} {h : AH} : ASt.key ⟨n,kb,t,h⟩ (some d) = kb + 16 * d:=(rfl)
theorem F4 {n kb : Nat} {t : List (Nat × AV)} {h : AH} : ASt.key ⟨n,kb,t,h⟩ none = kb:=(rfl)
def wT (o : Option TI) (F : TI->Prop) : Prop:=
 match o with
 | some ti=>F ti
 | none=>False
@[congr] theorem Sx {x x' : Option TI} {F : TI->Prop} (h : x = x') : wT x F = wT x' F:=by rw [h]
theorem HJ {ti : TI} {F : TI->Prop} : wT (some ti) F = F ti:=(rfl)
def wE (e : Option Nat) (F : Nat->Prop) : Prop:=
 match e with
 | some e=>F e
 | none=>False
@[congr] theorem SB {x x' : Option Nat} {F : Nat->Prop} (h : x = x') : wE x F = wE x' F:=by rw [h]
theorem HM {e : Nat} {F : Nat->Prop} : wE (some e) F = F e:=(rfl)
theorem y8 {t : Nat} {F : Nat->TI->Prop} : cM ⟨P,T,w0,base⟩ t F = wT (T t) λti=>wE ti.sl λe=>wT (T e) (F e):=by
 unfold cM wT wE;simp only
 cases T t with
 | none=>rfl
 | some ti =>
   simp only
   cases ti.sl with
   | none=>rfl
   | some e=>simp only;cases T e<;>rfl
section ops
variable {d : Option Nat} {t : TypeId} {p : String} {af : Array Edge} {g : Option (Nat × Bool)} {x y : Operand}
theorem M6 : aOp E ⟨d,.move x,t,p,af,g⟩ st K = aV st d (st.ev x) K:=(rfl)
theorem Hh : aOp E ⟨d,.assign x,t,p,af,g⟩ st K = aV st d (st.ev x) K:=(rfl)
theorem M5 {c a b : Operand} : aOp E ⟨d,.pick c a b,t,p,af,g⟩ st K = jA (st.ev c) λz=>Br z (ph (aV st d (st.ev a) K)) (ph (aV st d (st.ev b) K)):=(rfl)
theorem Jr {T' : TypeId} {l : List (Nat × Operand)} : aOp E ⟨d,.build T' ⟨l⟩,t,p,af,g⟩ st K = kr E T' (l.map λq=>(q.1,st.ev q.2)) λv=>aV st d v K:=(rfl)
theorem M8 {T' : TypeId} : aOp E ⟨d,.load T' x,t,p,af,g⟩ st K = lU E st.h T' (st.ev x) λv=>aV st d v K:=(rfl)
theorem P4 : aOp E ⟨d,.nilCheck x,t,p,af,g⟩ st K = q8 (st.ev x) λv=>aV st d v K:=(rfl)
theorem Qd {op : BinOp} {T' U : TypeId} : aOp E ⟨d,.binOp op T' x y U,t,p,af,g⟩ st K = kL E op T' (st.ev x) (st.ev y) λv=>aV st d v K:=(rfl)
theorem P2 {T' : TypeId} : aOp E ⟨d,.unOp .not T' x,t,p,af,g⟩ st K = jA (st.ev x) λb=>aV st d (.v (.bool (!b))) K:=(rfl)
theorem M9 {s T' : TypeId} : aOp E ⟨d,.convert s T' x,t,p,af,g⟩ st K = iI E st.h s T' (st.ev x) λv=>aV st d v K:=(rfl)
theorem He {T' : TypeId} {lo hi : Option Operand} {mx : Operand} : aOp E ⟨d,.slice T' x lo hi (some mx),t,p,af,g⟩ st K = po E T' (st.ev x) (lo.map st.ev) (hi.map st.ev) (st.ev mx) λv=>aV st d v K:=(rfl)
theorem Jn {T' : TypeId} {lo hi : Option Operand} : aOp E ⟨d,.slice T' x lo hi none,t,p,af,g⟩ st K = gL E T' (st.ev x) (lo.map st.ev) (hi.map st.ev) λv=>aV st d v K:=(rfl)
theorem Jp {T' : TypeId} {f : Nat} : aOp E ⟨d,.fieldAddr T' x f,t,p,af,g⟩ st K = lE E T' f (st.ev x) λv=>aV st d v K:=(rfl)
theorem Hf {T' : TypeId} {f : Nat} : aOp E ⟨d,.field T' x f,t,p,af,g⟩ st K = lD E T' f (st.ev x) λv=>aV st d v K:=(rfl)
theorem Jo {T' : TypeId} : aOp E ⟨d,.indexAddr T' x y,t,p,af,g⟩ st K = cM E T' λ_ te=>aCv E (st.ev x) λz=>indexAt te z (st.ev y) λv=>aV st d v K:=(rfl)
theorem Qa {T' : TypeId} : aOp E ⟨d,.index T' x y,t,p,af,g⟩ st K = zq E T' (st.ev x) (st.ev y) λv=>aV st d v K:=(rfl)
theorem Eb {i : Nat} : aOp E ⟨d,.extract x i,t,p,af,g⟩ st K = dC (st.ev x) i λv=>aV st d v K:=(rfl)
theorem Js {T' : TypeId} : aOp E ⟨d,.alloc T',t,p,af,g⟩ st K = qd E st d T' K:=(rfl)
theorem Qb {T' : TypeId} : aOp E ⟨d,.box T' x,t,p,af,g⟩ st K = zs E st d T' (st.ev x) K:=(rfl)
theorem Hg {T' : TypeId} {len : Nat} {l : List (Nat × Operand)} : aOp E ⟨d,.buildSlice T' len ⟨l⟩,t,p,af,g⟩ st K = gn E st d T' len (l.map λq=>(q.1,st.ev q.2)) K:=(rfl)
theorem M7 {T' : TypeId} : aOp E ⟨d,.makeSlice T' x y,t,p,af,g⟩ st K = vv E st d T' (st.ev x) (st.ev y) K:=(rfl)
theorem Jm {T' : TypeId} : aOp E ⟨d,.store T' x y,t,p,af,g⟩ st K = kn E st T' (st.ev x) (st.ev y) λst'=>aV st' d .un K:=(rfl)
theorem P9 {T' : TypeId} : aOp E ⟨d,.call ⟨.builtin .len,#[x],#[T']⟩,t,p,af,g⟩ st K = ns E T' (st.ev x) λv=>aV st d v K:=(rfl)
theorem Hi {T' U : TypeId} : aOp E ⟨d,.call ⟨.builtin .append,#[x,y],#[T',U]⟩,t,p,af,g⟩ st K = (T' = U/\ed E st d T' (st.ev x) (st.ev y) K):=(rfl)
theorem P7 {U1 U2 : TypeId} : aOp E ⟨d,.call ⟨.builtin .min,#[x,y],#[U1,U2]⟩,t,p,af,g⟩ st K = xg (st.ev x) (st.ev y) λv=>aV st d v K:=(rfl)
theorem P8 {U1 U2 : TypeId} : aOp E ⟨d,.call ⟨.builtin .max,#[x,y],#[U1,U2]⟩,t,p,af,g⟩ st K = zk (st.ev x) (st.ev y) λv=>aV st d v K:=(rfl)
theorem Na {f : Nat} {l : List Operand} {ts : List TypeId} : aOp E ⟨d,.call ⟨.value (.func f),⟨l⟩,⟨ts⟩⟩,t,p,af,g⟩ st K = aa E f (l.map st.ev) st d K:=(rfl)
end ops
@[congr] theorem PJ {x x' : AV} {F : Bool->Prop} (h : x = x') : jA x F = jA x' F:=by rw [h]
theorem Jd {b : Bool} {F : Bool->Prop} : jA (.v (.bool b)) F = F b:=(rfl)
@[congr] theorem QX {x x' y y' : AV} {F : Value->Value->Prop} (h : x = x') (k : y = y') : DX x y F = DX x' y' F:=by rw [h,k]
@[congr] theorem PR {E : Env} {op : BinOp} {T : Nat} {x x' y y' : AV} {F : AV->Prop} (h : x = x') (k : y = y') : kL E op T x y F = kL E op T x' y' F:=by rw [h,k]
theorem Jg {E : Env} {op : BinOp} {T : Nat} {a b : Value} {F : AV->Prop} : kL E op T (.v a) (.v b) F = cY (E.isBool T) op a b F:=(rfl)
theorem Az : gE [] = some []:=(rfl)
theorem yC {a : Int} {l : List AV} : gE (.v (.int .i64 a) :: l) = (gE l).map (a :: ·):=(rfl)
theorem MU {a b : Value} {F : Value->Value->Prop} : DX (.v a) (.v b) F = F a b:=(rfl)
@[congr] theorem Q0 {x x' : AV} {F : AV->Prop} (h : x = x') : q8 x F = q8 x' F:=by rw [h]
@[congr] theorem JR {x x' : AV} {i : Nat} {F : AV->Prop} (h : x = x') : dC x i F = dC x' i F:=by rw [h]
theorem Bi {v : AV} {l : List AV} {F : AV->Prop} : dC (.tup (v :: l)) 0 F = F v:=(rfl)
theorem Bh {v : AV} {l : List AV} {i : Nat} {F : AV->Prop} : dC (.tup (v :: l)) (i + 1) F = dC (.tup l) i F:=(rfl)
noncomputable def dc (p : Prop) : Bool:=@decide p (Classical.propDecidable p)
theorem RW : dc True = true:=by simp [dc]
theorem RX : dc False = false:=by simp [dc]
theorem gK {p : Prop} : (dc p = true) = p:=by simp [dc]
theorem bY {p : Prop} : (dc p = false) = ¬ p:=by simp [dc]
theorem jY {p : Prop} (h : dc p = true) : p:=by simpa [dc] using h
theorem nG {p : Prop} (h : dc p = false) : ¬ p:=by simpa [dc] using h
theorem pl (p : Prop) [Decidable p] : dc p = decide p:=by simp [dc]
theorem vp (b : ByteArray) : b.toList = b.data.toList:=by
 unfold ByteArray.toList
 have : ∀ (n i : Nat) (r : List UInt8),b.size - i = n->ByteArray.toList.loop b i r = r.reverse ++ b.data.toList.drop i:=by
  intro n
  induction n with
  | zero =>
    intro i r h;rw [ByteArray.toList.loop];rw [if_neg (by omega)];have : b.data.toList.length<=i:=by have : b.data.size = b.size:=rfl;simp;omega
    rw [List.drop_of_length_le this];simp
  | succ n ih =>
    intro i r h;rw [ByteArray.toList.loop];rw [if_pos (by omega),ih (i + 1) _ (by omega)];have hs : i < b.data.toList.length:=by have : b.data.size = b.size:=rfl;simp;omega
    rw [List.drop_eq_getElem_cons hs]
    have hg : b.get! i = b.data.toList[i]:=by
     show b.data[i]! = _
     have : i < b.data.size:=by simpa using hs
     rw [getElem!_pos b.data i this];simp
    rw [hg];simp
 simpa using this b.size 0 [] (by omega)
theorem Fi (a b : ByteArray) : (a.toList == b.toList) = dc (a = b):=by
 rw [vp,vp,pl];by_cases h : a = b
 ·subst h;simp
 ·have : a.data.toList≠b.data.toList:=by
   intro he
   apply h
   cases a;cases b
   simpa using he
  rw [decide_eq_false h];exact beq_eq_false_iff_ne.2 this
section bins
variable {k k' : IntKind} {a b : Int} {tb : Prop} {F : AV->Prop} {s u : ByteArray} {x y : Bool}
@[congr] theorem Q5 {op : BinOp} {x x' y y' : Value} (h : x = x') (h' : y = y') : cY tb op x y F = cY tb op x' y' F:=by rw [h,h']
theorem QO : cY tb .add (.int k a) (.int k b) F = F (.v (.int k (k.wrap (a + b)))):=by simp [cY]
theorem QB : cY tb .sub (.int k a) (.int k b) F = F (.v (.int k (k.wrap (a - b)))):=by simp [cY]
theorem QH : cY tb .mul (.int k a) (.int k b) F = F (.v (.int k (k.wrap (a * b)))):=by simp [cY]
theorem QF : cY tb .quo (.int k a) (.int k b) F = (b≠0/\F (.v (.int k (k.wrap (a.tdiv b))))):=by simp [cY]
theorem QE : cY tb .rem (.int k a) (.int k b) F = (b≠0/\F (.v (.int k (a.tmod b)))):=by simp [cY]
theorem QN : cY tb .and (.int k a) (.int k b) F = F (.v (.int k (bits .and k a b))):=by simp [cY]
theorem St : cY tb .or (.int k a) (.int k b) F = F (.v (.int k (bits .or k a b))):=by simp [cY]
theorem QA : cY tb .xor (.int k a) (.int k b) F = F (.v (.int k (bits .xor k a b))):=by simp [cY]
theorem QD : cY tb .shl (.int k a) (.int k' b) F = (0<=b/\b<=k.bits/\F (.v (.int k (k.wrap (a * 2 ^ b.toNat))))):=by simp [cY]
theorem QC : cY tb .shr (.int k a) (.int k' b) F = (0<=b/\b<=k.bits/\F (.v (.int k (a / 2 ^ b.toNat)))):=by simp [cY]
theorem QI : cY tb .lss (.int k a) (.int k b) F = F (.v (.bool (dc (a < b)))):=by simp [cY,pl]
theorem QJ : cY tb .leq (.int k a) (.int k b) F = F (.v (.bool (dc (a<=b)))):=by simp [cY,pl]
theorem QK : cY tb .gtr (.int k a) (.int k b) F = F (.v (.bool (dc (b < a)))):=by simp [cY,pl]
theorem QL : cY tb .geq (.int k a) (.int k b) F = F (.v (.bool (dc (b<=a)))):=by simp [cY,pl]
theorem QM : cY tb .eql (.int k a) (.int k b) F = F (.v (.bool (dc (a = b)))):=by simp [cY,pl]
theorem QG : cY tb .neq (.int k a) (.int k b) F = F (.v (.bool (!dc (a = b)))):=by simp [cY,pl]
theorem PH (x y : Bool) : (x == y) = dc (x = y):=by cases x<;>cases y<;>simp [dc]
theorem NE : cY tb .eql (.bool x) (.bool y) F = (tb/\F (.v (.bool (dc (x = y))))):=by simp only [cY,PH]
theorem ND : cY tb .neq (.bool x) (.bool y) F = (tb/\F (.v (.bool (!dc (x = y))))):=by simp only [cY,PH]
theorem NB : cY tb .eql (.string s) (.string u) F = F (.v (.bool (dc (s = u)))):=by simp only [cY,Fi]
theorem Ny : cY tb .neq (.string s) (.string u) F = F (.v (.bool (!dc (s = u)))):=by simp only [cY,Fi]
theorem NC : cY tb .add (.string s) (.string u) F = (s.size + u.size<=140737488355328/\F (.v (.string (s ++ u)))):=by simp [cY]
end bins
def wI2 (x y : Option (List Int)) (F : List Int->List Int->Prop) : Prop:=
 match x,y with
 | some a,some b=>F a b
 | _,_=>False
theorem JU {a b : List Int} {F : List Int->List Int->Prop} : wI2 (some a) (some b) F = F a b:=(rfl)
@[congr] theorem Rb {x x' y y' : Option (List Int)} {F : List Int->List Int->Prop} (h : x = x') (k : y = y') : wI2 x y F = wI2 x' y' F:=by rw [h,k]
theorem D8 {t : Nat} {l m : List AV} {F : AV->Prop} : kL ⟨P,T,w0,base⟩ .eql t (.agg l) (.agg m) F = wT (T t) λti=>ti.ieq = true/\wI2 (gE l) (gE m) λa b=>a.length = ti.n/\b.length = ti.n/\F (.v (.bool (dc (a = b)))):=by
 simp only [kL,D4,wT,wI2,pl];rfl
theorem D7 {t : Nat} {l m : List AV} {F : AV->Prop} : kL ⟨P,T,w0,base⟩ .neq t (.agg l) (.agg m) F = wT (T t) λti=>ti.ieq = true/\wI2 (gE l) (gE m) λa b=>a.length = ti.n/\b.length = ti.n/\F (.v (.bool (!dc (a = b)))):=by
 simp only [kL,D4,wT,wI2,pl];rfl
theorem Dh {t : Nat} : Env.isBool ⟨P,T,w0,base⟩ t = wT (T t) λti=>ti.boo = true:=by
 unfold Env.isBool wT;simp only
 cases T t<;>rfl
theorem F6 {t : Nat} : Env.isStr ⟨P,T,w0,base⟩ t = wT (T t) λti=>ti.str = true:=by
 unfold Env.isStr wT;simp only
 cases T t<;>rfl
theorem yB {t : Nat} : Env.known ⟨P,T,w0,base⟩ t = wT (T t) λ_=>True:=by
 unfold Env.known wT;simp only
 cases T t<;>rfl
section loads
variable {h : AH} {t : Nat} {x x' y y' : AV} {F : AV->Prop} {ti : TI}
@[congr] theorem PN (hx : x = x') : lU E h t x F = lU E h t x' F:=by rw [hx]
theorem G7 : lU ⟨P,T,w0,base⟩ h t x F = wT (T t) λti=>loadAt ti h x F:=by unfold lU wT;simp only;cases T t<;>rfl
@[congr] theorem NO {f : Nat} (hx : x = x') : lE E t f x F = lE E t f x' F:=by rw [hx]
theorem Bg {f : Nat} : lD ⟨P,T,w0,base⟩ t f x F = wT (T t) λti=>lj ti f x F:=by unfold lD wT;simp only;cases T t<;>rfl
theorem D3 {f : Nat} : lE ⟨P,T,w0,base⟩ t f x F = wT (T t) λti=>fieldAt ti f x F:=by unfold lE wT;simp only;cases T t<;>rfl
@[congr] theorem R5 (hx : x = x') : aCv E x F = aCv E x' F:=by rw [hx]
@[simp ↓] theorem R3 {rows : List (List CD)} : aCv E (.ro rows) F = F (.ro rows):=(rfl)
@[simp ↓] theorem R0 {kk sz off len : Nat} {H : Hd} : aCv E (.sl kk H sz off len) F = F (.sl kk H sz off len):=(rfl)
@[simp ↓] theorem R4 {kk sz len : Nat} {H : Hd} : aCv E (.ml kk H sz len) F = F (.ml kk H sz len):=(rfl)
@[simp ↓] theorem Q3 : aCv E .nil F = F .nil:=(rfl)
@[congr] theorem Mp (hx : x = x') (hy : y = y') : indexAt ti x y F = indexAt ti x' y' F:=by rw [hx,hy]
theorem Sl {rows : List (List CD)} {k : IntKind} {n : Int} : indexAt ti (.ro rows) (.v (.int k n)) F = (0<=n/\n < rows.length/\∀ row,rows[n.toNat]? = some row->row.length = ti.n/\F (.rp row)):=(rfl)
theorem Sk {kk sz off len : Nat} {H : Hd} {k : IntKind} {n : Int} : indexAt ti (.sl kk H sz off len) (.v (.int k n)) F = (0<=n/\n < len/\sz = ti.n/\F (.e kk H sz (off + n.toNat) 0)):=(rfl)
theorem Sm {kk sz len : Nat} {H : Hd} {k : IntKind} {n : Int} : indexAt ti (.ml kk H sz len) (.v (.int k n)) F = (0<=n/\n < len/\sz = ti.n/\F (.e kk H sz n.toNat 0)):=(rfl)
@[congr] theorem Q1 (hx : x = x') : ns E t x F = ns E t x' F:=by rw [hx]
theorem Sg {rows : List (List CD)} : ns E t (.ro rows) F = cM E t λ_ _=>F (.v (.int .i64 rows.length)):=(rfl)
theorem Sf {kk sz off len : Nat} {H : Hd} : ns E t (.sl kk H sz off len) F = cM E t λ_ _=>F (.v (.int .i64 len)):=(rfl)
theorem Sj {u : Value} {len : Nat} : ns E t (.cv u len) F = cM E t λ_ _=>F (.v (.int .i64 len)):=(rfl)
theorem Si {kk sz len : Nat} {H : Hd} : ns E t (.ml kk H sz len) F = cM E t λ_ _=>F (.v (.int .i64 len)):=(rfl)
theorem Qu : ns E t .nil F = cM E t λ_ _=>F (.v (.int .i64 0)):=(rfl)
theorem Nw : ns E t (.v (.slice none 0 0)) F = cM E t λ_ _=>F (.v (.int .i64 0)):=(rfl)
theorem Qt {s : ByteArray} : ns E t (.v (.string s)) F = (E.isStr t/\F (.v (.int .i64 s.size))):=(rfl)
@[congr] theorem Me {row row' : List CD} (hr : row = row') : dE ti row F = dE ti row' F:=by rw [hr]
@[congr] theorem NJ (hx : x = x') : loadAt ti h x F = loadAt ti h x' F:=by rw [hx]
theorem So {row : List CD} : loadAt ti h (.rp row) F = dE ti row F:=(rfl)
theorem CT {row : List CD} (ha : ti.agg = true) : dE ti row F = (ti.n<=row.length/\F (.agg ((row.take ti.n).map toAV))):=by simp [dE,ha]
theorem CU {d : CD} {row : List CD} (ha : ti.agg = false) : dE ti (d :: row) F = F (toAV d):=by simp [dE,ha]
theorem Am {c : Nat} {cells : List AV} (ha : ti.agg = true) : gD ti cells c F = (c + ti.n<=cells.length/\F (.agg ((cells.drop c).take ti.n))):=by simp [gD,ha]
theorem An {c : Nat} {cells : List AV} (ha : ti.agg = false) : gD ti cells c F = dC (.tup cells) c F:=by
 simp only [gD,ha,dC];rfl
def wV (o : AObj) (F : Nat->List AV->Prop) : Prop:=
 match o with
 | .vars b _ cells=>F b cells
 | _=>False
def wVT (o : AObj) (F : Nat->TypeId->List AV->Prop) : Prop:=
 match o with
 | .vars b t cells=>F b t cells
 | _=>False
def wR (o : AObj) (F : Hd->Nat->List (List CD)->Bool->Prop) : Prop:=
 match o with
 | .rows H sz rows own=>F H sz rows own
 | _=>False
def wRL (o : AObj) (F : Hd->Nat->List (List CD)->Bool->Prop) (G : Hd->Nat->List (List CD)->Prop) : Prop:=
 match o with
 | .rows H sz rows own=>F H sz rows own
 | .lent H sz rows=>G H sz rows
 | _=>False
def wRP (o : AObj) (F : Hd->Nat->List (List CD)->Bool->Prop) (G : Hd->Nat->List (List CD)->Nat->Prop) : Prop:=
 match o with
 | .rows H sz rows own=>F H sz rows own
 | .part H sz rows lo=>G H sz rows lo
 | _=>False
@[congr] theorem Ra {o o' : AObj} {F : Hd->Nat->List (List CD)->Bool->Prop} {G : Hd->Nat->List (List CD)->Prop} (h : o = o') : wRL o F G = wRL o' F G:=by rw [h]
@[congr] theorem Q9 {o o' : AObj} {F : Hd->Nat->List (List CD)->Bool->Prop} {G : Hd->Nat->List (List CD)->Nat->Prop} (h : o = o') : wRP o F G = wRP o' F G:=by rw [h]
theorem NX {H : Hd} {sz : Nat} {rows : List (List CD)} {own : Bool} {F : Hd->Nat->List (List CD)->Bool->Prop} {G : Hd->Nat->List (List CD)->Prop} : wRL (.rows H sz rows own) F G = F H sz rows own:=(rfl)
theorem NY {H : Hd} {sz : Nat} {rows : List (List CD)} {F : Hd->Nat->List (List CD)->Bool->Prop} {G : Hd->Nat->List (List CD)->Prop} : wRL (.lent H sz rows) F G = G H sz rows:=(rfl)
theorem NV {H : Hd} {sz : Nat} {rows : List (List CD)} {own : Bool} {F : Hd->Nat->List (List CD)->Bool->Prop} {G : Hd->Nat->List (List CD)->Nat->Prop} : wRP (.rows H sz rows own) F G = F H sz rows own:=(rfl)
theorem NW {H : Hd} {sz lo : Nat} {rows : List (List CD)} {F : Hd->Nat->List (List CD)->Bool->Prop} {G : Hd->Nat->List (List CD)->Nat->Prop} : wRP (.part H sz rows lo) F G = G H sz rows lo:=(rfl)
theorem Gh {H : Hd} {sz n : Nat} {rows : List (List CD)} : wk true H sz rows n = .part H sz rows n:=(rfl)
theorem Gi {H : Hd} {sz n : Nat} {rows : List (List CD)} : wk false H sz rows n = .dead:=(rfl)
theorem CV {ds : List CD} {h : AH} : lendL [] ds h = h:=(rfl)
theorem Ap {a : AV} {l : List AV} {d : CD} {ds : List CD} {h : AH} : lendL (a :: l) (d :: ds) h = lendL l ds (qx a d h):=(rfl)
theorem IB {u : Value} {d : CD} {h : AH} : qx (.v u) d h = h:=(rfl)
theorem CX {d : CD} {h : AH} : qx .nil d h = h:=(rfl)
theorem FS {r : List (List CD)} {d : CD} {h : AH} : qx (.ro r) d h = h:=(rfl)
theorem FQ {k sz len : Nat} {H : Hd} {rows : List (List CD)} {h : AH} : qx (.sl k H sz 0 len) (.s rows) h = (k,.lent H sz rows) :: h:=(rfl)
theorem CW {k sz len n : Nat} {H : Hd} {d : CD} {h : AH} : qx (.sl k H sz (n + 1) len) d h = h:=(rfl)
@[congr] theorem Sw {o o' : AObj} {F : Nat->List AV->Prop} (h : o = o') : wV o F = wV o' F:=by rw [h]
@[congr] theorem Q7 {o o' : AObj} {F : Nat->TypeId->List AV->Prop} (h : o = o') : wVT o F = wVT o' F:=by rw [h]
@[congr] theorem Sy {o o' : AObj} {F : Hd->Nat->List (List CD)->Bool->Prop} (h : o = o') : wR o F = wR o' F:=by rw [h]
theorem Q6 {b : Nat} {t : TypeId} {c : List AV} {F : Nat->List AV->Prop} : wV (.vars b t c) F = F b c:=(rfl)
theorem NU {b : Nat} {t : TypeId} {c : List AV} {F : Nat->TypeId->List AV->Prop} : wVT (.vars b t c) F = F b t c:=(rfl)
theorem Q8 {H : Hd} {sz : Nat} {rows : List (List CD)} {own : Bool} {F : Hd->Nat->List (List CD)->Bool->Prop} : wR (.rows H sz rows own) F = F H sz rows own:=(rfl)
theorem D_p {k b c : Nat} : loadAt ti h (.p k b c) F = wV (h.get k) λb' cells=>b = b'/\gD ti cells c F:=by
 simp only [loadAt,wV]
 cases h.get k<;>rfl
theorem D_e {k sz r c : Nat} {H : Hd} : loadAt ti h (.e k H sz r c) F = wRL (h.get k) (λH' sz' rows _=>H = H'/\sz = sz'/\r < rows.length/\∀ row,rows[r]? = some row->dE ti (row.drop c) F) (λH' sz' rows=>H = H'/\sz = sz'/\r < rows.length/\∀ row,rows[r]? = some row->dE ti (row.drop c) F):=by
 simp only [loadAt,wRL]
 cases h.get k<;>rfl
def wF (o : Option (Nat × Nat)) (F : Nat->Nat->Prop) : Prop:=
 match o with
 | some (a,b)=>F a b
 | none=>False
@[congr] theorem SA {o o' : Option (Nat × Nat)} {F : Nat->Nat->Prop} (h : o = o') : wF o F = wF o' F:=by rw [h]
theorem HL {a b : Nat} {F : Nat->Nat->Prop} : wF (some (a,b)) F = F a b:=(rfl)
@[congr] theorem NL {f : Nat} (hx : x = x') : lj ti f x F = lj ti f x' F:=by rw [hx]
def wO (o : Option AV) (F : AV->Prop) : Prop:=
 match o with
 | some v=>F v
 | none=>False
@[congr] theorem Sz {o o' : Option AV} (h : o = o') : wO o F = wO o' F:=by rw [h]
theorem HK {v : AV} : wO (some v) F = F v:=(rfl)
def wFV (o : Option (Nat × Nat)) (b : Option Bool) (l : List AV) (F : AV->Prop) : Prop:=
 match o,b with
 | some (off,n),some true=>off + n<=l.length/\F (.agg ((l.drop off).take n))
 | some (off,_),some false=>wO l[off]? F
 | _,_=>False
@[congr] theorem Rc {o o' : Option (Nat × Nat)} {b b' : Option Bool} {l l' : List AV} (h : o = o') (hb : b = b') (hl : l = l') : wFV o b l F = wFV o' b' l' F:=by rw [h,hb,hl]
theorem NZ {off n : Nat} {l : List AV} : wFV (some (off,n)) (some true) l F = (off + n<=l.length/\F (.agg ((l.drop off).take n))):=(rfl)
theorem N0 {off n : Nat} {l : List AV} : wFV (some (off,n)) (some false) l F = wO l[off]? F:=(rfl)
theorem Nx {f : Nat} {l : List AV} : lj ti f (.agg l) F = wFV (ti.fields[f]?) (ti.fagg[f]?) l F:=by
 simp only [lj,wFV]
 cases h1 : ti.fields[f]? with
 | none=>rfl
 | some q =>
   cases h2 : ti.fagg[f]? with
   | none=>rfl
   | some b =>
     obtain ⟨off,n⟩:=q
     cases b with
     | false=>simp only [Bool.false_eq_true,if_false,wO];cases l[off]?<;>rfl
     | true=>simp only [if_true]
@[congr] theorem ME {f : Nat} (hx : x = x') : fieldAt ti f x F = fieldAt ti f x' F:=by rw [hx]
theorem F_p {f k b c : Nat} : fieldAt ti f (.p k b c) F = wF (ti.fields[f]?) λoff _=>F (.p k b (c + off)):=by
 simp only [fieldAt,wF];cases ti.fields[f]?<;>rfl
theorem F_e {f k sz r c : Nat} {H : Hd} : fieldAt ti f (.e k H sz r c) F = wF (ti.fields[f]?) λoff _=>F (.e k H sz r (c + off)):=by
 simp only [fieldAt,wF];cases ti.fields[f]?<;>rfl
theorem Sn {f : Nat} {row : List CD} : fieldAt ti f (.rp row) F = wF (ti.fields[f]?) λoff _=>off<=row.length/\F (.rp (row.drop off)):=by
 simp only [fieldAt,wF];cases ti.fields[f]?<;>rfl
theorem KJ {u : Value} : toAV (.v u) = .v u:=(rfl)
theorem KK {r : List (List CD)} : toAV (.s r) = .ro r:=(rfl)
theorem KM {k sz len : Nat} {H : Hd} : toAV (.h k H sz len) = .ml k H sz len:=(rfl)
theorem KH {u : Value} : zC (.v u) = .v u:=(rfl)
theorem En : zC .nil = .s []:=(rfl)
@[congr] theorem PQ {s d : Nat} (hx : x = x') : qU E s d x F = qU E s d x' F:=by rw [hx]
@[congr] theorem NP {s d : Nat} {h : AH} (hx : x = x') : iI E h s d x F = iI E h s d x' F:=by rw [hx]
def GX (o : Option IntKind) (F : IntKind->Prop) : Prop:=
 match o with
 | some k=>F k
 | none=>False
@[congr] theorem QV {o o' : Option IntKind} {F : IntKind->Prop} (h : o = o') : GX o F = GX o' F:=by rw [h]
theorem DU {k : IntKind} {F : IntKind->Prop} : GX (some k) F = F k:=(rfl)
theorem Qw {s d : Nat} {k : IntKind} {n : Int} : qU ⟨P,T,w0,base⟩ s d (.v (.int k n)) F = ((wT (T s) λ_=>True)/\wT (T d) λti=>GX ti.kind λk'=>F (.v (.int k' (k'.wrap n)))):=by
 simp only [qU,yB]
 congr 1
 unfold wT GX
 cases T d with
 | none=>rfl
 | some ti=>simp only;cases ti.kind<;>rfl
theorem Sp {s d : Nat} {h : AH} {u : Value} : iI ⟨P,T,w0,base⟩ h s d (.v u) F = qU ⟨P,T,w0,base⟩ s d (.v u) F:=(rfl)
theorem Qz {s d : Nat} {h : AH} {rows : List (List CD)} : iI ⟨P,T,w0,base⟩ h s d (.ro rows) F = xc ⟨P,T,w0,base⟩ s d rows F:=(rfl)
theorem Qy {s d k sz off len : Nat} {H : Hd} {h : AH} : iI ⟨P,T,w0,base⟩ h s d (.sl k H sz off len) F = wR (h.get k) λH' sz' rows _=>H = H'/\sz = sz'/\off + len<=rows.length/\xc ⟨P,T,w0,base⟩ s d (cut rows off len) F:=by
 simp only [iI,wR];cases h.get k<;>rfl
theorem Qx {s d : Nat} {rows : List (List CD)} : xc ⟨P,T,w0,base⟩ s d rows F = (Env.isStr ⟨P,T,w0,base⟩ d/\wT (T s) λti=>wE ti.sl λe=>wT (T e) λte=>te.kind = some .u8/\∃ l : List UInt8,rows = l.map eY/\F (.v (.string ⟨l.toArray⟩))):=by
 simp only [xc,y8]
end loads
end
open Go.RowKit
section
variable {P : Program} {T : Nat->Option TI} {w0 : World} {base : Bs} {E : Env} {Q : Exit->ASt->Prop} {K : ASt->Prop} {st : ASt}
theorem DK {l : List AV} : AV.cells (.agg l) = l:=(rfl)
theorem I6 {u : Value} : AV.cells (.v u) = [.v u]:=(rfl)
theorem DI : AV.cells .nil = [.nil]:=(rfl)
theorem GQ {r : List (List CD)} : AV.cells (.ro r) = [.ro r]:=(rfl)
theorem GP {k sz off len : Nat} {H : Hd} : AV.cells (.sl k H sz off len) = [.sl k H sz off len]:=(rfl)
theorem I7 {k b c : Nat} : AV.cells (.p k b c) = [.p k b c]:=(rfl)
theorem DJ {f : Nat} {l : List AV} : AV.cells (.clo f l) = [.clo f l]:=(rfl)
theorem GS {u : Value} {len : Nat} : AV.cells (.cv u len) = [.cv u len]:=(rfl)
theorem GR {k sz len : Nat} {H : Hd} : AV.cells (.ml k H sz len) = [.ml k H sz len]:=(rfl)
theorem LZ {u : Value} {len : Nat} : AV.one (.cv u len) = true:=(rfl)
theorem LY {k sz len : Nat} {H : Hd} : AV.one (.ml k H sz len) = true:=(rfl)
theorem O6 {u : Value} : AV.one (.v u) = true:=(rfl)
theorem Im : AV.one .nil = true:=(rfl)
theorem LX {r : List (List CD)} : AV.one (.ro r) = true:=(rfl)
theorem LW {k sz off len : Nat} {H : Hd} : AV.one (.sl k H sz off len) = true:=(rfl)
theorem O7 {k b c : Nat} : AV.one (.p k b c) = true:=(rfl)
theorem In {f : Nat} {l : List AV} : AV.one (.clo f l) = true:=(rfl)
theorem Io {l : List CD} : (l.map toAV).all AV.one = true:=by
 induction l with
 | nil=>rfl
 | cons d l ih=>cases d<;>simpa [toAV,AV.one] using ih
theorem FA {α : Type} {l : List α} {i : Nat} : er l i [] = l:=by cases l<;>rfl
theorem LN {α : Type} {x v : α} {l vs : List α} : er (x :: l) 0 (v :: vs) = v :: er l 0 vs:=(rfl)
theorem LM {α : Type} {x v : α} {l vs : List α} {c : Nat} : er (x :: l) (c + 1) (v :: vs) = x :: er l c (v :: vs):=(rfl)
section fr
variable {h : AH} {x x' y y' : AV} {t : Nat} {F : CD->AH->Bool->Prop} {G : List CD->AH->Bool->Prop}
@[congr] theorem Q2 (hx : x = x') : mI h x F = mI h x' F:=by rw [hx]
theorem Z_v {u : Value} : mI h (.v u) F = F (.v u) h true:=(rfl)
theorem PS : mI h .nil F = F (.s []) h true:=(rfl)
theorem R6 {r : List (List CD)} : mI h (.ro r) F = F (.s r) h false:=(rfl)
theorem MY {k sz off len : Nat} {H : Hd} : mI h (.sl k H sz off len) F = wR (h.get k) λH' sz' rows own=>H = H'/\sz = sz'/\off + len<=rows.length/\F (.s (cut rows off len)) ((k,.dead) :: h) own:=by
 simp only [mI,wR];cases h.get k<;>rfl
@[congr] theorem PO {l l' : List AV} (hx : l = l') : gP h l G = gP h l' G:=by rw [hx]
theorem MZ : gP h [] G = G [] h true:=(rfl)
theorem Jh {a : AV} {l : List AV} : gP h (a :: l) G = mI h a λd h' o=>gP h' l λds h'' o'=>G (d :: ds) h'' (o && o'):=(rfl)
theorem I3 {α : Type} {rows : List α} : cut rows 0 rows.length = rows:=by simp [cut]
theorem rj {α : Type} {rows : List α} {n : Nat} (h : n = rows.length) : cut rows 0 n = rows:=by simp [cut,h]
@[congr] theorem NM (hx : x = x') (hy : y = y') : kn E st t x y K = kn E st t x' y' K:=by rw [hx,hy]
theorem W_p {k b c : Nat} : kn ⟨P,T,w0,base⟩ st t (.p k b c) y K = wT (T t) λti=>y.cells.length = ti.n/\(y.cells.all AV.one) = true/\wVT (st.h.get k) λb' T' cells=>b = b'/\c + y.cells.length<=cells.length/\K { st with h:=(k,.vars b T' (er cells c y.cells)) :: st.h }:=by
 simp only [kn,wT,wVT]
 cases T t with
 | none=>rfl
 | some ti=>simp only;cases st.h.get k<;>rfl
theorem W_e {k sz r c : Nat} {H : Hd} : kn ⟨P,T,w0,base⟩ st t (.e k H sz r c) y K = wT (T t) λti => y.cells.length = ti.n /\ (y.cells.all AV.one) = true /\ gP st.h y.cells λds h o => wR (h.get k) λH' sz' rows own => H = H' /\ sz = sz' /\ r < rows.length /\ c + ds.length <= sz /\
 K { st with h:=lendL y.cells ds ((k,.rows H sz (if c = 0/\ds.length = sz then rows.set r ds else rows.modify r λrow=>er row c ds) (own && o)) :: h) }:=by
 simp only [kn,wT]
 cases T t with
 | none=>rfl
 | some ti =>
   simp only;rfl
@[congr] theorem NQ {l l' : List (Nat × AV)} {F : AV->Prop} (hl : l = l') : kr E t l F = kr E t l' F:=by rw [hl]
theorem D6 {l : List (Nat × AV)} {F : AV->Prop} : kr ⟨P,T,w0,base⟩ t l F = wT (T t) λti=>ti.agg = true/\jK ti.fields ti.zero l λl=>F (.agg l):=by
 simp only [kr,wT];cases T t<;>rfl
@[congr] theorem PE {fs : List (Nat × Nat)} {cells cells' : List AV} {l l' : List (Nat × AV)} {F : List AV->Prop} (hc : cells = cells') (hl : l = l') : jK fs cells l F = jK fs cells' l' F:=by rw [hc,hl]
theorem Dw {fs : List (Nat × Nat)} {cells : List AV} {F : List AV->Prop} : jK fs cells [] F = F cells:=(rfl)
theorem AS {fs : List (Nat × Nat)} {cells : List AV} {i : Nat} {v : AV} {l : List (Nat × AV)} {F : List AV->Prop} : jK fs cells ((i,v) :: l) F = wF (fs[i]?) λoff n=>v.cells.length = n/\off + n<=cells.length/\(v.cells.all AV.one) = true/\jK fs (er cells off v.cells) l F:=by
 simp only [jK,wF];cases fs[i]?<;>rfl
variable {R : List (List CD)->AH->Bool->Prop} {te : TI}
@[congr] theorem PL (hx : x = x') : jR te h x R = jR te h x' R:=by rw [hx]
theorem Qs : jR te h .nil R = R [] h true:=(rfl)
theorem Se {rows : List (List CD)} : jR te h (.ro rows) R = ((∀ row∈rows,row.length = te.n)/\(te.pln = true->∀ row∈rows,∀ d∈row,isV d = true)/\R rows h te.pln):=(rfl)
theorem Qr {k sz off len : Nat} {H : Hd} (hp : te.pln = true) : jR te h (.sl k H sz off len) R = wR (h.get k) λH' sz' rows _=>H = H'/\sz = sz'/\sz = te.n/\off + len<=rows.length/\(∀ row∈rows,∀ d∈row,isV d = true)/\R (cut rows off len) h true:=by
 simp only [jR,wR,hp];cases h.get k<;>simp
theorem Sd {k sz off len : Nat} {H : Hd} (hp : te.pln = false) : jR te h (.sl k H sz off len) R = wRP (h.get k) (λH' sz' rows own=>H = H'/\sz = sz'/\sz = te.n/\off + len<=rows.length/\R (cut rows off len) ((k,wk own H sz rows (off + len)) :: h) own) (λH' sz' rows lo=>H = H'/\sz = sz'/\sz = te.n/\off + len<=rows.length/\lo<=off/\R (cut rows off len) ((k,.part H sz rows (off + len)) :: h) true):=by
 simp only [jR,wRP,hp];cases h.get k<;>simp
variable {dst : Option Nat}
@[congr] theorem MX (hx : x = x') (hy : y = y') : ed E st dst t x y K = ed E st dst t x' y' K:=by rw [hx,hy]
theorem QQ : ed E st dst t .nil x K = cM E t λ_ te => 0 < te.bytes /\ 0 < te.n /\ jR te st.h x λnews h o => news.length * te.bytes <= 140737488355328 /\
        ∀ H,aV { st with h:=(st.key dst,.rows H te.n news o) :: h } dst (.sl (st.key dst) H te.n 0 news.length) K:=(rfl)
theorem Su {k sz off len : Nat} {H0 : Hd} : ed E st dst t (.sl k H0 sz off len) x K = cM E t λ_ te => 0 < te.bytes /\ 0 < te.n /\ jR te st.h x λnews h o => wR (h.get k) λH' sz' rows own => H0 = H' /\ sz = sz' /\ sz = te.n /\ off = 0 /\ len = rows.length /\ (len + news.length) * te.bytes <= 140737488355328 /\
 ∀ H,aV { st with h:=(k,.rows H te.n (rows ++ news) (own && o)) :: h } dst (.sl k H te.n 0 (len + news.length)) K:=by
 unfold ed;rfl
theorem NG : ed E st dst t (.v (.slice none 0 0)) x K = ed E st dst t .nil x K:=(rfl)
theorem Hx {k len : Nat} {H0 : Hd} (hk : 50000<=k) : ed E st dst t (.ml k H0 1 len) x K = ed E st dst t (.sl k H0 1 0 len) x K:=by simp only [ed,AV.norm,if_pos (MlS.key hk)]
theorem Sv {k sz len : Nat} {H0 : Hd} (h0 : 0 < len) : ed E st dst t (.ml k H0 sz len) x K = ed E st dst t (.sl k H0 sz 0 len) x K:=by simp only [ed,AV.norm,if_pos (MlS.pos h0)]
@[congr] theorem PK {l l' : List (Nat × AV)} {i : Nat} (hl : l = l') : nX te h l i R = nX te h l' i R:=by rw [hl]
theorem Qk {i : Nat} : nX te h [] i R = R [] h true:=(rfl)
theorem Nk {i j : Nat} {v : AV} {l : List (Nat × AV)} : nX te h ((j,v) :: l) i R = (j = i/\v.cells.length = te.n/\(v.cells.all AV.one) = true/\gP h v.cells λds h' o=>nX te h' l (i + 1) λrs h'' o'=>R (ds :: rs) h'' (o && o')):=(rfl)
@[congr] theorem G9 {len : Nat} {l l' : List (Nat × AV)} (hl : l = l') : gn E st dst t len l K = gn E st dst t len l' K:=by rw [hl]
theorem tH {len : Nat} {l : List (Nat × AV)} : gn E st dst t len l K = cM E t λ_ te=>0 < te.n/\len = l.length/\len * te.n<=16777216/\nX te st.h l 0 λrs h o=>
 ∀ b,aV { st with h:=(st.key dst,.rows (some (b,0,len)) te.n rs o) :: h } dst (.sl (st.key dst) (some (b,0,len)) te.n 0 len) K:=(rfl)
@[congr] theorem PM (hx : x = x') (hy : y = y') : vv E st dst t x y K = vv E st dst t x' y' K:=by rw [hx,hy]
theorem G6 {n m : Int} : vv E st dst t (.v (.int .i64 n)) (.v (.int .i64 m)) K = cM E t λ_ te => 0 < te.n /\ 0 < te.bytes /\ n = m /\ 0 <= n /\ n * te.bytes <= 140737488355328 /\
        ∀ b,aV { st with h:=(st.key dst,.rows (some (b,0,n.toNat)) te.n (List.replicate n.toNat (te.zero.map zC)) true) :: st.h } dst (.sl (st.key dst) (some (b,0,n.toNat)) te.n 0 n.toNat) K:=(rfl)
theorem D9 : qd ⟨P,T,w0,base⟩ st dst t K = wT (T t) λti=>∀ b,aV { st with h:=(st.key dst,.vars b t ti.zero) :: st.h } dst (.p (st.key dst) b 0) K:=by
 simp only [qd,wT];cases T t<;>rfl
@[congr] theorem Q4 (hx : x = x') : zs E st dst t x K = zs E st dst t x' K:=by rw [hx]
theorem Jf : zs ⟨P,T,w0,base⟩ st dst t x K = wT (T t) λ_=>(x.cells.all AV.one) = true/\∀ b,aV { st with h:=(st.key dst,.vars b t x.cells) :: st.h } dst (.p (st.key dst) b 0) K:=by
 simp only [zs,wT];cases T t<;>rfl
@[congr] theorem NN {lo lo' hi hi' : Option AV} {F : AV->Prop} (hx : x = x') (hl : lo = lo') (hh : hi = hi') : gL E t x lo hi F = gL E t x' lo' hi' F:=by rw [hx,hl,hh]
theorem Ni {rows : List (List CD)} {lo : Option AV} {hv mx : AV} {F : AV->Prop} : po E t (.ro rows) lo (some hv) mx F = cM E t λ_ te=>(∀ row∈rows,row.length = te.n)/\dI (some hv) 0 λh=>dI (some mx) 0 λm=>h<=m/\m<=rows.length/\dI lo 0 λl=>l<=h/\F (.ro (cut rows l (h - l))):=(rfl)
theorem Qh {rows : List (List CD)} {lo hi : Option AV} {F : AV->Prop} : gL E t (.ro rows) lo hi F = cM E t λ_ te=>(∀ row∈rows,row.length = te.n)/\dI hi rows.length λh=>h<=rows.length/\dI lo 0 λl=>l<=h/\F (.ro (cut rows l (h - l))):=(rfl)
theorem Qg {k sz off len : Nat} {H : Hd} {lo hi : Option AV} {F : AV->Prop} : gL E t (.sl k H sz off len) lo hi F = cM E t λ_ te=>sz = te.n/\dI hi len λh=>h<=len/\dI lo 0 λl=>l<=h/\F (.sl k H sz (off + l) (h - l)):=(rfl)
theorem Qi {k sz len : Nat} {H : Hd} {lo hi : Option AV} {F : AV->Prop} (h0 : 0 < len) : gL E t (.ml k H sz len) lo hi F = gL E t (.sl k H sz 0 len) lo hi F:=by simp only [gL,AV.norm,if_pos (MlS.pos h0)]
theorem Nh {s : ByteArray} {lo hi : Option AV} {F : AV->Prop} : gL E t (.v (.string s)) lo hi F = (E.isStr t/\dI hi s.size λh=>h<=s.size/\dI lo 0 λl=>l<=h/\F (.v (.string (s.extract l h)))):=(rfl)
theorem A4 {z : Nat} {F : Nat->Prop} : dI none z F = F z:=(rfl)
theorem DM {z : Nat} {F : Nat->Prop} {k : IntKind} {n : Int} : dI (some (.v (.int k n))) z F = (0<=n/\F n.toNat):=(rfl)
end fr
section calls
variable {h : AH} {x : AV} {R : Value->CD->Prop}
theorem RL {u : Value} {d : CD} : aIn R h (.v u) d = (d = .v u):=(rfl)
theorem Mq {d : CD} : aIn R h .nil d = (d = .s []):=(rfl)
theorem Pm {r : List (List CD)} {d : CD} : aIn R h (.ro r) d = (d = .s r):=(rfl)
theorem Pl {k sz off len : Nat} {H : Hd} {d : CD} : aIn R h (.sl k H sz off len) d = wRL (h.get k) (λH' sz' rows _=>H = H'/\sz = sz'/\off + len<=rows.length/\d = .s (cut rows off len)) (λH' sz' rows=>H = H'/\sz = sz'/\off = 0/\len = rows.length/\d = .s rows):=by
 simp only [aIn,wRL];cases h.get k<;>rfl
theorem Po {u : Value} {len : Nat} {d : CD} : aIn R h (.cv u len) d = R u d:=(rfl)
theorem Pn {k sz len : Nat} {H : Hd} {d : CD} : aIn R h (.ml k H sz len) d = wR (h.get k) λH' sz' rows _=>H = H'/\sz = sz'/\len = rows.length/\d = .s rows:=by
 simp only [aIn,wR];cases h.get k<;>rfl
theorem IM : tE R h [] [] = True:=(rfl)
theorem Gb {a : AV} {l : List AV} {d : CD} {ds : List CD} : tE R h (a :: l) (d :: ds) = (aIn R h a d/\tE R h l ds):=(rfl)
theorem Pp {a : AV} {d : CD} : xi R h a (.c d) = aIn R h a d:=(rfl)
theorem IL {l : List AV} {ds : List CD} : xi R h (.agg l) (.agg ds) = tE R h l ds:=(rfl)
theorem Ga : kK R h [] [] = True:=(rfl)
theorem Dm {a : AV} {l : List AV} {d : VD} {ds : List VD} : kK R h (a :: l) (d :: ds) = (xi R h a d/\kK R h l ds):=(rfl)
variable {key : Nat}
theorem Mn {u : Value} {sz : Nat} {F : AV->AH->Prop} : qA h key (.v u,sz) F = F (.v u) h:=(rfl)
theorem Mo {rows : List (List CD)} {sz : Nat} {F : AV->AH->Prop} : qA h key (.s rows,sz) F = ∀ H,F (.sl key H sz 0 rows.length) ((key,.rows H sz rows true) :: h):=(rfl)
theorem C7 {F : List AV->AH->Nat->Prop} : qD h key [] F = F [] h key:=(rfl)
theorem Av {t : CD × Nat} {ts : List (CD × Nat)} {F : List AV->AH->Nat->Prop} : qD h key (t :: ts) F = qA h key t λv h'=>qD h' (key + 1) ts λl h'' key'=>F (v :: l) h'' key':=(rfl)
theorem IF {d : CD} {sz : Nat} {F : AV->AH->Nat->Prop} : oX h key (.c d sz) F = qA h key (d,sz) λv h'=>F v h' (key + 1):=(rfl)
theorem C4 {ts : List (CD × Nat)} {F : AV->AH->Nat->Prop} : oX h key (.agg ts) F = qD h key ts λl h' key'=>F (.agg l) h' key':=(rfl)
theorem Au {F : List AV->AH->Prop} : mf h key [] F = F [] h:=(rfl)
theorem yx {r : RV} {rs : List RV} {F : List AV->AH->Prop} : mf h key (r :: rs) F = oX h key r λv h' key'=>mf h' key' rs λl h''=>F (v :: l) h'':=(rfl)
theorem C6 {r : RV} {F : AV->AH->Prop} : sk h key (.one r) F = oX h key r λv h' _=>F v h':=(rfl)
theorem C5 {rs : List RV} {F : AV->AH->Prop} : sk h key (.tup rs) F = mf h key rs λl h'=>F (.tup l) h':=(rfl)
variable {F : AH->Prop} {t : CD × Nat}
@[congr] theorem QZ {x' : AV} (hx : x = x') : q7 h x t F = q7 h x' t F:=by rw [hx]
theorem O5 {u : Value} : q7 h (.v u) t F = (t.1 = .v u/\F h):=(rfl)
theorem Ih : q7 h .nil t F = (t.1 = .s []/\0 < t.2/\F h):=(rfl)
theorem LS {k sz off len : Nat} {H : Hd} : q7 h (.sl k H sz off len) t F = wR (h.get k) λH' sz' rows own=>H = H'/\sz = sz'/\t.2 = sz/\0 < sz/\own = true/\off + len<=rows.length/\(∀ row∈rows,row.length = sz)/\t.1 = .s (cut rows off len)/\F ((k,.dead) :: h):=by
 simp only [q7,wR];cases h.get k<;>rfl
theorem FE : qR h [] [] F = F h:=(rfl)
theorem CE {a : AV} {l : List AV} {ts : List (CD × Nat)} : qR h (a :: l) (t :: ts) F = q7 h a t λh'=>qR h' l ts F:=(rfl)
theorem LT {d : CD} {sz : Nat} : nY h x (.c d sz) F = q7 h x (d,sz) F:=(rfl)
theorem FC {l : List AV} {ts : List (CD × Nat)} : nY h (.agg l) (.agg ts) F = qR h l ts F:=(rfl)
theorem Cz : lC h [] [] F = F h:=(rfl)
theorem zX {a : AV} {l : List AV} {r : RV} {rs : List RV} : lC h (a :: l) (r :: rs) F = nY h a r λh'=>lC h' l rs F:=(rfl)
theorem Ib {L : List AV->Prop} : dB E st [] L = L []:=(rfl)
theorem Ia {i : Nat} {rs : List ResultVar} {L : List AV->Prop} : dB E st (.tmp i :: rs) L = dB E st rs λl=>L (aG st.t i :: l):=(rfl)
theorem Fu {i : Nat} {t : TypeId} {rs : List ResultVar} {L : List AV->Prop} : dB E st (.cell i t :: rs) L = lU E st.h t (aG st.t i) λv=>dB E st rs λl=>L (v :: l):=(rfl)
theorem H8 {r : RV} : xT h (.one r) [x] = nY h x r λ_=>True:=(rfl)
theorem HZ {rs : List RV} {l : List AV} : xT h (.tup rs) l = (l.length≠1/\lC h l rs λ_=>True):=(rfl)
variable {rs : List ResultVar} {rr : RR}
theorem MP : vn E rs rr .normal st = dB E st rs (xT st.h rr):=(rfl)
theorem MO : vn E rs rr .ret st = dB E st rs (xT st.h rr):=(rfl)
theorem Mc {β : Type} {Inv : β->Prop} {I : β->ASt} {μ : β->Nat} {x : β} : BX Inv I μ x Q .normal st = ∃ x',Inv x'/\μ x' < μ x/\tI st (I x'):=(rfl)
theorem Mb {β : Type} {Inv : β->Prop} {I : β->ASt} {μ : β->Nat} {x : β} : BX Inv I μ x Q .ret st = Q .ret st:=(rfl)
theorem Md {β : Type} {Inv : β->Prop} {I : β->ASt} {μ : β->Nat} {x : β} {i : Nat} : BX Inv I μ x Q (.exit i) st = Q (.exit i) st:=(rfl)
end calls
end
section weak
def wkT (t : List (Nat × AV)) : List (Nat × AV)->Prop
 | []=>True
 | (i,v) :: l=>go (aG t i) v/\wkT t l
def wkH (h : AH) : AH->Prop
 | []=>True
 | (i,o) :: l=>ep (h.get i) o/\wkH h l
theorem zz {t : List (Nat × AV)} : ∀ l : List (Nat × AV),(∀ p∈l,go (aG t p.1) p.2) = wkT t l
 | []=>by simp [wkT]
 | (i,v) :: l=>by simp only [List.mem_cons,forall_eq_or_imp,wkT,zz l]
theorem rq {h : AH} : ∀ l : AH,(∀ p∈l,ep (h.get p.1) p.2) = wkH h l
 | []=>by simp [wkH]
 | (i,v) :: l=>by simp only [List.mem_cons,forall_eq_or_imp,wkH,rq l]
theorem HI {n kb n' kb' : Nat} {t t' : List (Nat × AV)} {h h' : AH} : tI ⟨n,kb,t,h⟩ ⟨n',kb',t',h'⟩ = (n = n'/\kb = kb'/\wkT t t'/\wkH h h'):=by
 unfold tI;simp only [zz,rq]
theorem HF {t : List (Nat × AV)} : wkT t [] = True:=(rfl)
theorem Eg {t l : List (Nat × AV)} {i : Nat} {v : AV} : wkT t ((i,v) :: l) = (go (aG t i) v/\wkT t l):=(rfl)
theorem HG {h : AH} : wkH h [] = True:=(rfl)
theorem Eh {h l : AH} {i : Nat} {o : AObj} : wkH h ((i,o) :: l) = (ep (h.get i) o/\wkH h l):=(rfl)
theorem Mi {a : AV} : go a .any = True:=(rfl)
theorem RH {a : AV} {u : Value} : go a (.v u) = (a = .v u):=(rfl)
theorem Mg {a : AV} : go a .nil = (a = .nil):=(rfl)
theorem Pd {a : AV} : go a .un = (a = .un):=(rfl)
theorem RI {a : AV} {k b c : Nat} : go a (.p k b c) = (a = .p k b c):=(rfl)
theorem Mj {a : AV} {l : List AV} : go a (.agg l) = (a = .agg l):=(rfl)
theorem Mf {a : AV} {l : List AV} : go a (.tup l) = (a = .tup l):=(rfl)
theorem Mh {a : AV} {f : Nat} {l : List AV} : go a (.clo f l) = (a = .clo f l):=(rfl)
theorem Pi {a : AV} {u : Value} {len : Nat} : go a (.cv u len) = (a = .cv u len):=(rfl)
theorem Pg {a : AV} {k sz len : Nat} {H : Hd} : go a (.ml k H sz len) = (a = .ml k H sz len):=(rfl)
theorem RJ {a : AV} {k sz r c : Nat} {H : Hd} : go a (.e k H sz r c) = (a = .e k H sz r c):=(rfl)
theorem Pe {a : AV} {k sz off len : Nat} {H : Hd} : go a (.sl k H sz off len) = (a = .sl k H sz off len\/(a = .nil/\H = none/\off = 0/\len = 0)):=(rfl)
theorem Pf {a : AV} {rows : List (List CD)} : go a (.ro rows) = (a = .ro rows\/(a = .nil/\rows = [])):=(rfl)
theorem FL {o : AObj} : ep o .dead = True:=(rfl)
theorem FH {b b' : Nat} {t t' : TypeId} {c c' : List AV} : ep (.vars b' t' c') (.vars b t c) = (b' = b/\t' = t/\ALe c' c):=(rfl)
theorem FK {o : AObj} {H : Hd} {sz : Nat} {rows : List (List CD)} : ep o (.lent H sz rows) = (o = .lent H sz rows):=(rfl)
theorem FJ {o : AObj} {H : Hd} {sz lo : Nat} {rows : List (List CD)} : ep o (.part H sz rows lo) = (o = .part H sz rows lo):=(rfl)
theorem FI {o : AObj} {H : Hd} {sz : Nat} {rows : List (List CD)} {own : Bool} : ep o (.rows H sz rows own) = (o = .rows H sz rows own\/(o = .dead/\H = none/\rows = [])):=(rfl)
theorem Jc : ALe [] [] = True:=(rfl)
theorem G0 {a b : AV} {l l' : List AV} : ALe (a :: l) (b :: l') = (go a b/\ALe l l'):=(rfl)
end weak
theorem xq {P : Program} {T : Nat → Option TI} (hT : ∀ t ti, T t = some ti → TIok P t ti) {f : Nat} {fn : Func} {c : Code} (hf : P.funcs[f]? = some fn) (hname : (fn.name == "runtime.NumGoroutine") = false) (hb : fn.body = some c)
 {n : Nat} {rs : List ResultVar} (hn : fn.ntmps = n) (hrs : fn.results = ⟨rs⟩) {args : List VD} {res : RR} (ha : args.length<=n)
 (h : ∀ w0 base,d9 ⟨P,T,w0,⟨base,base,false,λ_=>True⟩⟩ c (vn ⟨P,T,w0,⟨base,base,false,λ_=>True⟩⟩ rs res) { n:=n,kb:=0,t:=jy 0 args,h:=[] }) : ai P f args res:=by
 subst hn;exact ai.intro hT hf hname hb ha (by rw [hrs];exact h)
attribute [simp] RW RX Dh F6 yB KJ KK KM KH En DK I6 DI GQ GP I7 DJ O6 GS GR LZ LY Pi Pg RJ Im LX LW O7 In Io FA LN LM I3 Mi RH Mg Pd RI Mj Mf Mh Pe Pf FL FH FI Jc G0 jy VD.toAV isV
attribute [simp ↓] Sq Ss Sr Nb Hk Nf Qe Ng Ju Nc Nd Qf Nm Nl Nn Nq No Nr Np DS Jb DV A7 Qq Nu Jw IO IN Nt Qo R7 Qm P_v Sa R8 P_p P_e R9 Qp Ql Qn Sc Sb Qv Hr Bm QP QR NH MG MK I0 MH MJ IZ F0 F4 HJ HM y8 M6 Hh M5 Jr M8 P4 Qd P2 M9 Jn He Ni Jp Hf Jo Qa Eb Js Qb Hg M7 Jm P9 Hi P7 P8 Na Jd MU Jg D8 D7 JU Az yC Bi Bh QO QB QH QF QE QN St QA QD QC QI QJ QK QL QM QG NE ND NB Ny NC G7 D3 Bg Nx NZ N0 HK Sl Sk Sm Sg Sf Sj Si Qu Nw Qt So CT CU Am An Q6 NU Q8 D_p D_e HL F_p F_e Sn DU Qw Sp Qz Qy Qx Z_v PS R6 MY MZ Jh W_p W_e D6 Dw AS Qs Se Qr Sd QQ Su Sv NG Qk Nk tH G6 D9 Jf Qh Qg Qi Nh A4 DM RL Mq Pm Pl Po Pn IM Gb Pp IL Ga Dm Mn Mo C7 Av IF C4 Au yx C6 C5 O5 Ih LS FE CE LT FC Cz zX Ib Ia Fu H8 HZ MP MO Mc Mb Md HI HF Eg HG Eh
attribute [simp] FK FJ
attribute [simp ↓] NX NY NV NW Gh Gi CV Ap IB CX FS FQ CW
open Go.RowKit
def vl (x : AV) (F : Nat->List AV->Prop) : Prop:=
 match x with
 | .clo f caps=>F f caps
 | .v (.func (.func f) _ _)=>F f []
 | _=>False
@[congr] theorem PG {x x' : AV} {F : Nat->List AV->Prop} (h : x = x') : vl x F = vl x' F:=by rw [h]
theorem I8 {f : Nat} {a b : Array Value} {F : Nat->List AV->Prop} : vl (.v (.func (.func f) a b)) F = F f []:=(rfl)
theorem I9 {f : Nat} {l : List AV} {F : Nat->List AV->Prop} : vl (.clo f l) F = F f l:=(rfl)
theorem Jq {E : Env} {st : ASt} {K : ASt->Prop} {d : Option Nat} {t : TypeId} {p : String} {af : Array Edge} {g : Option (Nat × Bool)} {i : Nat} {l : List Operand} {ts : List TypeId} :
 aOp E ⟨d,.call ⟨.value (.tmp i),⟨l⟩,⟨ts⟩⟩,t,p,af,g⟩ st K = vl (aG st.t i) λf caps=>aa E f (l.map st.ev ++ caps) st d K:=by
 simp only [aOp,G8,vl]
 cases aG st.t i with
 | v u =>
   cases u with
   | func f a b=>cases f<;>simp
   | _=>rfl
 | _=>rfl
def sv (v : AV) (F : AV->Prop) : Prop:=F v
@[congr] theorem SC {v v' : AV} {F : AV->Prop} (h : v = v') : sv v F = sv v' F:=by rw [h]
section
variable {E : Env} {st : ASt} {F : AV->Prop} {u : Value} {rows : List (List CD)} {l : List AV} {k sz off len f b c r : Nat} {H : Hd} {row : List CD}
theorem Ro : sv (.v u) F = F (.v u):=(rfl)
theorem OR {len : Nat} : sv (.cv u len) F = F (.cv u len):=(rfl)
theorem OQ {len : Nat} : sv (.ml k H sz len) F = F (.ml k H sz len):=(rfl)
theorem OM : sv .un F = F .un:=(rfl)
theorem LA : sv .nil F = F .nil:=(rfl)
theorem OP : sv (.ro rows) F = F (.ro rows):=(rfl)
theorem ON : sv (.sl k H sz off len) F = F (.sl k H sz off len):=(rfl)
theorem Rp : sv (.p k b c) F = F (.p k b c):=(rfl)
theorem Rq : sv (.e k H sz r c) F = F (.e k H sz r c):=(rfl)
theorem OO : sv (.rp row) F = F (.rp row):=(rfl)
theorem LC : sv (.agg l) F = F (.agg l):=(rfl)
theorem Lz : sv (.tup l) F = F (.tup l):=(rfl)
theorem LB : sv (.clo f l) F = F (.clo f l):=(rfl)
@[congr] theorem Qj {f : Nat} {l l' : List AV} {h : AH} (hl : l = l') : Ci E f l h F = Ci E f l' h F:=by rw [hl]
variable {x y : Operand} {T' U : TypeId}
theorem M1 : eZ E st (.move x) F = sv (st.ev x) F:=(rfl)
theorem Hc : eZ E st (.assign x) F = sv (st.ev x) F:=(rfl)
theorem M0 {c a b : Operand} : eZ E st (.pick c a b) F = jA (st.ev c) λz=>Br z (ph (sv (st.ev a) F)) (ph (sv (st.ev b) F)):=(rfl)
theorem Jl {l : List (Nat × Operand)} : eZ E st (.build T' ⟨l⟩) F = kr E T' (l.map λq=>(q.1,st.ev q.2)) λv=>sv v F:=(rfl)
theorem M2 : eZ E st (.load T' x) F = lU E st.h T' (st.ev x) λv=>sv v F:=(rfl)
theorem PU : eZ E st (.nilCheck x) F = q8 (st.ev x) λv=>sv v F:=(rfl)
theorem P0 {op : BinOp} : eZ E st (.binOp op T' x y U) F = kL E op T' (st.ev x) (st.ev y) λv=>sv v F:=(rfl)
theorem PT : eZ E st (.unOp .not T' x) F = jA (st.ev x) λb=>sv (.v (.bool (!b))) F:=(rfl)
theorem M3 {s : TypeId} : eZ E st (.convert s T' x) F = iI E st.h s T' (st.ev x) λv=>sv v F:=(rfl)
theorem Ji {lo hi : Option Operand} : eZ E st (.slice T' x lo hi none) F = gL E T' (st.ev x) (lo.map st.ev) (hi.map st.ev) λv=>sv v F:=(rfl)
theorem Jk {f : Nat} : eZ E st (.fieldAddr T' x f) F = lE E T' f (st.ev x) λv=>sv v F:=(rfl)
theorem Hb {f : Nat} : eZ E st (.field T' x f) F = lD E T' f (st.ev x) λv=>sv v F:=(rfl)
theorem Jj : eZ E st (.indexAddr T' x y) F = cM E T' λ_ te=>aCv E (st.ev x) λz=>indexAt te z (st.ev y) λv=>sv v F:=(rfl)
theorem PZ : eZ E st (.index T' x y) F = zq E T' (st.ev x) (st.ev y) λv=>sv v F:=(rfl)
theorem Ea {i : Nat} : eZ E st (.extract x i) F = dC (st.ev x) i λv=>sv v F:=(rfl)
theorem PY : eZ E st (.call ⟨.builtin .len,#[x],#[T']⟩) F = ns E T' (st.ev x) λv=>sv v F:=(rfl)
theorem PW {U1 U2 : TypeId} : eZ E st (.call ⟨.builtin .min,#[x,y],#[U1,U2]⟩) F = xg (st.ev x) (st.ev y) λv=>sv v F:=(rfl)
theorem PX {U1 U2 : TypeId} : eZ E st (.call ⟨.builtin .max,#[x,y],#[U1,U2]⟩) F = zk (st.ev x) (st.ev y) λv=>sv v F:=(rfl)
theorem M4 {f : Nat} {l : List Operand} {ts : List TypeId} : eZ E st (.call ⟨.value (.func f),⟨l⟩,⟨ts⟩⟩) F = Ci E f (l.map st.ev) st.h λv=>sv v F:=(rfl)
end
section
variable {E : Env} {all rest : List Oper} {n kb : Nat} {t : List (Nat × AV)} {h : AH} {K : ASt->Prop}
def q9 (E : Env) (all : List Oper) (n kb : Nat) (h : AH) : List Oper->(t : List (Nat × AV))->(List (Nat × AV)->Prop)->Prop
 | [],t,K=>K t
 | o :: rest,t,K=>db E all o ⟨n,kb,t,h⟩ λv=>q9 E all n kb h rest ((o.dst.getD 0,v) :: t) K
variable {F : List (Nat × AV)->Prop} {op : Op} {ty : TypeId} {p : String} {af : Array Edge} {d : Nat}
theorem NF : q9 E all n kb h [] t F = F t:=(rfl)
theorem Jz : q9 E all n kb h (⟨some d,op,ty,p,af,none⟩ :: rest) t F = eZ E ⟨n,kb,t,h⟩ op λv=>q9 E all n kb h rest ((d,v) :: t) F:=(rfl)
theorem Hw {j : Nat} {b : Bool} : q9 E all n kb h (⟨some d,op,ty,p,af,some (j,b)⟩ :: rest) t F = w9 (gO all j) λs=>q6 (aG t s) b (ph (eZ E ⟨n,kb,t,h⟩ op λv=>q9 E all n kb h rest ((d,v) :: t) F)) (ph (q9 E all n kb h rest ((d,.un) :: t) F)):=by
 simp only [q9,db,w9,q6]
 cases gO all j with
 | none=>rfl
 | some s=>rfl
theorem Ch {ops : List Oper} {G : PV -> Prop} (hG : ∀ pv,G pv = F (pvT pv ++ t)) : ∀ (l : List Nat) (pv : PV),(∀ i ∈ l,∃ d,(aq ops i).dst = some d /\ d < n) -> (∀ p ∈ pv,∀ d,p.2.1.dst = some d -> d < n) ->
 oy E ops ⟨n,kb,t,h⟩ pv (l.map λi=>(i,aq ops i)) (λpv'=>(∀ p∈pv',∀ d,p.2.1.dst = some d->d < n)/\G pv') = q9 E ops n kb h (l.map (aq ops)) (pvT pv ++ t) F
 | [], pv, _, hpv => by
   simp only [List.map_nil,oy,q9];rw [hG];exact propext ⟨λh=>h.2,λh=>⟨hpv,h⟩⟩
 | i :: l, pv, hl, hpv => by
   simp only [List.map_cons,oy,q9];refine congrArg _ ?_
   funext v
   obtain ⟨d,hd,hlt⟩:=hl i (List.mem_cons_self ..)
   rw [Ch hG l _ (λj hj=>hl j (List.mem_cons_of_mem _ hj)) (λp hp d' hd'=>by
    rcases List.mem_cons.1 hp with rfl | hp
    ·rw [hd] at hd';cases hd';exact hlt
    ·exact hpv p hp d' hd')]
   have : pvT ((i,aq ops i,v) :: pv) = (d,v) :: pvT pv:=by simp [pvT,hd]
   rw [this,hd];rfl
def BG (n : Nat) (ops : List Oper) : Bool:=om ops (List.range ops.length) [] && ops.all λo=>match o.dst with | some d=>decide (d < n) | none=>false
theorem au.quiet {E : Env} (hE : EOk E) (hm : E.P.follows .mixedOrders = true) {id : Nat} {ops : List Oper} {Q : Exit->ASt->Prop} {n kb : Nat} {t : List (Nat × AV)} {h : AH} (hok : BG n ops = true)
 (hx : q9 E ops n kb h ops t λt'=>Q .normal ⟨n,kb,t',h⟩) : au E id ops Q ⟨n,kb,t,h⟩:=by
 simp only [BG,Bool.and_eq_true] at hok;obtain ⟨h1,h2⟩:=hok
 have hd : ∀ i∈List.range ops.length,∃ d,(aq ops i).dst = some d/\d < n:=by
  intro i hi;have hlt:=List.mem_range.1 hi;have hop : aq ops i = ops[i]:=by simp [aq,hlt]
  have:=List.all_eq_true.1 h2 ops[i] (List.getElem_mem hlt);rw [hop]
  split at this
  ·rename_i d hd;exact ⟨d,hd,by simpa using this⟩
  ·simp at this
 have hmap : (List.range ops.length).map (aq ops) = ops:=by
  refine List.ext_getElem (by simp) (λi hi hi'=>?_);simp [aq,hi']
 refine pA hE hm (List.range ops.length) [] (.inl rfl) h1 (λpv st'=>st' = ⟨n,kb,pvT pv ++ (cK pv ++ t),h⟩/\Q .normal ⟨n,kb,pvT pv ++ t,h⟩) ?_ ?_
 ·have:=Ch (E:=E) (ops:=ops) (kb:=kb) (h:=h) (t:=t) (n:=n) (F:=λt'=>Q .normal ⟨n,kb,t',h⟩) (G:=λpv=>qM E ops ⟨n,kb,t,h⟩ pv [] [] { (⟨n,kb,t,h⟩ : ASt) with t:=cK pv ++ t } (λst'=>st' = ⟨n,kb,pvT pv ++ (cK pv ++ t),h⟩/\Q .normal ⟨n,kb,pvT pv ++ t,h⟩)) (λpv=>by
   simp only [qM];rw [show (pv.filter λp=>!([] : List Nat).contains p.1) = pv from List.filter_eq_self.2 (by simp)];simp) (List.range ops.length) [] hd (by simp)
  simp only [List.map_nil] at this ⊢;rw [this,hmap];exact hx
 ·rintro pv st' a w ⟨rfl,hq⟩ hR
  refine ⟨_,hq,hR.dfr,hR.size,λs=>?_,hR.heap,hR.below,hR.base_le⟩
  show VRel w h.M (aG (pvT pv ++ t) s) _
  by_cases hs : ∃ p∈pvT pv,p.1 = s
  ·have e1 : ∀ x y : List (Nat × AV),aG (pvT pv ++ x) s = aG (pvT pv ++ y) s:=by
    intro x y;obtain ⟨p,hp,rfl⟩:=hs;generalize pvT pv = l at hp
    induction l with
    | nil=>simp at hp
    | cons q l ih =>
      obtain ⟨q1,q2⟩:=q;simp only [List.cons_append,aG];by_cases hq : p.1 = q1
      ·rw [if_pos hq,if_pos hq]
      ·rw [if_neg hq,if_neg hq]
       rcases List.mem_cons.1 hp with rfl | hp
       ·exact absurd rfl hq
       ·exact ih hp
   rw [e1 t (cK pv ++ t)];exact hR.tmp s
  ·have:=hR.tmp s
   have hne : ∀ p∈pvT pv,p.1≠s:=λp hp he=>hs ⟨p,hp,he⟩
   have hne' : ∀ p∈cK pv,p.1≠s:=by
    intro p hp he;unfold cK at hp;rw [List.mem_filterMap] at hp;obtain ⟨x,hx,hd⟩:=hp;rw [Option.map_eq_some_iff] at hd;obtain ⟨d,hd,rfl⟩:=hd;exact hs ⟨(d,x.2.2),by unfold pvT;rw [List.mem_filterMap];exact ⟨x,hx,by rw [hd];rfl⟩,he⟩
   rw [fe hne];have h3 : aG (pvT pv ++ (cK pv ++ t)) s = aG t s:=by rw [fe hne,fe hne']
   have h4 : VRel w h.M (aG (pvT pv ++ (cK pv ++ t)) s) (a.tmps.getD s undef):=this;rw [h3] at h4;exact h4
end
attribute [simp ↓] I8 I9 Jq Ro OM OR OQ LA OP ON Rp Rq OO LC Lz LB M1 Hc M0 Jl M2 PU P0 PT M3 Ji Jk Hb Jj PZ Ea PY PW PX M4 NF Jz Hw
attribute [simp] roR roV
open Go.RowKit
mutual
def AV.q : AV->Bool
 | .ro _=>false
 | .rp _=>false
 | .agg l=>AV.qL l
 | .tup l=>AV.qL l
 | .clo _ l=>AV.qL l
 | _=>true
def AV.qL : List AV->Bool
 | []=>true
 | a :: l=>a.q && AV.qL l
end
def AObj.q : AObj->Bool
 | .dead=>true
 | .vars _ _ cells=>AV.qL cells
 | .rows _ _ _ own=>own
 | _=>false
def qT : List (Nat × AV)->Bool
 | []=>true
 | (_,v) :: l=>v.q && qT l
def qH : AH->Bool
 | []=>true
 | (_,o) :: l=>o.q && qH l
def ASt.quiet (st : ASt) : Prop:=qT st.t = true/\qH st.h = true
theorem kN : ∀ (l : List AV),AV.qL l = true->∀ (i : Nat) (a : AV),l[i]? = some a->a.q = true
 | [],_,i,a,h=>by simp at h
 | b :: l, h, i, a, hi => by
   simp only [AV.qL,Bool.and_eq_true] at h
   cases i with
   | zero=>simp at hi;subst hi;exact h.1
   | succ i=>exact kN l h.2 i a (by simpa using hi)
theorem VRel.quiet {w w' : World} {M M' : Nat->Prop} {av : AV} {x : Value} (h : VRel w M av x) (hq : av.q = true) : VRel w' M' av x:=by
 induction h with
 | any x=>exact .any x
 | un=>exact .un
 | nil=>exact .nil
 | v u h=>exact .v u h
 | ro rows x h=>simp [AV.q] at hq
 | sl k H sz off len x h=>exact .sl k H sz off len x h
 | cv u len h=>exact .cv u len h
 | ml k H sz len x h=>exact .ml k H sz len x h
 | is u=>exact .is u
 | p k b c=>exact .p k b c
 | e k b o C sz r c=>exact .e k b o C sz r c
 | rp row b o cs T fr hM hb hfit hr=>simp [AV.q] at hq
 | agg l xs hs _ ih=>exact .agg l xs hs (λi av hi=>ih i av hi (kN l (by simpa [AV.q] using hq) i av hi))
 | tup l xs hs _ ih=>exact .tup l xs hs (λi av hi=>ih i av hi (kN l (by simpa [AV.q] using hq) i av hi))
 | clo f l xs hs _ ih=>exact .clo f l xs hs (λi av hi=>ih i av hi (kN l (by simpa [AV.q] using hq) i av hi))
theorem zT : ∀ (t : List (Nat × AV)),qT t = true->∀ i,(aG t i).q = true
 | [],_,i=>rfl
 | (k, v) :: t, h, i => by
   simp only [qT,Bool.and_eq_true] at h;unfold aG
   split
   ·exact h.1
   ·exact zT t h.2 i
theorem Fz : ∀ (h : AH),qH h = true->∀ i,(h.get i).q = true
 | [],_,i=>rfl
 | (k, v) :: t, h, i => by
   simp only [qH,Bool.and_eq_true] at h;rw [aI]
   split
   ·exact h.1
   ·exact Fz t h.2 i
def Ent (E : Env) (st : ASt) (S : ASt->Prop) : Prop:=∀ a w,Rep E.w0 E.base st a w->∃ st',S st'/\Rep E.w0 E.base st' a w
theorem Ent.refl {E : Env} {st : ASt} {S : ASt->Prop} (h : S st) : Ent E st S:=λ_ _ hR=>⟨st,h,hR⟩
def BY {β : Type} (E : Env) (Inv : β->Prop) (I : β->ASt) (μ : β->Nat) (x : β) (Q : Exit->ASt->Prop) : Exit->ASt->Prop
 | .normal,st=>Ent E st λst'=>∃ x',Inv x'/\μ x' < μ x/\tI st' (I x')
 | e,st=>Q e st
theorem ah {E : Env} (hE : EOk E) {body : Code} {Q : Exit->ASt->Prop} {st : ASt} {β : Type} (Inv : β->Prop) (I : β->ASt) (μ : β->Nat) (x0 : β) (h0 : Inv x0) (hw : tI st (I x0))
 (hr : ∀ x,Inv x->Ent E (I x) (d9 E body (BY E Inv I μ x Q))) : aB E body Q st:=by
 intro a w hR;refine wp_loop_ghost (λn a w=>∃ x,Inv x/\μ x = n/\Rep E.w0 E.base (I x) a w) (μ x0) ⟨x0,h0,rfl,hw.rep hR⟩ ?_
 rintro n a w ⟨x,hx,rfl,hR⟩
 obtain ⟨st1,hs1,hR1⟩:=hr x hx a w hR;refine wp_mono (bM hE body _ _ a w hR1 hs1) ?_
 rintro e a' w' ⟨st',hq,hR'⟩
 cases e with
 | normal =>
   obtain ⟨st2,⟨x',h1,h2,h3⟩,hR2⟩:=hq a' w' hR';exact ⟨μ x',h2,x',h1,rfl,h3.rep hR2⟩
 | _=>exact ⟨st',hq,hR'⟩
def jB (rows : List (List CD)) (i j : Nat) (d : CD) : List (List CD):=rows.modify i λr=>r.set j d
theorem ik (rows : List (List CD)) (i j : Nat) (d : CD) : (jB rows i j d).length = rows.length:=by simp [jB]
theorem xK {rows : List (List CD)} {i j : Nat} {d : CD} {i' j' : Nat} {row : List CD} {x : CD} (hi : (jB rows i j d)[i']? = some row) (hj : row[j']? = some x) :
 (i' = i/\j' = j/\x = d)\/¬ (i' = i/\j' = j)/\∃ row0,rows[i']? = some row0/\row0[j']? = some x:=by
 unfold jB at hi;rw [List.getElem?_modify] at hi;by_cases h : i = i'
 ·subst h
  simp only [↓reduceIte,Option.map_eq_map,Option.map_eq_some_iff] at hi;obtain ⟨row0,h0,rfl⟩:=hi;rw [List.getElem?_set] at hj;by_cases h2 : j = j'
  ·subst h2
   rw [if_pos rfl] at hj
   split at hj
   ·simp at hj;exact .inl ⟨rfl,rfl,hj.symm⟩
   ·simp at hj
  ·rw [if_neg h2] at hj
   exact .inr ⟨λh=>h2 h.2.symm,row0,h0,hj⟩
 ·simp only [if_neg h] at hi
  simp at hi;exact .inr ⟨λh'=>h h'.1.symm,row,hi,hj⟩
theorem xJ {rows : List (List CD)} {i j sz : Nat} {d : CD} (h : ∀ row∈rows,row.length = sz) : ∀ row∈jB rows i j d,row.length = sz:=by
 intro row hr;obtain ⟨k,hk⟩:=List.getElem?_of_mem hr;unfold jB at hk;rw [List.getElem?_modify] at hk;by_cases h' : i = k
 ·subst h'
  simp only [↓reduceIte,Option.map_eq_map,Option.map_eq_some_iff] at hk;obtain ⟨row0,h0,rfl⟩:=hk;simp [h row0 (List.mem_of_getElem? h0)]
 ·simp only [if_neg h'] at hk
  simp at hk;exact h row (List.mem_of_getElem? hk)
theorem Rep.reheap {w0 : World} {base : Bs} {st : ASt} {a : Act} {w : World} (hR : Rep w0 base st a w) (hq : qT st.t = true) {h' : AH} {E' : Nat->Nat->Prop} (H : HRel base h' w E') : Rep w0 base { st with h:=h' } a w:=
 ⟨hR.dfr,hR.size,λi=>(hR.tmp i).quiet (zT _ hq i),⟨E',H⟩,hR.below,hR.base_le⟩
theorem dr.quiet {w : World} {M M' E : Nat->Prop} {o : AObj} (h : dr w M E o) (hq : o.q = true) (hM : ∀ c,E c->¬ M c->¬ M' c) : dr w M' E o:=by
 cases o with
 | dead=>exact h
 | vars b T cells =>
   obtain ⟨cs,h1,h2,h3⟩:=h;exact ⟨cs,h1,h2,λj av hj=>(h3 j av hj).quiet (kN _ (by simpa [AObj.q] using hq) j av hj)⟩
 | rows H sz rows own =>
   cases H with
   | none=>exact h
   | some q =>
     obtain ⟨b,o,C⟩:=q;obtain ⟨cs,T,F,h1,h2,h3,h4,h5,h6,h7,h8,h9⟩:=h;refine ⟨cs,T,F,h1,h2,h3,h4,h5,h6,λi j c hc=>⟨(h7 i j c hc).1,?_⟩,h8,h9⟩;exact hM c ((h7 i j c hc).1 (by simpa [AObj.q] using hq)) (h7 i j c hc).2
 | lent=>simp [AObj.q] at hq
 | part=>simp [AObj.q] at hq
theorem Ent.open {E : Env} {st : ASt} {S : ASt->Prop} (hFG : ∀ b,E.base.F b->E.base.G b) {k i j k' sz sz' : Nat} {H : Hd} {rows srows : List (List CD)} {row : List CD} (hk : st.h.get k = .rows H sz rows true)
 (hi : rows[i]? = some row) (hj : row[j]? = some (.s srows)) (hk' : st.h.get k' = .dead) (hz : 0 < sz') (hr : ∀ r∈srows,r.length = sz') (hq : st.quiet)
 (h : ∀ H',Ent E { st with h:=(k',.rows H' sz' srows true) :: (k,.rows H sz (jB rows i j (.h k' H' sz' srows.length)) true) :: st.h } S) : Ent E st S:=by
 intro a w hR;obtain ⟨Es,HH⟩:=hR.heap;have hne : k'≠k:=by rintro rfl;rw [hk] at hk';cases hk'
 have ho:=HH.obj k;rw [hk] at ho
 cases H with
 | none=>rw [show rows = [] from ho] at hi;simp at hi
 | some q =>
   obtain ⟨b,o,C⟩:=q;obtain ⟨cs,T,F,hb,hl,hC,hsz,hfit,hrl,hF,hd,hrd⟩:=ho;have hu:=hrd i j row _ hi hj;obtain ⟨u,hud⟩ : ∃ u,cs.getD (o + (i * sz + j)) undef = u:=⟨_,rfl⟩;rw [hud] at hu;have hblkk : (st.h.get k).blk = some b:=by rw [hk];rfl
   by_cases hs0 : srows = []/\(MlS k' sz' 0->∃ a,u = .slice a 0 0)
   ·obtain ⟨rfl,hs1⟩:=hs0
    refine h none a w (hR.reheap hq.1 (E':=Es) ?_)
    have hg : ∀ x,(AH.get ((k',AObj.rows none sz' [] true) :: (k,AObj.rows (some (b,o,C)) sz (jB rows i j (.h k' none sz' 0)) true) :: st.h) x).blk = (st.h.get x).blk:=by
     intro x;rw [aI,aI]
     split
     ·rename_i hx;subst hx;rw [hk'];rfl
     ·split
      ·rename_i hx;subst hx;rw [hk];rfl
      ·rfl
    have hM : ∀ c,AH.M ((k',AObj.rows none sz' [] true) :: (k,AObj.rows (some (b,o,C)) sz (jB rows i j (.h k' none sz' 0)) true) :: st.h) c ↔ st.h.M c:=by
     intro c;unfold AH.M;simp only [hg]
    refine ⟨λx=>?_,λx x' c h1 h2=>HH.inj x x' c (by rw [<- hg];exact h1) (by rw [<- hg];exact h2),λx c h1=>HH.low x c (by rw [<- hg];exact h1),HH.elow,HH.einj,λx c hc hm=>HH.em x c hc ((hM c).1 hm)⟩;rw [aI,aI]
    split
    ·rfl
    ·split
     ·rename_i hx
      subst hx;refine ⟨cs,T,F,hb,by rw [ik];exact hl,hC,hsz,hfit,xJ hrl,λi j c hc=>⟨(hF i j c hc).1,λhm=>(hF i j c hc).2 ((hM c).1 hm)⟩,hd,?_⟩;intro i2 j2 row2 d2 h1 h2;rcases xK h1 h2 with ⟨rfl,rfl,rfl⟩ | ⟨-,row0,h3,h4⟩
      ·rw [hud];exact .h _ _ _ _ _ (λh=>⟨hs1 h,rfl⟩) (λ_ _=>hu)
      ·exact hrd _ _ _ _ h3 h4
     ·exact (HH.obj x).mono (λc _ hc=>(hM c).1 hc) (λ_ hc=>hc)
   ·cases hu with
    | empty a cap hc=>exact absurd ⟨rfl,λ_=>⟨a,by rw [hc rfl]⟩⟩ hs0
    | slice b1 off1 cap1 sz1 cs1 T1 fr1 _ F1 hcap1 hmax1 hsz1 hS1 hb1 hfit1 hown1 hF1 hd1 hlen1 hr1 =>
      obtain ⟨hfr1,hroom1⟩:=hown1 rfl;subst hfr1
      have hkey : off1 + cap1 * sz'<=cs1.size/\(∀ row∈srows,row.length = sz')/\∀ i j row d,srows[i]? = some row->row[j]? = some d->Rd w true (F1 i j) (cs1.getD (off1 + (i * sz' + j)) undef) d:=by
       cases srows with
       | nil =>
         have h1 : sz' = 1:=Classical.byContradiction λh=>hs0 ⟨rfl,λh1=>h1.elim (λh=>absurd h (by omega)) (λh2=>absurd h2.1 h)⟩
         have:=Nat.mul_le_mul_left cap1 (show sz'<=sz1 by omega);exact ⟨by omega,by simp,λi j row d h=>by simp at h⟩
       | cons r0 l =>
         have e : sz1 = sz':=by rw [<- hlen1 r0 (List.mem_cons_self ..),hr r0 (List.mem_cons_self ..)]
         subst e;exact ⟨hroom1,hlen1,hr1⟩
      clear hr1 hlen1 hroom1 hfit1 hsz1
      obtain ⟨hroom1,hlen1,hr1⟩:=hkey;have hsz1:=hz;have hb1E : Es k b1:=(hF i j b1 hS1).1 rfl;have hb1M : ¬ st.h.M b1:=(hF i j b1 hS1).2;refine h (some (b1,off1,cap1)) a w (hR.reheap hq.1 (E':=λx c=>if x = k' then (∃ i' j',F1 i' j' c) else if x = k then Es k c/\¬ F i j c else Es x c) ?_);have hE' : ∀ c,¬ Es k' c\/True:=λ_=>.inr trivial
      have hget : ∀ x,AH.get ((k',AObj.rows (some (b1,off1,cap1)) sz' srows true) :: (k,AObj.rows (some (b,o,C)) sz (jB rows i j (.h k' (some (b1,off1,cap1)) sz' srows.length)) true) :: st.h) x =
       if x = k' then AObj.rows (some (b1,off1,cap1)) sz' srows true else if x = k then AObj.rows (some (b,o,C)) sz (jB rows i j (.h k' (some (b1,off1,cap1)) sz' srows.length)) true else st.h.get x:=λx=>rfl
      generalize hgen : (((k',AObj.rows (some (b1,off1,cap1)) sz' srows true) :: (k,AObj.rows (some (b,o,C)) sz (jB rows i j (.h k' (some (b1,off1,cap1)) sz' srows.length)) true) :: st.h) : AH) = h2 at hget ⊢
      change AH at h2
      have hblk : ∀ x c,(h2.get x).blk = some c->(x = k'/\c = b1)\/x≠k'/\(st.h.get x).blk = some c:=by
       intro x c hc;rw [hget] at hc
       split at hc
       ·rename_i hx;simp [AObj.blk] at hc;exact .inl ⟨hx,hc.symm⟩
       ·rename_i hx
        split at hc
        ·rename_i hx2;subst hx2;rw [hk];exact .inr ⟨hx,hc⟩
        ·exact .inr ⟨hx,hc⟩
      have hM : ∀ c,h2.M c->c = b1\/st.h.M c:=by
       rintro c ⟨x,hx⟩
       rcases hblk x c hx with h | h
       ·exact .inl h.2
       ·exact .inr ⟨x,h.2⟩
      have hF1E : ∀ i' j' c,F1 i' j' c->F i j c/\c≠b1:=λi' j' c hc=>⟨(hF1 i' j' c hc).1,(hF1 i' j' c hc).2 rfl⟩
      refine ⟨λx=>?_,λx x' c h1 h2=>?_,λx c h1=>?_,λx c hc=>?_,λx x' c hc hc'=>?_,λx c hc hm=>?_⟩
      ·rw [hget]
       by_cases hx : x = k'
       ·simp only [if_pos hx]
        refine ⟨cs1,T1,F1,hb1,hcap1,hmax1,hsz1,hroom1,hlen1,λi' j' c hc=>⟨λ_=>⟨i',j',hc⟩,λhm=>?_⟩,λ_=>hd1 rfl,hr1⟩;obtain ⟨h1,h2⟩:=hF1E i' j' c hc;rcases hM c hm with rfl | h
        ·exact h2 rfl
        ·exact (hF i j c h1).2 h
       ·simp only [if_neg hx]
        by_cases hxk : x = k
        ·simp only [if_pos hxk]
         refine ⟨cs,T,λi' j' c=>F i' j' c/\¬ (i' = i/\j' = j),hb,by rw [ik];exact hl,hC,hsz,hfit,xJ hrl,λi' j' c hc=>⟨λ_=>⟨(hF i' j' c hc.1).1 rfl,λh=>hc.2 (hd rfl _ _ _ _ c hc.1 h)⟩,λhm=>?_⟩,λ_ i1 j1 i2 j2 c h1 h2=>hd rfl _ _ _ _ c h1.1 h2.1,?_⟩
         ·rcases hM c hm with rfl | h
          ·exact hc.2 (hd rfl _ _ _ _ c hc.1 hS1)
          ·exact (hF i' j' c hc.1).2 h
         ·intro i2 j2 row2 d2 h1 h2
          rcases xK h1 h2 with ⟨rfl,rfl,rfl⟩ | ⟨hn,row0,h3,h4⟩
          ·rw [hud]
           refine .h _ _ _ _ _ (λ_=>?_) (λh0 h1=>absurd ⟨List.eq_nil_of_length_eq_zero h0,λh=>absurd (h0 ▸ h) h1⟩ hs0);exact .inl ⟨by simp,by omega⟩
          ·exact (hrd _ _ _ _ h3 h4).map (λ_ _ _=>rfl) (λc hc _=>⟨hc,hn⟩)
        ·simp only [if_neg hxk]
         refine (HH.obj x).quiet (Fz _ hq.2 x) (λc hc hm hm'=>?_);rcases hM c hm' with rfl | h
         ·exact hxk (HH.einj _ _ c hc hb1E)
         ·exact hm h
      ·rcases hblk x c h1 with ⟨rfl,rfl⟩ | ⟨hx,h1⟩<;>rcases hblk x' c h2 with ⟨hx',hc'⟩ | ⟨hx',h2⟩
       ·exact hx'.symm
       ·exact absurd ⟨x',h2⟩ hb1M
       ·rw [hc'] at h1;exact absurd ⟨x,h1⟩ hb1M
       ·exact HH.inj x x' c h1 h2
      ·rcases hblk x c h1 with ⟨rfl,rfl⟩ | ⟨hx,h1⟩
       ·have:=(HH.elow k c hb1E).1
        exact ⟨λh=>this (hFG _ h),this⟩
       ·exact HH.low x c h1
      ·split at hc
       ·obtain ⟨i',j',hc⟩:=hc
        exact HH.elow k c ((hF i j c (hF1E i' j' c hc).1).1 rfl)
       ·split at hc
        ·exact HH.elow k c hc.1
        ·exact HH.elow x c hc
      ·have key : ∀ y,(if y = k' then (∃ i' j',F1 i' j' c) else if y = k then Es k c/\¬ F i j c else Es y c)->(y = k'/\F i j c/\Es k c)\/(y≠k'/\y = k/\Es k c/\¬ F i j c)\/(y≠k'/\y≠k/\Es y c):=by
        intro y hy
        split at hy
        ·rename_i h;obtain ⟨i',j',hy⟩:=hy
         exact .inl ⟨h,(hF1E i' j' c hy).1,(hF i j c (hF1E i' j' c hy).1).1 rfl⟩
        ·rename_i h
         split at hy
         ·rename_i h3;exact .inr (.inl ⟨h,h3,hy⟩)
         ·rename_i h3;exact .inr (.inr ⟨h,h3,hy⟩)
       rcases key x hc with ⟨h1,h2,h3⟩ | ⟨h0,h1,h2,h3⟩ | ⟨h0,h1,h2⟩<;>rcases key x' hc' with ⟨g1,g2,g3⟩ | ⟨g0,g1,g2,g3⟩ | ⟨g0,g1,g2⟩
       ·rw [h1,g1]
       ·exact absurd h2 g3
       ·exact absurd (HH.einj _ _ c g2 h3) g1
       ·exact absurd g2 h3
       ·rw [h1,g1]
       ·exact absurd (HH.einj _ _ c g2 h2) g1
       ·exact absurd (HH.einj _ _ c h2 g3) h1
       ·exact absurd (HH.einj _ _ c h2 g2) h1
       ·exact HH.einj _ _ c h2 g2
      ·split at hc
       ·obtain ⟨i',j',hc⟩:=hc
        obtain ⟨h1,h2⟩:=hF1E i' j' c hc;rcases hM c hm with rfl | h
        ·exact h2 rfl
        ·exact (hF i j c h1).2 h
       ·split at hc
        ·rcases hM c hm with rfl | h
         ·exact hc.2 hS1
         ·exact HH.em k c hc.1 h
        ·rename_i hxk
         rcases hM c hm with rfl | h
         ·exact hxk (HH.einj _ _ c hc hb1E)
         ·exact HH.em x c hc h
end Go.AM
