import Derived.Test.YtoldjebobgocpaaGreatMD
namespace Go.AM
open Go.RowKit
section
variable {P : Program} {T : Nat->Option TI} {w0 : World} {base : Bs} {E : Env} {Q : Exit->ASt->Prop} {K : ASt->Prop} {st : ASt}
@[congr] theorem QU {d : Option Nat} {v v' : AV} (h : v = v') : aW st d v K = aW st d v' K:=by rw [h]
@[congr] theorem QO (f : Nat) {l l' : List AV} {d : Option Nat} (h : l = l') : aa E f l st d K = aa E f l' st d K:=by rw [h]
structure Ph {α : Sort _} (a : α) : Type where
 mk ::
def ph {α : Sort _} (a : α) : Ph a:=⟨⟩
def Br (b : Bool) {X Y : Prop} (_ : Ph X) (_ : Ph Y) : Prop:=(b = true->X)/\(b = false->Y)
theorem Sl {X Y : Prop} {p : Ph X} {q : Ph Y} : Br true p q = X:=by simp [Br]
theorem Sn {X Y : Prop} {p : Ph X} {q : Ph Y} : Br false p q = Y:=by simp [Br]
theorem Sm {b : Bool} {X Y : Prop} {p : Ph X} {q : Ph Y} : Br (!b) p q = Br b q p:=by cases b<;>simp [Br]
theorem Br.mk {b : Bool} {X Y : Prop} {p : Ph X} {q : Ph Y} (h : b = true->X) (k : b = false->Y) : Br b p q:=⟨h,k⟩
theorem M4 : d5 E .skip Q st = Q .normal st:=(rfl)
theorem Hg {id : Nat} {l : List Oper} : d5 E (.region id ⟨l⟩ false) Q st = oA E l l (Q .normal) st:=(rfl)
theorem M7 {id : Nat} {l : List Oper} : d5 E (.region id ⟨l⟩ true) Q st = am E id l Q st:=(rfl)
theorem P9 {x y : Code} : d5 E (.seq x y) Q st = d5 E x (Ff (d5 E y Q) Q) st:=(rfl)
theorem M8 {c : Operand} {x y : Code} : d5 E (.cond c x y) Q st = jI (st.ev c) λb=>Br b (ph (d5 E x Q st)) (ph (d5 E y Q st)):=(rfl)
theorem Jq {id : Nat} {x : Code} : d5 E (.block id x) Q st = d5 E x (xo id Q) st:=(rfl)
theorem M5 {x : Code} : d5 E (.loop x) Q st = au E x Q st:=(rfl)
theorem M6 {id : Nat} : d5 E (.exit id) Q st = Q (.exit id) st:=(rfl)
theorem Qa : d5 E .ret Q st = Q .ret st:=(rfl)
theorem Nf : Ff K Q .normal st = K st:=(rfl)
theorem Nd : Ff K Q .ret st = Q .ret st:=(rfl)
theorem Ng {i : Nat} : Ff K Q (.exit i) st = Q (.exit i) st:=(rfl)
theorem Nj {i : Nat} : xo i Q .normal st = Q .normal st:=(rfl)
theorem Nh {i : Nat} : xo i Q .ret st = Q .ret st:=(rfl)
theorem Nk {i : Nat} : xo i Q (.exit i) st = Q .normal st:=by simp [xo]
theorem Ni {i j : Nat} (h : j≠i) : xo i Q (.exit j) st = Q (.exit j) st:=by simp [xo,h]
def rA (x : AV) (want : Bool) {R S : Prop} (_ : Ph R) (_ : Ph S) : Prop:=
 match x with
 | .v (.bool b)=>(b = want->R)/\(b = !want->S)
 | .un=>S
 | _=>False
def xq (o : Option Nat) (F : Nat->Prop) : Prop:=
 match o with
 | some d=>F d
 | none=>False
theorem DH {d : Nat} {F : Nat->Prop} : xq (some d) F = F d:=(rfl)
theorem I7 {b : Bool} {R S : Prop} {r : Ph R} {s : Ph S} : rA .un b r s = S:=(rfl)
theorem DJ {R S : Prop} {r : Ph R} {s : Ph S} {c : Bool} : rA (.v (.bool c)) true r s = Br c r s:=(rfl)
theorem A4 {R S : Prop} {r : Ph R} {s : Ph S} {c : Bool} : rA (.v (.bool c)) false r s = Br c s r:=by simp [rA,Br,And.comm]
theorem Qm {all : List Oper} : oA E all [] K st = K st:=(rfl)
theorem Nn {all rest : List Oper} {d : Option Nat} {op : Op} {t : TypeId} {p : String} {af : Array Edge} :
 oA E all (⟨d,op,t,p,af,none⟩ :: rest) K st = aOp E ⟨d,op,t,p,af,none⟩ st (oA E all rest K):=(rfl)
theorem Js {all rest : List Oper} {d : Option Nat} {op : Op} {t : TypeId} {p : String} {af : Array Edge} {j : Nat} {b : Bool} :
 oA E all (⟨d,op,t,p,af,some (j,b)⟩ :: rest) K st = xq (gS all j) λs=>rA (aD st.t s) b (ph (aOp E ⟨d,op,t,p,af,some (j,b)⟩ st (oA E all rest K))) (ph (aW st d .un (oA E all rest K))):=by
 simp only [oA,GX,xq,rA]
 cases gS all j with
 | none=>rfl
 | some s=>rfl
theorem IL {d : Option Nat} {op : Op} {t : TypeId} {p : String} {af : Array Edge} {g : Option (Nat × Bool)} {l : List Oper} : gS (⟨d,op,t,p,af,g⟩ :: l) 0 = d:=(rfl)
theorem IK {o : Oper} {l : List Oper} {j : Nat} : gS (o :: l) (j + 1) = gS l j:=(rfl)
theorem Nm {v : AV} : aW st none v K = K st:=(rfl)
theorem Qk {n kb d : Nat} {t : List (Nat × AV)} {h : AH}  : aW ⟨n,kb,t,h⟩ (some d) .any K = (d < n/\K ⟨n,kb,(d,.any) :: t,h⟩):=(rfl)
theorem R0 {n kb d : Nat} {t : List (Nat × AV)} {h : AH}  : aW ⟨n,kb,t,h⟩ (some d) .un K = (d < n/\K ⟨n,kb,(d,.un) :: t,h⟩):=(rfl)
theorem Qi {n kb d : Nat} {t : List (Nat × AV)} {h : AH}  : aW ⟨n,kb,t,h⟩ (some d) .nil K = (d < n/\K ⟨n,kb,(d,.nil) :: t,h⟩):=(rfl)
theorem P_v {n kb d : Nat} {t : List (Nat × AV)} {h : AH} {u : Value} : aW ⟨n,kb,t,h⟩ (some d) (.v u) K = (d < n/\K ⟨n,kb,(d,(.v u)) :: t,h⟩):=(rfl)
theorem R5 {n kb d : Nat} {t : List (Nat × AV)} {h : AH} {r : List (List CD)} : aW ⟨n,kb,t,h⟩ (some d) (.ro r) K = (d < n/\K ⟨n,kb,(d,(.ro r)) :: t,h⟩):=(rfl)
theorem R3 {n kb d : Nat} {t : List (Nat × AV)} {h : AH} {k sz off len : Nat} {H : Hd} : aW ⟨n,kb,t,h⟩ (some d) (.sl k H sz off len) K = (d < n/\K ⟨n,kb,(d,(.sl k H sz off len)) :: t,h⟩):=(rfl)
theorem P_p {n kb d : Nat} {t : List (Nat × AV)} {h : AH} {k b c : Nat} : aW ⟨n,kb,t,h⟩ (some d) (.p k b c) K = (d < n/\K ⟨n,kb,(d,(.p k b c)) :: t,h⟩):=(rfl)
theorem P_e {n kb d : Nat} {t : List (Nat × AV)} {h : AH} {k sz r c : Nat} {H : Hd} : aW ⟨n,kb,t,h⟩ (some d) (.e k H sz r c) K = (d < n/\K ⟨n,kb,(d,(.e k H sz r c)) :: t,h⟩):=(rfl)
theorem R4 {n kb d : Nat} {t : List (Nat × AV)} {h : AH} {r : List CD} : aW ⟨n,kb,t,h⟩ (some d) (.rp r) K = (d < n/\K ⟨n,kb,(d,(.rp r)) :: t,h⟩):=(rfl)
theorem Ql {n kb d : Nat} {t : List (Nat × AV)} {h : AH} {l : List AV} : aW ⟨n,kb,t,h⟩ (some d) (.agg l) K = (d < n/\K ⟨n,kb,(d,(.agg l)) :: t,h⟩):=(rfl)
theorem Qh {n kb d : Nat} {t : List (Nat × AV)} {h : AH} {l : List AV} : aW ⟨n,kb,t,h⟩ (some d) (.tup l) K = (d < n/\K ⟨n,kb,(d,(.tup l)) :: t,h⟩):=(rfl)
theorem R7 {n kb d : Nat} {t : List (Nat × AV)} {h : AH} {u : Value} {len : Nat} : aW ⟨n,kb,t,h⟩ (some d) (.cv u len) K = (d < n/\K ⟨n,kb,(d,(.cv u len)) :: t,h⟩):=(rfl)
theorem R6 {n kb d : Nat} {t : List (Nat × AV)} {h : AH} {k sz len : Nat} {H : Hd} : aW ⟨n,kb,t,h⟩ (some d) (.ml k H sz len) K = (d < n/\K ⟨n,kb,(d,(.ml k H sz len)) :: t,h⟩):=(rfl)
theorem Qj {n kb d : Nat} {t : List (Nat × AV)} {h : AH} {f : Nat} {l : List AV} : aW ⟨n,kb,t,h⟩ (some d) (.clo f l) K = (d < n/\K ⟨n,kb,(d,(.clo f l)) :: t,h⟩):=(rfl)
theorem Qr {i : Nat} : aD [] i = .any:=(rfl)
theorem Hj {i : Nat} {v : AV} {t : List (Nat × AV)} : aD ((i,v) :: t) i = v:=by simp [aD]
theorem Bh {i j : Nat} {v : AV} {t : List (Nat × AV)} (h : i≠j) : aD ((j,v) :: t) i = aD t i:=by simp [aD,h]
theorem QL {i : Nat} : AH.get [] i = .dead:=(rfl)
theorem QN {i : Nat} {v : AObj} {t : AH} : AH.get ((i,v) :: t) i = v:=by simp [AH.get]
theorem NA {i j : Nat} {v : AObj} {t : AH} (h : i≠j) : AH.get ((j,v) :: t) i = AH.get t i:=by simp [AH.get,h]
@[congr] theorem Sy {x x' : Operand} (h : x = x') : st.ev x = st.ev x':=by rw [h]
theorem Mz {n kb i : Nat} {t : List (Nat × AV)} {h : AH} : ASt.ev ⟨n,kb,t,h⟩ (.tmp i) = aD t i:=(rfl)
theorem MD {k : IntKind} {i : Int} : st.ev (.const (.int k i)) = .v (.int k i):=(rfl)
theorem IX {b : Bool} : st.ev (.const (.bool b)) = .v (.bool b):=(rfl)
theorem MA {b : ByteArray} : st.ev (.const (.string b)) = .v (.string b):=(rfl)
theorem MC : st.ev (.const (.slice none 0 0)) = .nil:=(rfl)
theorem IW {f : Nat} : st.ev (.func f) = .v (.func (.func f) #[] #[]):=(rfl)
theorem FT {n kb d : Nat} {t : List (Nat × AV)} {h : AH} : ASt.key ⟨n,kb,t,h⟩ (some d) = kb + 16 * d:=(rfl)
theorem FU {n kb : Nat} {t : List (Nat × AV)} {h : AH} : ASt.key ⟨n,kb,t,h⟩ none = kb:=(rfl)
def wT (o : Option TI) (F : TI->Prop) : Prop:=
 match o with
 | some ti=>F ti
 | none=>False
@[congr] theorem Ss {x x' : Option TI} {F : TI->Prop} (h : x = x') : wT x F = wT x' F:=by rw [h]
theorem HD {ti : TI} {F : TI->Prop} : wT (some ti) F = F ti:=(rfl)
def wE (e : Option Nat) (F : Nat->Prop) : Prop:=
 match e with
 | some e=>F e
 | none=>False
@[congr] theorem Sw {x x' : Option Nat} {F : Nat->Prop} (h : x = x') : wE x F = wE x' F:=by rw [h]
theorem HI {e : Nat} {F : Nat->Prop} : wE (some e) F = F e:=(rfl)
theorem zd {t : Nat} {F : Nat->TI->Prop} : cS ⟨P,T,w0,base⟩ t F = wT (T t) λti=>wE ti.sl λe=>wT (T e) (F e):=by
 unfold cS wT wE;simp only
 cases T t with
 | none=>rfl
 | some ti =>
   simp only
   cases ti.sl with
   | none=>rfl
   | some e=>simp only;cases T e<;>rfl
section ops
variable {d : Option Nat} {t : TypeId} {p : String} {af : Array Edge} {g : Option (Nat × Bool)} {x y : Operand}
theorem MZ : aOp E ⟨d,.move x,t,p,af,g⟩ st K = aW st d (st.ev x) K:=(rfl)
theorem Hc : aOp E ⟨d,.assign x,t,p,af,g⟩ st K = aW st d (st.ev x) K:=(rfl)
theorem MY {c a b : Operand} : aOp E ⟨d,.pick c a b,t,p,af,g⟩ st K = jI (st.ev c) λz=>Br z (ph (aW st d (st.ev a) K)) (ph (aW st d (st.ev b) K)):=(rfl)
theorem Jn {T' : TypeId} {l : List (Nat × Operand)} : aOp E ⟨d,.build T' ⟨l⟩,t,p,af,g⟩ st K = kE E T' (l.map λq=>(q.1,st.ev q.2)) λv=>aW st d v K:=(rfl)
theorem M1 {T' : TypeId} : aOp E ⟨d,.load T' x,t,p,af,g⟩ st K = l6 E st.h T' (st.ev x) λv=>aW st d v K:=(rfl)
theorem PY : aOp E ⟨d,.nilCheck x,t,p,af,g⟩ st K = rC (st.ev x) λv=>aW st d v K:=(rfl)
theorem P8 {op : BinOp} {T' U : TypeId} : aOp E ⟨d,.binOp op T' x y U,t,p,af,g⟩ st K = kV E op T' (st.ev x) (st.ev y) λv=>aW st d v K:=(rfl)
theorem PX {T' : TypeId} : aOp E ⟨d,.unOp .not T' x,t,p,af,g⟩ st K = jI (st.ev x) λb=>aW st d (.v (.bool (!b))) K:=(rfl)
theorem M2 {s T' : TypeId} : aOp E ⟨d,.convert s T' x,t,p,af,g⟩ st K = iO E st.h s T' (st.ev x) λv=>aW st d v K:=(rfl)
theorem G9 {T' : TypeId} {lo hi : Option Operand} {mx : Operand} : aOp E ⟨d,.slice T' x lo hi (some mx),t,p,af,g⟩ st K = pz E T' (st.ev x) (lo.map st.ev) (hi.map st.ev) (st.ev mx) λv=>aW st d v K:=(rfl)
theorem Jj {T' : TypeId} {lo hi : Option Operand} : aOp E ⟨d,.slice T' x lo hi none,t,p,af,g⟩ st K = gP E T' (st.ev x) (lo.map st.ev) (hi.map st.ev) λv=>aW st d v K:=(rfl)
theorem Jl {T' : TypeId} {f : Nat} : aOp E ⟨d,.fieldAddr T' x f,t,p,af,g⟩ st K = lN E T' f (st.ev x) λv=>aW st d v K:=(rfl)
theorem Ha {T' : TypeId} {f : Nat} : aOp E ⟨d,.field T' x f,t,p,af,g⟩ st K = lM E T' f (st.ev x) λv=>aW st d v K:=(rfl)
theorem Jk {T' : TypeId} : aOp E ⟨d,.indexAddr T' x y,t,p,af,g⟩ st K = cS E T' λ_ te=>aCv E (st.ev x) λz=>indexAt te z (st.ev y) λv=>aW st d v K:=(rfl)
theorem P6 {T' : TypeId} : aOp E ⟨d,.index T' x y,t,p,af,g⟩ st K = zy E T' (st.ev x) (st.ev y) λv=>aW st d v K:=(rfl)
theorem D0 {i : Nat} : aOp E ⟨d,.extract x i,t,p,af,g⟩ st K = dG (st.ev x) i λv=>aW st d v K:=(rfl)
theorem Jo {T' : TypeId} : aOp E ⟨d,.alloc T',t,p,af,g⟩ st K = qy E st d T' K:=(rfl)
theorem P7 {T' : TypeId} : aOp E ⟨d,.box T' x,t,p,af,g⟩ st K = zA E st d T' (st.ev x) K:=(rfl)
theorem Hb {T' : TypeId} {len : Nat} {l : List (Nat × Operand)} : aOp E ⟨d,.buildSlice T' len ⟨l⟩,t,p,af,g⟩ st K = gv E st d T' len (l.map λq=>(q.1,st.ev q.2)) K:=(rfl)
theorem M0 {T' : TypeId} : aOp E ⟨d,.makeSlice T' x y,t,p,af,g⟩ st K = vJ E st d T' (st.ev x) (st.ev y) K:=(rfl)
theorem Ji {T' : TypeId} : aOp E ⟨d,.store T' x y,t,p,af,g⟩ st K = kD E st T' (st.ev x) (st.ev y) λst'=>aW st' d .un K:=(rfl)
theorem P4 {T' : TypeId} : aOp E ⟨d,.call ⟨.builtin .len,#[x],#[T']⟩,t,p,af,g⟩ st K = nz E T' (st.ev x) λv=>aW st d v K:=(rfl)
theorem He {T' U : TypeId} : aOp E ⟨d,.call ⟨.builtin .append,#[x,y],#[T',U]⟩,t,p,af,g⟩ st K = (T' = U/\er E st d T' (st.ev x) (st.ev y) K):=(rfl)
theorem P0 {U1 U2 : TypeId} : aOp E ⟨d,.call ⟨.builtin .min,#[x,y],#[U1,U2]⟩,t,p,af,g⟩ st K = xw (st.ev x) (st.ev y) λv=>aW st d v K:=(rfl)
theorem P2 {U1 U2 : TypeId} : aOp E ⟨d,.call ⟨.builtin .max,#[x,y],#[U1,U2]⟩,t,p,af,g⟩ st K = zt (st.ev x) (st.ev y) λv=>aW st d v K:=(rfl)
theorem M3 {f : Nat} {l : List Operand} {ts : List TypeId} : aOp E ⟨d,.call ⟨.value (.func f),⟨l⟩,⟨ts⟩⟩,t,p,af,g⟩ st K = aa E f (l.map st.ev) st d K:=(rfl)
end ops
@[congr] theorem PF {x x' : AV} {F : Bool->Prop} (h : x = x') : jI x F = jI x' F:=by rw [h]
theorem I9 {b : Bool} {F : Bool->Prop} : jI (.v (.bool b)) F = F b:=(rfl)
@[congr] theorem QT {x x' y y' : AV} {F : Value->Value->Prop} (h : x = x') (k : y = y') : DL x y F = DL x' y' F:=by rw [h,k]
@[congr] theorem PN {E : Env} {op : BinOp} {T : Nat} {x x' y y' : AV} {F : AV->Prop} (h : x = x') (k : y = y') : kV E op T x y F = kV E op T x' y' F:=by rw [h,k]
theorem Jc {E : Env} {op : BinOp} {T : Nat} {a b : Value} {F : AV->Prop} : kV E op T (.v a) (.v b) F = dg (E.isBool T) op a b F:=(rfl)
theorem Ay : gI [] = some []:=(rfl)
theorem yK {a : Int} {l : List AV} : gI (.v (.int .i64 a) :: l) = (gI l).map (a :: ·):=(rfl)
theorem MN {a b : Value} {F : Value->Value->Prop} : DL (.v a) (.v b) F = F a b:=(rfl)
@[congr] theorem QW {x x' : AV} {F : AV->Prop} (h : x = x') : rC x F = rC x' F:=by rw [h]
@[congr] theorem JL {x x' : AV} {i : Nat} {F : AV->Prop} (h : x = x') : dG x i F = dG x' i F:=by rw [h]
theorem Bd {v : AV} {l : List AV} {F : AV->Prop} : dG (.tup (v :: l)) 0 F = F v:=(rfl)
theorem Bc {v : AV} {l : List AV} {i : Nat} {F : AV->Prop} : dG (.tup (v :: l)) (i + 1) F = dG (.tup l) i F:=(rfl)
noncomputable def dc (p : Prop) : Bool:=@decide p (Classical.propDecidable p)
theorem RO : dc True = true:=by simp [dc]
theorem RP : dc False = false:=by simp [dc]
theorem jC {p : Prop} : (dc p = true) = p:=by simp [dc]
theorem cJ {p : Prop} : (dc p = false) = ¬ p:=by simp [dc]
theorem mn {p : Prop} (h : dc p = true) : p:=by simpa [dc] using h
theorem qM {p : Prop} (h : dc p = false) : ¬ p:=by simpa [dc] using h
theorem pq (p : Prop) [Decidable p] : dc p = decide p:=by simp [dc]
theorem vF (b : ByteArray) : b.toList = b.data.toList:=by
 unfold ByteArray.toList
 have : ∀ (n i : Nat) (r : List UInt8),b.size - i = n->ByteArray.toList.loop b i r = r.reverse ++ b.data.toList.drop i:=by
  intro n
  induction n with
  | zero =>
    intro i r h;rw [ByteArray.toList.loop];rw [if_neg (by omega)];have : b.data.toList.length<=i:=by have : b.data.size = b.size:=rfl;simp;omega
    rw [List.drop_of_length_le this];simp
  | succ n ih =>
    intro i r h;rw [ByteArray.toList.loop];rw [if_pos (by omega),ih (i + 1) _ (by omega)];have hs : i < b.data.toList.length:=by have : b.data.size = b.size:=rfl;simp;omega
    rw [List.drop_eq_getElem_cons hs]
    have hg : b.get! i = b.data.toList[i]:=by
     show b.data[i]! = _
     have : i < b.data.size:=by simpa using hs
     rw [getElem!_pos b.data i this];simp
    rw [hg];simp
 simpa using this b.size 0 [] (by omega)
theorem E8 (a b : ByteArray) : (a.toList == b.toList) = dc (a = b):=by
 rw [vF,vF,pq];by_cases h : a = b
 ·subst h;simp
 ·have : a.data.toList≠b.data.toList:=by
   intro he
   apply h
   cases a;cases b
   simpa using he
  rw [decide_eq_false h];exact beq_eq_false_iff_ne.2 this
section bins
variable {k k' : IntKind} {a b : Int} {tb : Prop} {F : AV->Prop} {s u : ByteArray} {x y : Bool}
@[congr] theorem Q1 {op : BinOp} {x x' y y' : Value} (h : x = x') (h' : y = y') : dg tb op x y F = dg tb op x' y' F:=by rw [h,h']
theorem QK : dg tb .add (.int k a) (.int k b) F = F (.v (.int k (k.wrap (a + b)))):=by simp [dg]
theorem Qx : dg tb .sub (.int k a) (.int k b) F = F (.v (.int k (k.wrap (a - b)))):=by simp [dg]
theorem QD : dg tb .mul (.int k a) (.int k b) F = F (.v (.int k (k.wrap (a * b)))):=by simp [dg]
theorem QB : dg tb .quo (.int k a) (.int k b) F = (b≠0/\F (.v (.int k (k.wrap (a.tdiv b))))):=by simp [dg]
theorem QA : dg tb .rem (.int k a) (.int k b) F = (b≠0/\F (.v (.int k (a.tmod b)))):=by simp [dg]
theorem QJ : dg tb .and (.int k a) (.int k b) F = F (.v (.int k (bits .and k a b))):=by simp [dg]
theorem So : dg tb .or (.int k a) (.int k b) F = F (.v (.int k (bits .or k a b))):=by simp [dg]
theorem Qw : dg tb .xor (.int k a) (.int k b) F = F (.v (.int k (bits .xor k a b))):=by simp [dg]
theorem Qz : dg tb .shl (.int k a) (.int k' b) F = (0<=b/\b<=k.bits/\F (.v (.int k (k.wrap (a * 2 ^ b.toNat))))):=by simp [dg]
theorem Qy : dg tb .shr (.int k a) (.int k' b) F = (0<=b/\b<=k.bits/\F (.v (.int k (a / 2 ^ b.toNat)))):=by simp [dg]
theorem QE : dg tb .lss (.int k a) (.int k b) F = F (.v (.bool (dc (a < b)))):=by simp [dg,pq]
theorem QF : dg tb .leq (.int k a) (.int k b) F = F (.v (.bool (dc (a<=b)))):=by simp [dg,pq]
theorem QG : dg tb .gtr (.int k a) (.int k b) F = F (.v (.bool (dc (b < a)))):=by simp [dg,pq]
theorem QH : dg tb .geq (.int k a) (.int k b) F = F (.v (.bool (dc (b<=a)))):=by simp [dg,pq]
theorem QI : dg tb .eql (.int k a) (.int k b) F = F (.v (.bool (dc (a = b)))):=by simp [dg,pq]
theorem QC : dg tb .neq (.int k a) (.int k b) F = F (.v (.bool (!dc (a = b)))):=by simp [dg,pq]
theorem PD (x y : Bool) : (x == y) = dc (x = y):=by cases x<;>cases y<;>simp [dc]
theorem Nx : dg tb .eql (.bool x) (.bool y) F = (tb/\F (.v (.bool (dc (x = y))))):=by simp only [dg,PD]
theorem Nw : dg tb .neq (.bool x) (.bool y) F = (tb/\F (.v (.bool (!dc (x = y))))):=by simp only [dg,PD]
theorem Nu : dg tb .eql (.string s) (.string u) F = F (.v (.bool (dc (s = u)))):=by simp only [dg,E8]
theorem Nr : dg tb .neq (.string s) (.string u) F = F (.v (.bool (!dc (s = u)))):=by simp only [dg,E8]
theorem Nv : dg tb .add (.string s) (.string u) F = (s.size + u.size<=140737488355328/\F (.v (.string (s ++ u)))):=by simp [dg]
end bins
def wI2 (x y : Option (List Int)) (F : List Int->List Int->Prop) : Prop:=
 match x,y with
 | some a,some b=>F a b
 | _,_=>False
theorem JO {a b : List Int} {F : List Int->List Int->Prop} : wI2 (some a) (some b) F = F a b:=(rfl)
@[congr] theorem Q7 {x x' y y' : Option (List Int)} {F : List Int->List Int->Prop} (h : x = x') (k : y = y') : wI2 x y F = wI2 x' y' F:=by rw [h,k]
theorem DX {t : Nat} {l m : List AV} {F : AV->Prop} : kV ⟨P,T,w0,base⟩ .eql t (.agg l) (.agg m) F = wT (T t) λti=>ti.ieq = true/\wI2 (gI l) (gI m) λa b=>a.length = ti.n/\b.length = ti.n/\F (.v (.bool (dc (a = b)))):=by
 simp only [kV,DS,wT,wI2,pq];rfl
theorem DW {t : Nat} {l m : List AV} {F : AV->Prop} : kV ⟨P,T,w0,base⟩ .neq t (.agg l) (.agg m) F = wT (T t) λti=>ti.ieq = true/\wI2 (gI l) (gI m) λa b=>a.length = ti.n/\b.length = ti.n/\F (.v (.bool (!dc (a = b)))):=by
 simp only [kV,DS,wT,wI2,pq];rfl
theorem C6 {t : Nat} : Env.isBool ⟨P,T,w0,base⟩ t = wT (T t) λti=>ti.boo = true:=by
 unfold Env.isBool wT;simp only
 cases T t<;>rfl
theorem F0 {t : Nat} : Env.isStr ⟨P,T,w0,base⟩ t = wT (T t) λti=>ti.str = true:=by
 unfold Env.isStr wT;simp only
 cases T t<;>rfl
theorem yJ {t : Nat} : Env.known ⟨P,T,w0,base⟩ t = wT (T t) λ_=>True:=by
 unfold Env.known wT;simp only
 cases T t<;>rfl
section loads
variable {h : AH} {t : Nat} {x x' y y' : AV} {F : AV->Prop} {ti : TI}
@[congr] theorem PJ (hx : x = x') : l6 E h t x F = l6 E h t x' F:=by rw [hx]
theorem G0 : l6 ⟨P,T,w0,base⟩ h t x F = wT (T t) λti=>loadAt ti h x F:=by unfold l6 wT;simp only;cases T t<;>rfl
@[congr] theorem NH {f : Nat} (hx : x = x') : lN E t f x F = lN E t f x' F:=by rw [hx]
theorem Bb {f : Nat} : lM ⟨P,T,w0,base⟩ t f x F = wT (T t) λti=>lC ti f x F:=by unfold lM wT;simp only;cases T t<;>rfl
theorem DR {f : Nat} : lN ⟨P,T,w0,base⟩ t f x F = wT (T t) λti=>fieldAt ti f x F:=by unfold lN wT;simp only;cases T t<;>rfl
@[congr] theorem RY (hx : x = x') : aCv E x F = aCv E x' F:=by rw [hx]
@[simp ↓] theorem RW {rows : List (List CD)} : aCv E (.ro rows) F = F (.ro rows):=(rfl)
@[simp ↓] theorem RU {kk sz off len : Nat} {H : Hd} : aCv E (.sl kk H sz off len) F = F (.sl kk H sz off len):=(rfl)
@[simp ↓] theorem RX {kk sz len : Nat} {H : Hd} : aCv E (.ml kk H sz len) F = F (.ml kk H sz len):=(rfl)
@[simp ↓] theorem QZ : aCv E .nil F = F .nil:=(rfl)
@[congr] theorem Mh (hx : x = x') (hy : y = y') : indexAt ti x y F = indexAt ti x' y' F:=by rw [hx,hy]
theorem Sf {rows : List (List CD)} {k : IntKind} {n : Int} : indexAt ti (.ro rows) (.v (.int k n)) F = (0<=n/\n < rows.length/\∀ row,rows[n.toNat]? = some row->row.length = ti.n/\F (.rp row)):=(rfl)
theorem Se {kk sz off len : Nat} {H : Hd} {k : IntKind} {n : Int} : indexAt ti (.sl kk H sz off len) (.v (.int k n)) F = (0<=n/\n < len/\sz = ti.n/\F (.e kk H sz (off + n.toNat) 0)):=(rfl)
theorem Sg {kk sz len : Nat} {H : Hd} {k : IntKind} {n : Int} : indexAt ti (.ml kk H sz len) (.v (.int k n)) F = (0<=n/\n < len/\sz = ti.n/\F (.e kk H sz n.toNat 0)):=(rfl)
@[congr] theorem QX (hx : x = x') : nz E t x F = nz E t x' F:=by rw [hx]
theorem Sb {rows : List (List CD)} : nz E t (.ro rows) F = cS E t λ_ _=>F (.v (.int .i64 rows.length)):=(rfl)
theorem Sa {kk sz off len : Nat} {H : Hd} : nz E t (.sl kk H sz off len) F = cS E t λ_ _=>F (.v (.int .i64 len)):=(rfl)
theorem Sd {u : Value} {len : Nat} : nz E t (.cv u len) F = cS E t λ_ _=>F (.v (.int .i64 len)):=(rfl)
theorem Sc {kk sz len : Nat} {H : Hd} : nz E t (.ml kk H sz len) F = cS E t λ_ _=>F (.v (.int .i64 len)):=(rfl)
theorem Qq : nz E t .nil F = cS E t λ_ _=>F (.v (.int .i64 0)):=(rfl)
theorem Np : nz E t (.v (.slice none 0 0)) F = cS E t λ_ _=>F (.v (.int .i64 0)):=(rfl)
theorem Qp {s : ByteArray} : nz E t (.v (.string s)) F = (E.isStr t/\F (.v (.int .i64 s.size))):=(rfl)
@[congr] theorem L3 {row row' : List CD} (hr : row = row') : dH ti row F = dH ti row' F:=by rw [hr]
@[congr] theorem NC (hx : x = x') : loadAt ti h x F = loadAt ti h x' F:=by rw [hx]
theorem Sj {row : List CD} : loadAt ti h (.rp row) F = dH ti row F:=(rfl)
theorem CJ {row : List CD} (ha : ti.agg = true) : dH ti row F = (ti.n<=row.length/\F (.agg ((row.take ti.n).map toAV))):=by simp [dH,ha]
theorem CK {d : CD} {row : List CD} (ha : ti.agg = false) : dH ti (d :: row) F = F (toAV d):=by simp [dH,ha]
theorem Am {c : Nat} {cells : List AV} (ha : ti.agg = true) : gH ti cells c F = (c + ti.n<=cells.length/\F (.agg ((cells.drop c).take ti.n))):=by simp [gH,ha]
theorem An {c : Nat} {cells : List AV} (ha : ti.agg = false) : gH ti cells c F = dG (.tup cells) c F:=by
 simp only [gH,ha,dG];rfl
def wV (o : AObj) (F : Nat->List AV->Prop) : Prop:=
 match o with
 | .vars b _ cells=>F b cells
 | _=>False
def wVT (o : AObj) (F : Nat->TypeId->List AV->Prop) : Prop:=
 match o with
 | .vars b t cells=>F b t cells
 | _=>False
def wR (o : AObj) (F : Hd->Nat->List (List CD)->Bool->Prop) : Prop:=
 match o with
 | .rows H sz rows own=>F H sz rows own
 | _=>False
def wRL (o : AObj) (F : Hd->Nat->List (List CD)->Bool->Prop) (G : Hd->Nat->List (List CD)->Prop) : Prop:=
 match o with
 | .rows H sz rows own=>F H sz rows own
 | .lent H sz rows=>G H sz rows
 | _=>False
def wRP (o : AObj) (F : Hd->Nat->List (List CD)->Bool->Prop) (G : Hd->Nat->List (List CD)->Nat->Prop) : Prop:=
 match o with
 | .rows H sz rows own=>F H sz rows own
 | .part H sz rows lo=>G H sz rows lo
 | _=>False
@[congr] theorem Q6 {o o' : AObj} {F : Hd->Nat->List (List CD)->Bool->Prop} {G : Hd->Nat->List (List CD)->Prop} (h : o = o') : wRL o F G = wRL o' F G:=by rw [h]
@[congr] theorem Q5 {o o' : AObj} {F : Hd->Nat->List (List CD)->Bool->Prop} {G : Hd->Nat->List (List CD)->Nat->Prop} (h : o = o') : wRP o F G = wRP o' F G:=by rw [h]
theorem NQ {H : Hd} {sz : Nat} {rows : List (List CD)} {own : Bool} {F : Hd->Nat->List (List CD)->Bool->Prop} {G : Hd->Nat->List (List CD)->Prop} : wRL (.rows H sz rows own) F G = F H sz rows own:=(rfl)
theorem NR {H : Hd} {sz : Nat} {rows : List (List CD)} {F : Hd->Nat->List (List CD)->Bool->Prop} {G : Hd->Nat->List (List CD)->Prop} : wRL (.lent H sz rows) F G = G H sz rows:=(rfl)
theorem NO {H : Hd} {sz : Nat} {rows : List (List CD)} {own : Bool} {F : Hd->Nat->List (List CD)->Bool->Prop} {G : Hd->Nat->List (List CD)->Nat->Prop} : wRP (.rows H sz rows own) F G = F H sz rows own:=(rfl)
theorem NP {H : Hd} {sz lo : Nat} {rows : List (List CD)} {F : Hd->Nat->List (List CD)->Bool->Prop} {G : Hd->Nat->List (List CD)->Nat->Prop} : wRP (.part H sz rows lo) F G = G H sz rows lo:=(rfl)
theorem Gf {H : Hd} {sz n : Nat} {rows : List (List CD)} : wK true H sz rows n = .part H sz rows n:=(rfl)
theorem Gg {H : Hd} {sz n : Nat} {rows : List (List CD)} : wK false H sz rows n = .dead:=(rfl)
theorem CM {ds : List CD} {h : AH} : lendL [] ds h = h:=(rfl)
theorem Ap {a : AV} {l : List AV} {d : CD} {ds : List CD} {h : AH} : lendL (a :: l) (d :: ds) h = lendL l ds (qR a d h):=(rfl)
theorem Ix {u : Value} {d : CD} {h : AH} : qR (.v u) d h = h:=(rfl)
theorem CO {d : CD} {h : AH} : qR .nil d h = h:=(rfl)
theorem FK {r : List (List CD)} {d : CD} {h : AH} : qR (.ro r) d h = h:=(rfl)
theorem FJ {k sz len : Nat} {H : Hd} {rows : List (List CD)} {h : AH} : qR (.sl k H sz 0 len) (.s rows) h = (k,.lent H sz rows) :: h:=(rfl)
theorem CN {k sz len n : Nat} {H : Hd} {d : CD} {h : AH} : qR (.sl k H sz (n + 1) len) d h = h:=(rfl)
@[congr] theorem Sr {o o' : AObj} {F : Nat->List AV->Prop} (h : o = o') : wV o F = wV o' F:=by rw [h]
@[congr] theorem Q3 {o o' : AObj} {F : Nat->TypeId->List AV->Prop} (h : o = o') : wVT o F = wVT o' F:=by rw [h]
@[congr] theorem St {o o' : AObj} {F : Hd->Nat->List (List CD)->Bool->Prop} (h : o = o') : wR o F = wR o' F:=by rw [h]
theorem Q2 {b : Nat} {t : TypeId} {c : List AV} {F : Nat->List AV->Prop} : wV (.vars b t c) F = F b c:=(rfl)
theorem NN {b : Nat} {t : TypeId} {c : List AV} {F : Nat->TypeId->List AV->Prop} : wVT (.vars b t c) F = F b t c:=(rfl)
theorem Q4 {H : Hd} {sz : Nat} {rows : List (List CD)} {own : Bool} {F : Hd->Nat->List (List CD)->Bool->Prop} : wR (.rows H sz rows own) F = F H sz rows own:=(rfl)
theorem D_p {k b c : Nat} : loadAt ti h (.p k b c) F = wV (h.get k) λb' cells=>b = b'/\gH ti cells c F:=by
 simp only [loadAt,wV]
 cases h.get k<;>rfl
theorem D_e {k sz r c : Nat} {H : Hd} : loadAt ti h (.e k H sz r c) F = wRL (h.get k) (λH' sz' rows _=>H = H'/\sz = sz'/\r < rows.length/\∀ row,rows[r]? = some row->dH ti (row.drop c) F) (λH' sz' rows=>H = H'/\sz = sz'/\r < rows.length/\∀ row,rows[r]? = some row->dH ti (row.drop c) F):=by
 simp only [loadAt,wRL]
 cases h.get k<;>rfl
def wF (o : Option (Nat × Nat)) (F : Nat->Nat->Prop) : Prop:=
 match o with
 | some (a,b)=>F a b
 | none=>False
@[congr] theorem Sv {o o' : Option (Nat × Nat)} {F : Nat->Nat->Prop} (h : o = o') : wF o F = wF o' F:=by rw [h]
theorem HG {a b : Nat} {F : Nat->Nat->Prop} : wF (some (a,b)) F = F a b:=(rfl)
@[congr] theorem NE {f : Nat} (hx : x = x') : lC ti f x F = lC ti f x' F:=by rw [hx]
def wO (o : Option AV) (F : AV->Prop) : Prop:=
 match o with
 | some v=>F v
 | none=>False
@[congr] theorem Su {o o' : Option AV} (h : o = o') : wO o F = wO o' F:=by rw [h]
theorem HF {v : AV} : wO (some v) F = F v:=(rfl)
def wFV (o : Option (Nat × Nat)) (b : Option Bool) (l : List AV) (F : AV->Prop) : Prop:=
 match o,b with
 | some (off,n),some true=>off + n<=l.length/\F (.agg ((l.drop off).take n))
 | some (off,_),some false=>wO l[off]? F
 | _,_=>False
@[congr] theorem Q8 {o o' : Option (Nat × Nat)} {b b' : Option Bool} {l l' : List AV} (h : o = o') (hb : b = b') (hl : l = l') : wFV o b l F = wFV o' b' l' F:=by rw [h,hb,hl]
theorem NS {off n : Nat} {l : List AV} : wFV (some (off,n)) (some true) l F = (off + n<=l.length/\F (.agg ((l.drop off).take n))):=(rfl)
theorem NT {off n : Nat} {l : List AV} : wFV (some (off,n)) (some false) l F = wO l[off]? F:=(rfl)
theorem Nq {f : Nat} {l : List AV} : lC ti f (.agg l) F = wFV (ti.fields[f]?) (ti.fagg[f]?) l F:=by
 simp only [lC,wFV]
 cases h1 : ti.fields[f]? with
 | none=>rfl
 | some q =>
   cases h2 : ti.fagg[f]? with
   | none=>rfl
   | some b =>
     obtain ⟨off,n⟩:=q
     cases b with
     | false=>simp only [Bool.false_eq_true,if_false,wO];cases l[off]?<;>rfl
     | true=>simp only [if_true]
@[congr] theorem Mx {f : Nat} (hx : x = x') : fieldAt ti f x F = fieldAt ti f x' F:=by rw [hx]
theorem F_p {f k b c : Nat} : fieldAt ti f (.p k b c) F = wF (ti.fields[f]?) λoff _=>F (.p k b (c + off)):=by
 simp only [fieldAt,wF];cases ti.fields[f]?<;>rfl
theorem F_e {f k sz r c : Nat} {H : Hd} : fieldAt ti f (.e k H sz r c) F = wF (ti.fields[f]?) λoff _=>F (.e k H sz r (c + off)):=by
 simp only [fieldAt,wF];cases ti.fields[f]?<;>rfl
theorem Si {f : Nat} {row : List CD} : fieldAt ti f (.rp row) F = wF (ti.fields[f]?) λoff _=>off<=row.length/\F (.rp (row.drop off)):=by
 simp only [fieldAt,wF];cases ti.fields[f]?<;>rfl
theorem KC {u : Value} : toAV (.v u) = .v u:=(rfl)
theorem KD {r : List (List CD)} : toAV (.s r) = .ro r:=(rfl)
theorem KE {k sz len : Nat} {H : Hd} : toAV (.h k H sz len) = .ml k H sz len:=(rfl)
theorem KB {u : Value} : zI (.v u) = .v u:=(rfl)
theorem Eb : zI .nil = .s []:=(rfl)
@[congr] theorem PM {s d : Nat} (hx : x = x') : rk E s d x F = rk E s d x' F:=by rw [hx]
@[congr] theorem NI {s d : Nat} {h : AH} (hx : x = x') : iO E h s d x F = iO E h s d x' F:=by rw [hx]
def GT (o : Option IntKind) (F : IntKind->Prop) : Prop:=
 match o with
 | some k=>F k
 | none=>False
@[congr] theorem QR {o o' : Option IntKind} {F : IntKind->Prop} (h : o = o') : GT o F = GT o' F:=by rw [h]
theorem DI {k : IntKind} {F : IntKind->Prop} : GT (some k) F = F k:=(rfl)
theorem Qs {s d : Nat} {k : IntKind} {n : Int} : rk ⟨P,T,w0,base⟩ s d (.v (.int k n)) F = ((wT (T s) λ_=>True)/\wT (T d) λti=>GT ti.kind λk'=>F (.v (.int k' (k'.wrap n)))):=by
 simp only [rk,yJ]
 congr 1
 unfold wT GT
 cases T d with
 | none=>rfl
 | some ti=>simp only;cases ti.kind<;>rfl
theorem Sk {s d : Nat} {h : AH} {u : Value} : iO ⟨P,T,w0,base⟩ h s d (.v u) F = rk ⟨P,T,w0,base⟩ s d (.v u) F:=(rfl)
theorem Qv {s d : Nat} {h : AH} {rows : List (List CD)} : iO ⟨P,T,w0,base⟩ h s d (.ro rows) F = xt ⟨P,T,w0,base⟩ s d rows F:=(rfl)
theorem Qu {s d k sz off len : Nat} {H : Hd} {h : AH} : iO ⟨P,T,w0,base⟩ h s d (.sl k H sz off len) F = wR (h.get k) λH' sz' rows _=>H = H'/\sz = sz'/\off + len<=rows.length/\xt ⟨P,T,w0,base⟩ s d (cut rows off len) F:=by
 simp only [iO,wR];cases h.get k<;>rfl
theorem Qt {s d : Nat} {rows : List (List CD)} : xt ⟨P,T,w0,base⟩ s d rows F = (Env.isStr ⟨P,T,w0,base⟩ d/\wT (T s) λti=>wE ti.sl λe=>wT (T e) λte=>te.kind = some .u8/\∃ l : List UInt8,rows = l.map ff/\F (.v (.string ⟨l.toArray⟩))):=by
 simp only [xt,zd]
end loads
end
open Go.RowKit
section
variable {P : Program} {T : Nat->Option TI} {w0 : World} {base : Bs} {E : Env} {Q : Exit->ASt->Prop} {K : ASt->Prop} {st : ASt}
theorem Dz {l : List AV} : AV.cells (.agg l) = l:=(rfl)
theorem I2 {u : Value} : AV.cells (.v u) = [.v u]:=(rfl)
theorem Dx : AV.cells .nil = [.nil]:=(rfl)
theorem GN {r : List (List CD)} : AV.cells (.ro r) = [.ro r]:=(rfl)
theorem GM {k sz off len : Nat} {H : Hd} : AV.cells (.sl k H sz off len) = [.sl k H sz off len]:=(rfl)
theorem I3 {k b c : Nat} : AV.cells (.p k b c) = [.p k b c]:=(rfl)
theorem Dy {f : Nat} {l : List AV} : AV.cells (.clo f l) = [.clo f l]:=(rfl)
theorem GP {u : Value} {len : Nat} : AV.cells (.cv u len) = [.cv u len]:=(rfl)
theorem GO {k sz len : Nat} {H : Hd} : AV.cells (.ml k H sz len) = [.ml k H sz len]:=(rfl)
theorem LS {u : Value} {len : Nat} : AV.one (.cv u len) = true:=(rfl)
theorem LR {k sz len : Nat} {H : Hd} : AV.one (.ml k H sz len) = true:=(rfl)
theorem OY {u : Value} : AV.one (.v u) = true:=(rfl)
theorem Ii : AV.one .nil = true:=(rfl)
theorem LQ {r : List (List CD)} : AV.one (.ro r) = true:=(rfl)
theorem LP {k sz off len : Nat} {H : Hd} : AV.one (.sl k H sz off len) = true:=(rfl)
theorem OZ {k b c : Nat} : AV.one (.p k b c) = true:=(rfl)
theorem Ij {f : Nat} {l : List AV} : AV.one (.clo f l) = true:=(rfl)
theorem Ik {l : List CD} : (l.map toAV).all AV.one = true:=by
 induction l with
 | nil=>rfl
 | cons d l ih=>cases d<;>simpa [toAV,AV.one] using ih
theorem Fs {α : Type} {l : List α} {i : Nat} : eD l i [] = l:=by cases l<;>rfl
theorem LG {α : Type} {x v : α} {l vs : List α} : eD (x :: l) 0 (v :: vs) = v :: eD l 0 vs:=(rfl)
theorem LF {α : Type} {x v : α} {l vs : List α} {c : Nat} : eD (x :: l) (c + 1) (v :: vs) = x :: eD l c (v :: vs):=(rfl)
section fr
variable {h : AH} {x x' y y' : AV} {t : Nat} {F : CD->AH->Bool->Prop} {G : List CD->AH->Bool->Prop}
@[congr] theorem QY (hx : x = x') : mQ h x F = mQ h x' F:=by rw [hx]
theorem Z_v {u : Value} : mQ h (.v u) F = F (.v u) h true:=(rfl)
theorem PO : mQ h .nil F = F (.s []) h true:=(rfl)
theorem RZ {r : List (List CD)} : mQ h (.ro r) F = F (.s r) h false:=(rfl)
theorem MR {k sz off len : Nat} {H : Hd} : mQ h (.sl k H sz off len) F = wR (h.get k) λH' sz' rows own=>H = H'/\sz = sz'/\off + len<=rows.length/\F (.s (cut rows off len)) ((k,.dead) :: h) own:=by
 simp only [mQ,wR];cases h.get k<;>rfl
@[congr] theorem PK {l l' : List AV} (hx : l = l') : gV h l G = gV h l' G:=by rw [hx]
theorem MS : gV h [] G = G [] h true:=(rfl)
theorem Jd {a : AV} {l : List AV} : gV h (a :: l) G = mQ h a λd h' o=>gV h' l λds h'' o'=>G (d :: ds) h'' (o && o'):=(rfl)
theorem IZ {α : Type} {rows : List α} : cut rows 0 rows.length = rows:=by simp [cut]
theorem pr {α : Type} {rows : List α} {n : Nat} (h : n = rows.length) : cut rows 0 n = rows:=by simp [cut,h]
@[congr] theorem NF (hx : x = x') (hy : y = y') : kD E st t x y K = kD E st t x' y' K:=by rw [hx,hy]
theorem W_p {k b c : Nat} : kD ⟨P,T,w0,base⟩ st t (.p k b c) y K = wT (T t) λti=>y.cells.length = ti.n/\(y.cells.all AV.one) = true/\wVT (st.h.get k) λb' T' cells=>b = b'/\c + y.cells.length<=cells.length/\K { st with h:=(k,.vars b T' (eD cells c y.cells)) :: st.h }:=by
 simp only [kD,wT,wVT]
 cases T t with
 | none=>rfl
 | some ti=>simp only;cases st.h.get k<;>rfl
theorem W_e {k sz r c : Nat} {H : Hd} : kD ⟨P,T,w0,base⟩ st t (.e k H sz r c) y K = wT (T t) λti => y.cells.length = ti.n /\ (y.cells.all AV.one) = true /\ gV st.h y.cells λds h o => wR (h.get k) λH' sz' rows own => H = H' /\ sz = sz' /\ r < rows.length /\ c + ds.length <= sz /\
 K { st with h:=lendL y.cells ds ((k,.rows H sz (if c = 0/\ds.length = sz then rows.set r ds else rows.modify r λrow=>eD row c ds) (own && o)) :: h) }:=by
 simp only [kD,wT]
 cases T t with
 | none=>rfl
 | some ti =>
   simp only;rfl
@[congr] theorem NJ {l l' : List (Nat × AV)} {F : AV->Prop} (hl : l = l') : kE E t l F = kE E t l' F:=by rw [hl]
theorem DV {l : List (Nat × AV)} {F : AV->Prop} : kE ⟨P,T,w0,base⟩ t l F = wT (T t) λti=>ti.agg = true/\jR ti.fields ti.zero l λl=>F (.agg l):=by
 simp only [kE,wT];cases T t<;>rfl
@[congr] theorem Pz {fs : List (Nat × Nat)} {cells cells' : List AV} {l l' : List (Nat × AV)} {F : List AV->Prop} (hc : cells = cells') (hl : l = l') : jR fs cells l F = jR fs cells' l' F:=by rw [hc,hl]
theorem Dk {fs : List (Nat × Nat)} {cells : List AV} {F : List AV->Prop} : jR fs cells [] F = F cells:=(rfl)
theorem AP {fs : List (Nat × Nat)} {cells : List AV} {i : Nat} {v : AV} {l : List (Nat × AV)} {F : List AV->Prop} : jR fs cells ((i,v) :: l) F = wF (fs[i]?) λoff n=>v.cells.length = n/\off + n<=cells.length/\(v.cells.all AV.one) = true/\jR fs (eD cells off v.cells) l F:=by
 simp only [jR,wF];cases fs[i]?<;>rfl
variable {R : List (List CD)->AH->Bool->Prop} {te : TI}
@[congr] theorem PH (hx : x = x') : jY te h x R = jY te h x' R:=by rw [hx]
theorem Qo : jY te h .nil R = R [] h true:=(rfl)
theorem R9 {rows : List (List CD)} : jY te h (.ro rows) R = ((∀ row∈rows,row.length = te.n)/\(te.pln = true->∀ row∈rows,∀ d∈row,isV d = true)/\R rows h te.pln):=(rfl)
theorem Qn {k sz off len : Nat} {H : Hd} (hp : te.pln = true) : jY te h (.sl k H sz off len) R = wR (h.get k) λH' sz' rows _=>H = H'/\sz = sz'/\sz = te.n/\off + len<=rows.length/\(∀ row∈rows,∀ d∈row,isV d = true)/\R (cut rows off len) h true:=by
 simp only [jY,wR,hp];cases h.get k<;>simp
theorem R8 {k sz off len : Nat} {H : Hd} (hp : te.pln = false) : jY te h (.sl k H sz off len) R = wRP (h.get k) (λH' sz' rows own=>H = H'/\sz = sz'/\sz = te.n/\off + len<=rows.length/\R (cut rows off len) ((k,wK own H sz rows (off + len)) :: h) own) (λH' sz' rows lo=>H = H'/\sz = sz'/\sz = te.n/\off + len<=rows.length/\lo<=off/\R (cut rows off len) ((k,.part H sz rows (off + len)) :: h) true):=by
 simp only [jY,wRP,hp];cases h.get k<;>simp
variable {dst : Option Nat}
@[congr] theorem MQ (hx : x = x') (hy : y = y') : er E st dst t x y K = er E st dst t x' y' K:=by rw [hx,hy]
theorem QM : er E st dst t .nil x K = cS E t λ_ te => 0 < te.bytes /\ 0 < te.n /\ jY te st.h x λnews h o => news.length * te.bytes <= 140737488355328 /\
        ∀ H,aW { st with h:=(st.key dst,.rows H te.n news o) :: h } dst (.sl (st.key dst) H te.n 0 news.length) K:=(rfl)
theorem Sp {k sz off len : Nat} {H0 : Hd} : er E st dst t (.sl k H0 sz off len) x K = cS E t λ_ te => 0 < te.bytes /\ 0 < te.n /\ jY te st.h x λnews h o => wR (h.get k) λH' sz' rows own => H0 = H' /\ sz = sz' /\ sz = te.n /\ off = 0 /\ len = rows.length /\ (len + news.length) * te.bytes <= 140737488355328 /\
 ∀ H,aW { st with h:=(k,.rows H te.n (rows ++ news) (own && o)) :: h } dst (.sl k H te.n 0 (len + news.length)) K:=by
 unfold er;rfl
theorem Nz : er E st dst t (.v (.slice none 0 0)) x K = er E st dst t .nil x K:=(rfl)
theorem Hn {k len : Nat} {H0 : Hd} (hk : 50000<=k) : er E st dst t (.ml k H0 1 len) x K = er E st dst t (.sl k H0 1 0 len) x K:=by simp only [er,AV.norm,if_pos (MlS.key hk)]
theorem Sq {k sz len : Nat} {H0 : Hd} (h0 : 0 < len) : er E st dst t (.ml k H0 sz len) x K = er E st dst t (.sl k H0 sz 0 len) x K:=by simp only [er,AV.norm,if_pos (MlS.pos h0)]
@[congr] theorem PG {l l' : List (Nat × AV)} {i : Nat} (hl : l = l') : n7 te h l i R = n7 te h l' i R:=by rw [hl]
theorem Qg {i : Nat} : n7 te h [] i R = R [] h true:=(rfl)
theorem Nc {i j : Nat} {v : AV} {l : List (Nat × AV)} : n7 te h ((j,v) :: l) i R = (j = i/\v.cells.length = te.n/\(v.cells.all AV.one) = true/\gV h v.cells λds h' o=>n7 te h' l (i + 1) λrs h'' o'=>R (ds :: rs) h'' (o && o')):=(rfl)
@[congr] theorem G5 {len : Nat} {l l' : List (Nat × AV)} (hl : l = l') : gv E st dst t len l K = gv E st dst t len l' K:=by rw [hl]
theorem tX {len : Nat} {l : List (Nat × AV)} : gv E st dst t len l K = cS E t λ_ te=>0 < te.n/\len = l.length/\len * te.n<=16777216/\n7 te st.h l 0 λrs h o=>
 ∀ b,aW { st with h:=(st.key dst,.rows (some (b,0,len)) te.n rs o) :: h } dst (.sl (st.key dst) (some (b,0,len)) te.n 0 len) K:=(rfl)
@[congr] theorem PI (hx : x = x') (hy : y = y') : vJ E st dst t x y K = vJ E st dst t x' y' K:=by rw [hx,hy]
theorem GZ {n m : Int} : vJ E st dst t (.v (.int .i64 n)) (.v (.int .i64 m)) K = cS E t λ_ te => 0 < te.n /\ 0 < te.bytes /\ n = m /\ 0 <= n /\ n * te.bytes <= 140737488355328 /\
        ∀ b,aW { st with h:=(st.key dst,.rows (some (b,0,n.toNat)) te.n (List.replicate n.toNat (te.zero.map zI)) true) :: st.h } dst (.sl (st.key dst) (some (b,0,n.toNat)) te.n 0 n.toNat) K:=(rfl)
theorem DY : qy ⟨P,T,w0,base⟩ st dst t K = wT (T t) λti=>∀ b,aW { st with h:=(st.key dst,.vars b t ti.zero) :: st.h } dst (.p (st.key dst) b 0) K:=by
 simp only [qy,wT];cases T t<;>rfl
@[congr] theorem Q0 (hx : x = x') : zA E st dst t x K = zA E st dst t x' K:=by rw [hx]
theorem Jb : zA ⟨P,T,w0,base⟩ st dst t x K = wT (T t) λ_=>(x.cells.all AV.one) = true/\∀ b,aW { st with h:=(st.key dst,.vars b t x.cells) :: st.h } dst (.p (st.key dst) b 0) K:=by
 simp only [zA,wT];cases T t<;>rfl
@[congr] theorem NG {lo lo' hi hi' : Option AV} {F : AV->Prop} (hx : x = x') (hl : lo = lo') (hh : hi = hi') : gP E t x lo hi F = gP E t x' lo' hi' F:=by rw [hx,hl,hh]
theorem Na {rows : List (List CD)} {lo : Option AV} {hv mx : AV} {F : AV->Prop} : pz E t (.ro rows) lo (some hv) mx F = cS E t λ_ te=>(∀ row∈rows,row.length = te.n)/\dK (some hv) 0 λh=>dK (some mx) 0 λm=>h<=m/\m<=rows.length/\dK lo 0 λl=>l<=h/\F (.ro (cut rows l (h - l))):=(rfl)
theorem Qd {rows : List (List CD)} {lo hi : Option AV} {F : AV->Prop} : gP E t (.ro rows) lo hi F = cS E t λ_ te=>(∀ row∈rows,row.length = te.n)/\dK hi rows.length λh=>h<=rows.length/\dK lo 0 λl=>l<=h/\F (.ro (cut rows l (h - l))):=(rfl)
theorem Qb {k sz off len : Nat} {H : Hd} {lo hi : Option AV} {F : AV->Prop} : gP E t (.sl k H sz off len) lo hi F = cS E t λ_ te=>sz = te.n/\dK hi len λh=>h<=len/\dK lo 0 λl=>l<=h/\F (.sl k H sz (off + l) (h - l)):=(rfl)
theorem Qe {k sz len : Nat} {H : Hd} {lo hi : Option AV} {F : AV->Prop} (h0 : 0 < len) : gP E t (.ml k H sz len) lo hi F = gP E t (.sl k H sz 0 len) lo hi F:=by simp only [gP,AV.norm,if_pos (MlS.pos h0)]
theorem M9 {s : ByteArray} {lo hi : Option AV} {F : AV->Prop} : gP E t (.v (.string s)) lo hi F = (E.isStr t/\dK hi s.size λh=>h<=s.size/\dK lo 0 λl=>l<=h/\F (.v (.string (s.extract l h)))):=(rfl)
theorem A1 {z : Nat} {F : Nat->Prop} : dK none z F = F z:=(rfl)
theorem DB {z : Nat} {F : Nat->Prop} {k : IntKind} {n : Int} : dK (some (.v (.int k n))) z F = (0<=n/\F n.toNat):=(rfl)
end fr
section calls
variable {h : AH} {x : AV} {R : Value->CD->Prop}
theorem RH {u : Value} {d : CD} : aIn R h (.v u) d = (d = .v u):=(rfl)
theorem Mi {d : CD} : aIn R h .nil d = (d = .s []):=(rfl)
theorem Pf {r : List (List CD)} {d : CD} : aIn R h (.ro r) d = (d = .s r):=(rfl)
theorem Pe {k sz off len : Nat} {H : Hd} {d : CD} : aIn R h (.sl k H sz off len) d = wRL (h.get k) (λH' sz' rows _=>H = H'/\sz = sz'/\off + len<=rows.length/\d = .s (cut rows off len)) (λH' sz' rows=>H = H'/\sz = sz'/\off = 0/\len = rows.length/\d = .s rows):=by
 simp only [aIn,wRL];cases h.get k<;>rfl
theorem Pi {u : Value} {len : Nat} {d : CD} : aIn R h (.cv u len) d = R u d:=(rfl)
theorem Pg {k sz len : Nat} {H : Hd} {d : CD} : aIn R h (.ml k H sz len) d = wR (h.get k) λH' sz' rows _=>H = H'/\sz = sz'/\len = rows.length/\d = .s rows:=by
 simp only [aIn,wR];cases h.get k<;>rfl
theorem IJ : tU R h [] [] = True:=(rfl)
theorem F8 {a : AV} {l : List AV} {d : CD} {ds : List CD} : tU R h (a :: l) (d :: ds) = (aIn R h a d/\tU R h l ds):=(rfl)
theorem Pj {a : AV} {d : CD} : xy R h a (.c d) = aIn R h a d:=(rfl)
theorem II {l : List AV} {ds : List CD} : xy R h (.agg l) (.agg ds) = tU R h l ds:=(rfl)
theorem F7 : kU R h [] [] = True:=(rfl)
theorem Db {a : AV} {l : List AV} {d : VD} {ds : List VD} : kU R h (a :: l) (d :: ds) = (xy R h a d/\kU R h l ds):=(rfl)
variable {key : Nat}
theorem Mf {u : Value} {sz : Nat} {F : AV->AH->Prop} : qV h key (.v u,sz) F = F (.v u) h:=(rfl)
theorem Mg {rows : List (List CD)} {sz : Nat} {F : AV->AH->Prop} : qV h key (.s rows,sz) F = ∀ H,F (.sl key H sz 0 rows.length) ((key,.rows H sz rows true) :: h):=(rfl)
theorem CZ {F : List AV->AH->Nat->Prop} : qY h key [] F = F [] h key:=(rfl)
theorem Av {t : CD × Nat} {ts : List (CD × Nat)} {F : List AV->AH->Nat->Prop} : qY h key (t :: ts) F = qV h key t λv h'=>qY h' (key + 1) ts λl h'' key'=>F (v :: l) h'' key':=(rfl)
theorem IB {d : CD} {sz : Nat} {F : AV->AH->Nat->Prop} : oZ h key (.c d sz) F = qV h key (d,sz) λv h'=>F v h' (key + 1):=(rfl)
theorem CW {ts : List (CD × Nat)} {F : AV->AH->Nat->Prop} : oZ h key (.agg ts) F = qY h key ts λl h' key'=>F (.agg l) h' key':=(rfl)
theorem Au {F : List AV->AH->Prop} : mq h key [] F = F [] h:=(rfl)
theorem yD {r : RV} {rs : List RV} {F : List AV->AH->Prop} : mq h key (r :: rs) F = oZ h key r λv h' key'=>mq h' key' rs λl h''=>F (v :: l) h'':=(rfl)
theorem CY {r : RV} {F : AV->AH->Prop} : sQ h key (.one r) F = oZ h key r λv h' _=>F v h':=(rfl)
theorem CX {rs : List RV} {F : AV->AH->Prop} : sQ h key (.tup rs) F = mq h key rs λl h'=>F (.tup l) h':=(rfl)
variable {F : AH->Prop} {t : CD × Nat}
@[congr] theorem QV {x' : AV} (hx : x = x') : rB h x t F = rB h x' t F:=by rw [hx]
theorem OX {u : Value} : rB h (.v u) t F = (t.1 = .v u/\F h):=(rfl)
theorem Id : rB h .nil t F = (t.1 = .s []/\0 < t.2/\F h):=(rfl)
theorem LL {k sz off len : Nat} {H : Hd} : rB h (.sl k H sz off len) t F = wR (h.get k) λH' sz' rows own=>H = H'/\sz = sz'/\t.2 = sz/\0 < sz/\own = true/\off + len<=rows.length/\(∀ row∈rows,row.length = sz)/\t.1 = .s (cut rows off len)/\F ((k,.dead) :: h):=by
 simp only [rB,wR];cases h.get k<;>rfl
theorem Fx : ri h [] [] F = F h:=(rfl)
theorem CB {a : AV} {l : List AV} {ts : List (CD × Nat)} : ri h (a :: l) (t :: ts) F = rB h a t λh'=>ri h' l ts F:=(rfl)
theorem LM {d : CD} {sz : Nat} : n8 h x (.c d sz) F = rB h x (d,sz) F:=(rfl)
theorem Fu {l : List AV} {ts : List (CD × Nat)} : n8 h (.agg l) (.agg ts) F = ri h l ts F:=(rfl)
theorem Cx : lL h [] [] F = F h:=(rfl)
theorem z8 {a : AV} {l : List AV} {r : RV} {rs : List RV} : lL h (a :: l) (r :: rs) F = n8 h a r λh'=>lL h' l rs F:=(rfl)
theorem HY {L : List AV->Prop} : dE E st [] L = L []:=(rfl)
theorem HW {i : Nat} {rs : List ResultVar} {L : List AV->Prop} : dE E st (.tmp i :: rs) L = dE E st rs λl=>L (aD st.t i :: l):=(rfl)
theorem Fk {i : Nat} {t : TypeId} {rs : List ResultVar} {L : List AV->Prop} : dE E st (.cell i t :: rs) L = l6 E st.h t (aD st.t i) λv=>dE E st rs λl=>L (v :: l):=(rfl)
theorem HV {r : RV} : ug h (.one r) [x] = n8 h x r λ_=>True:=(rfl)
theorem HU {rs : List RV} {l : List AV} : ug h (.tup rs) l = (l.length≠1/\lL h l rs λ_=>True):=(rfl)
variable {rs : List ResultVar} {rr : RR}
theorem MI : rb E rs rr .normal st = dE E st rs (ug st.h rr):=(rfl)
theorem MH : rb E rs rr .ret st = dE E st rs (ug st.h rr):=(rfl)
theorem L0 {β : Type} {Inv : β->Prop} {I : β->ASt} {μ : β->Nat} {x : β} : BS Inv I μ x Q .normal st = ∃ x',Inv x'/\μ x' < μ x/\tY st (I x'):=(rfl)
theorem LZ {β : Type} {Inv : β->Prop} {I : β->ASt} {μ : β->Nat} {x : β} : BS Inv I μ x Q .ret st = Q .ret st:=(rfl)
theorem L1 {β : Type} {Inv : β->Prop} {I : β->ASt} {μ : β->Nat} {x : β} {i : Nat} : BS Inv I μ x Q (.exit i) st = Q (.exit i) st:=(rfl)
end calls
end
section weak
def wkT (t : List (Nat × AV)) : List (Nat × AV)->Prop
 | []=>True
 | (i,v) :: l=>gw (aD t i) v/\wkT t l
def wkH (h : AH) : AH->Prop
 | []=>True
 | (i,o) :: l=>eC (h.get i) o/\wkH h l
theorem zF {t : List (Nat × AV)} : ∀ l : List (Nat × AV),(∀ p∈l,gw (aD t p.1) p.2) = wkT t l
 | []=>by simp [wkT]
 | (i,v) :: l=>by simp only [List.mem_cons,forall_eq_or_imp,wkT,zF l]
theorem rO {h : AH} : ∀ l : AH,(∀ p∈l,eC (h.get p.1) p.2) = wkH h l
 | []=>by simp [wkH]
 | (i,v) :: l=>by simp only [List.mem_cons,forall_eq_or_imp,wkH,rO l]
theorem Hz {n kb n' kb' : Nat} {t t' : List (Nat × AV)} {h h' : AH} : tY ⟨n,kb,t,h⟩ ⟨n',kb',t',h'⟩ = (n = n'/\kb = kb'/\wkT t t'/\wkH h h'):=by
 unfold tY;simp only [zF,rO]
theorem Hx {t : List (Nat × AV)} : wkT t [] = True:=(rfl)
theorem D5 {t l : List (Nat × AV)} {i : Nat} {v : AV} : wkT t ((i,v) :: l) = (gw (aD t i) v/\wkT t l):=(rfl)
theorem Hy {h : AH} : wkH h [] = True:=(rfl)
theorem D6 {h l : AH} {i : Nat} {o : AObj} : wkH h ((i,o) :: l) = (eC (h.get i) o/\wkH h l):=(rfl)
theorem Mb {a : AV} : gw a .any = True:=(rfl)
theorem RD {a : AV} {u : Value} : gw a (.v u) = (a = .v u):=(rfl)
theorem L9 {a : AV} : gw a .nil = (a = .nil):=(rfl)
theorem O7 {a : AV} : gw a .un = (a = .un):=(rfl)
theorem RE {a : AV} {k b c : Nat} : gw a (.p k b c) = (a = .p k b c):=(rfl)
theorem Mc {a : AV} {l : List AV} : gw a (.agg l) = (a = .agg l):=(rfl)
theorem L5 {a : AV} {l : List AV} : gw a (.tup l) = (a = .tup l):=(rfl)
theorem Ma {a : AV} {f : Nat} {l : List AV} : gw a (.clo f l) = (a = .clo f l):=(rfl)
theorem Pb {a : AV} {u : Value} {len : Nat} : gw a (.cv u len) = (a = .cv u len):=(rfl)
theorem Pa {a : AV} {k sz len : Nat} {H : Hd} : gw a (.ml k H sz len) = (a = .ml k H sz len):=(rfl)
theorem RF {a : AV} {k sz r c : Nat} {H : Hd} : gw a (.e k H sz r c) = (a = .e k H sz r c):=(rfl)
theorem O8 {a : AV} {k sz off len : Nat} {H : Hd} : gw a (.sl k H sz off len) = (a = .sl k H sz off len\/(a = .nil/\H = none/\off = 0/\len = 0)):=(rfl)
theorem O9 {a : AV} {rows : List (List CD)} : gw a (.ro rows) = (a = .ro rows\/(a = .nil/\rows = [])):=(rfl)
theorem FF {o : AObj} : eC o .dead = True:=(rfl)
theorem FB {b b' : Nat} {t t' : TypeId} {c c' : List AV} : eC (.vars b' t' c') (.vars b t c) = (b' = b/\t' = t/\ALe c' c):=(rfl)
theorem FE {o : AObj} {H : Hd} {sz : Nat} {rows : List (List CD)} : eC o (.lent H sz rows) = (o = .lent H sz rows):=(rfl)
theorem FD {o : AObj} {H : Hd} {sz lo : Nat} {rows : List (List CD)} : eC o (.part H sz rows lo) = (o = .part H sz rows lo):=(rfl)
theorem FC {o : AObj} {H : Hd} {sz : Nat} {rows : List (List CD)} {own : Bool} : eC o (.rows H sz rows own) = (o = .rows H sz rows own\/(o = .dead/\H = none/\rows = [])):=(rfl)
theorem I8 : ALe [] [] = True:=(rfl)
theorem GW {a b : AV} {l l' : List AV} : ALe (a :: l) (b :: l') = (gw a b/\ALe l l'):=(rfl)
end weak
theorem xF {P : Program} {T : Nat → Option TI} (hT : ∀ t ti, T t = some ti → TIok P t ti) {f : Nat} {fn : Func} {c : Code} (hf : P.funcs[f]? = some fn) (hname : (fn.name == "runtime.NumGoroutine") = false) (hb : fn.body = some c)
 {n : Nat} {rs : List ResultVar} (hn : fn.ntmps = n) (hrs : fn.results = ⟨rs⟩) {args : List VD} {res : RR} (ha : args.length<=n)
 (h : ∀ w0 base,d5 ⟨P,T,w0,⟨base,base,false,λ_=>True⟩⟩ c (rb ⟨P,T,w0,⟨base,base,false,λ_=>True⟩⟩ rs res) { n:=n,kb:=0,t:=jG 0 args,h:=[] }) : aj P f args res:=by
 subst hn;exact aj.intro hT hf hname hb ha (by rw [hrs];exact h)
attribute [simp] RO RP C6 F0 yJ KC KD KE KB Eb Dz I2 Dx GN GM I3 Dy OY GP GO LS LR Pb Pa RF Ii LQ LP OZ Ij Ik Fs LG LF IZ Mb RD L9 O7 RE Mc L5 Ma O8 O9 FF FB FC I8 GW jG VD.toAV isV
attribute [simp ↓] Sl Sn Sm M4 Hg M7 P9 M8 Jq M5 M6 Qa Nf Nd Ng Nj Nh Nk Ni DH I7 DJ A4 Qm Nn Js IL IK Nm Qk R0 Qi P_v R5 R3 P_p P_e R4 Ql Qh Qj R7 R6 Qr Hj Bh QL QN NA Mz MD IX MA MC IW FT FU HD HI zd MZ Hc MY Jn M1 PY P8 PX M2 Jj G9 Na Jl Ha Jk P6 D0 Jo P7 Hb M0 Ji P4 He P0 P2 M3 I9 MN Jc DX DW JO Ay yK Bd Bc QK Qx QD QB QA QJ So Qw Qz Qy QE QF QG QH QI QC Nx Nw Nu Nr Nv G0 DR Bb Nq NS NT HF Sf Se Sg Sb Sa Sd Sc Qq Np Qp Sj CJ CK Am An Q2 NN Q4 D_p D_e HG F_p F_e Si DI Qs Sk Qv Qu Qt Z_v PO RZ MR MS Jd W_p W_e DV Dk AP Qo R9 Qn R8 QM Sp Sq Nz Qg Nc tX GZ DY Jb Qd Qb Qe M9 A1 DB RH Mi Pf Pe Pi Pg IJ F8 Pj II F7 Db Mf Mg CZ Av IB CW Au yD CY CX OX Id LL Fx CB LM Fu Cx z8 HY HW Fk HV HU MI MH L0 LZ L1 Hz Hx D5 Hy D6
attribute [simp] FE FD
attribute [simp ↓] NQ NR NO NP Gf Gg CM Ap Ix CO FK FJ CN
open Go.RowKit
def vC (x : AV) (F : Nat->List AV->Prop) : Prop:=
 match x with
 | .clo f caps=>F f caps
 | .v (.func (.func f) _ _)=>F f []
 | _=>False
@[congr] theorem PC {x x' : AV} {F : Nat->List AV->Prop} (h : x = x') : vC x F = vC x' F:=by rw [h]
theorem I4 {f : Nat} {a b : Array Value} {F : Nat->List AV->Prop} : vC (.v (.func (.func f) a b)) F = F f []:=(rfl)
theorem I5 {f : Nat} {l : List AV} {F : Nat->List AV->Prop} : vC (.clo f l) F = F f l:=(rfl)
theorem Jm {E : Env} {st : ASt} {K : ASt->Prop} {d : Option Nat} {t : TypeId} {p : String} {af : Array Edge} {g : Option (Nat × Bool)} {i : Nat} {l : List Operand} {ts : List TypeId} :
 aOp E ⟨d,.call ⟨.value (.tmp i),⟨l⟩,⟨ts⟩⟩,t,p,af,g⟩ st K = vC (aD st.t i) λf caps=>aa E f (l.map st.ev ++ caps) st d K:=by
 simp only [aOp,G4,vC]
 cases aD st.t i with
 | v u =>
   cases u with
   | func f a b=>cases f<;>simp
   | _=>rfl
 | _=>rfl
def sv (v : AV) (F : AV->Prop) : Prop:=F v
@[congr] theorem Sx {v v' : AV} {F : AV->Prop} (h : v = v') : sv v F = sv v' F:=by rw [h]
section
variable {E : Env} {st : ASt} {F : AV->Prop} {u : Value} {rows : List (List CD)} {l : List AV} {k sz off len f b c r : Nat} {H : Hd} {row : List CD}
theorem Rk : sv (.v u) F = F (.v u):=(rfl)
theorem OK {len : Nat} : sv (.cv u len) F = F (.cv u len):=(rfl)
theorem OJ {len : Nat} : sv (.ml k H sz len) F = F (.ml k H sz len):=(rfl)
theorem OF : sv .un F = F .un:=(rfl)
theorem Lu : sv .nil F = F .nil:=(rfl)
theorem OI : sv (.ro rows) F = F (.ro rows):=(rfl)
theorem OG : sv (.sl k H sz off len) F = F (.sl k H sz off len):=(rfl)
theorem Rl : sv (.p k b c) F = F (.p k b c):=(rfl)
theorem Rm : sv (.e k H sz r c) F = F (.e k H sz r c):=(rfl)
theorem OH : sv (.rp row) F = F (.rp row):=(rfl)
theorem Lw : sv (.agg l) F = F (.agg l):=(rfl)
theorem Lt : sv (.tup l) F = F (.tup l):=(rfl)
theorem Lv : sv (.clo f l) F = F (.clo f l):=(rfl)
@[congr] theorem Qf {f : Nat} {l l' : List AV} {h : AH} (hl : l = l') : Ce E f l h F = Ce E f l' h F:=by rw [hl]
variable {x y : Operand} {T' U : TypeId}
theorem MU : fh E st (.move x) F = sv (st.ev x) F:=(rfl)
theorem G8 : fh E st (.assign x) F = sv (st.ev x) F:=(rfl)
theorem MT {c a b : Operand} : fh E st (.pick c a b) F = jI (st.ev c) λz=>Br z (ph (sv (st.ev a) F)) (ph (sv (st.ev b) F)):=(rfl)
theorem Jh {l : List (Nat × Operand)} : fh E st (.build T' ⟨l⟩) F = kE E T' (l.map λq=>(q.1,st.ev q.2)) λv=>sv v F:=(rfl)
theorem MV : fh E st (.load T' x) F = l6 E st.h T' (st.ev x) λv=>sv v F:=(rfl)
theorem PQ : fh E st (.nilCheck x) F = rC (st.ev x) λv=>sv v F:=(rfl)
theorem PW {op : BinOp} : fh E st (.binOp op T' x y U) F = kV E op T' (st.ev x) (st.ev y) λv=>sv v F:=(rfl)
theorem PP : fh E st (.unOp .not T' x) F = jI (st.ev x) λb=>sv (.v (.bool (!b))) F:=(rfl)
theorem MW {s : TypeId} : fh E st (.convert s T' x) F = iO E st.h s T' (st.ev x) λv=>sv v F:=(rfl)
theorem Je {lo hi : Option Operand} : fh E st (.slice T' x lo hi none) F = gP E T' (st.ev x) (lo.map st.ev) (hi.map st.ev) λv=>sv v F:=(rfl)
theorem Jg {f : Nat} : fh E st (.fieldAddr T' x f) F = lN E T' f (st.ev x) λv=>sv v F:=(rfl)
theorem G7 {f : Nat} : fh E st (.field T' x f) F = lM E T' f (st.ev x) λv=>sv v F:=(rfl)
theorem Jf : fh E st (.indexAddr T' x y) F = cS E T' λ_ te=>aCv E (st.ev x) λz=>indexAt te z (st.ev y) λv=>sv v F:=(rfl)
theorem PU : fh E st (.index T' x y) F = zy E T' (st.ev x) (st.ev y) λv=>sv v F:=(rfl)
theorem DZ {i : Nat} : fh E st (.extract x i) F = dG (st.ev x) i λv=>sv v F:=(rfl)
theorem PT : fh E st (.call ⟨.builtin .len,#[x],#[T']⟩) F = nz E T' (st.ev x) λv=>sv v F:=(rfl)
theorem PR {U1 U2 : TypeId} : fh E st (.call ⟨.builtin .min,#[x,y],#[U1,U2]⟩) F = xw (st.ev x) (st.ev y) λv=>sv v F:=(rfl)
theorem PS {U1 U2 : TypeId} : fh E st (.call ⟨.builtin .max,#[x,y],#[U1,U2]⟩) F = zt (st.ev x) (st.ev y) λv=>sv v F:=(rfl)
theorem MX {f : Nat} {l : List Operand} {ts : List TypeId} : fh E st (.call ⟨.value (.func f),⟨l⟩,⟨ts⟩⟩) F = Ce E f (l.map st.ev) st.h λv=>sv v F:=(rfl)
end
section
variable {E : Env} {all rest : List Oper} {n kb : Nat} {t : List (Nat × AV)} {h : AH} {K : ASt->Prop}
def rD (E : Env) (all : List Oper) (n kb : Nat) (h : AH) : List Oper->(t : List (Nat × AV))->(List (Nat × AV)->Prop)->Prop
 | [],t,K=>K t
 | o :: rest,t,K=>dj E all o ⟨n,kb,t,h⟩ λv=>rD E all n kb h rest ((o.dst.getD 0,v) :: t) K
variable {F : List (Nat × AV)->Prop} {op : Op} {ty : TypeId} {p : String} {af : Array Edge} {d : Nat}
theorem Ny : rD E all n kb h [] t F = F t:=(rfl)
theorem Jv : rD E all n kb h (⟨some d,op,ty,p,af,none⟩ :: rest) t F = fh E ⟨n,kb,t,h⟩ op λv=>rD E all n kb h rest ((d,v) :: t) F:=(rfl)
theorem Hm {j : Nat} {b : Bool} : rD E all n kb h (⟨some d,op,ty,p,af,some (j,b)⟩ :: rest) t F = xq (gS all j) λs=>rA (aD t s) b (ph (fh E ⟨n,kb,t,h⟩ op λv=>rD E all n kb h rest ((d,v) :: t) F)) (ph (rD E all n kb h rest ((d,.un) :: t) F)):=by
 simp only [rD,dj,xq,rA]
 cases gS all j with
 | none=>rfl
 | some s=>rfl
theorem Cd {ops : List Oper} {G : PV -> Prop} (hG : ∀ pv,G pv = F (pvT pv ++ t)) : ∀ (l : List Nat) (pv : PV),(∀ i ∈ l,∃ d,(aq ops i).dst = some d /\ d < n) -> (∀ p ∈ pv,∀ d,p.2.1.dst = some d -> d < n) ->
 oz E ops ⟨n,kb,t,h⟩ pv (l.map λi=>(i,aq ops i)) (λpv'=>(∀ p∈pv',∀ d,p.2.1.dst = some d->d < n)/\G pv') = rD E ops n kb h (l.map (aq ops)) (pvT pv ++ t) F
 | [], pv, _, hpv => by
   simp only [List.map_nil,oz,rD];rw [hG];exact propext ⟨λh=>h.2,λh=>⟨hpv,h⟩⟩
 | i :: l, pv, hl, hpv => by
   simp only [List.map_cons,oz,rD];refine congrArg _ ?_
   funext v
   obtain ⟨d,hd,hlt⟩:=hl i (List.mem_cons_self ..)
   rw [Cd hG l _ (λj hj=>hl j (List.mem_cons_of_mem _ hj)) (λp hp d' hd'=>by
    rcases List.mem_cons.1 hp with rfl | hp
    ·rw [hd] at hd';cases hd';exact hlt
    ·exact hpv p hp d' hd')]
   have : pvT ((i,aq ops i,v) :: pv) = (d,v) :: pvT pv:=by simp [pvT,hd]
   rw [this,hd];rfl
def BA (n : Nat) (ops : List Oper) : Bool:=ou ops (List.range ops.length) [] && ops.all λo=>match o.dst with | some d=>decide (d < n) | none=>false
theorem am.quiet {E : Env} (hE : EOk E) (hm : E.P.follows .mixedOrders = true) {id : Nat} {ops : List Oper} {Q : Exit->ASt->Prop} {n kb : Nat} {t : List (Nat × AV)} {h : AH} (hok : BA n ops = true)
 (hx : rD E ops n kb h ops t λt'=>Q .normal ⟨n,kb,t',h⟩) : am E id ops Q ⟨n,kb,t,h⟩:=by
 simp only [BA,Bool.and_eq_true] at hok;obtain ⟨h1,h2⟩:=hok
 have hd : ∀ i∈List.range ops.length,∃ d,(aq ops i).dst = some d/\d < n:=by
  intro i hi;have hlt:=List.mem_range.1 hi;have hop : aq ops i = ops[i]:=by simp [aq,hlt]
  have:=List.all_eq_true.1 h2 ops[i] (List.getElem_mem hlt);rw [hop]
  split at this
  ·rename_i d hd;exact ⟨d,hd,by simpa using this⟩
  ·simp at this
 have hmap : (List.range ops.length).map (aq ops) = ops:=by
  refine List.ext_getElem (by simp) (λi hi hi'=>?_);simp [aq,hi']
 refine pI hE hm (List.range ops.length) [] (.inl rfl) h1 (λpv st'=>st' = ⟨n,kb,pvT pv ++ (cQ pv ++ t),h⟩/\Q .normal ⟨n,kb,pvT pv ++ t,h⟩) ?_ ?_
 ·have:=Cd (E:=E) (ops:=ops) (kb:=kb) (h:=h) (t:=t) (n:=n) (F:=λt'=>Q .normal ⟨n,kb,t',h⟩) (G:=λpv=>rc E ops ⟨n,kb,t,h⟩ pv [] [] { (⟨n,kb,t,h⟩ : ASt) with t:=cQ pv ++ t } (λst'=>st' = ⟨n,kb,pvT pv ++ (cQ pv ++ t),h⟩/\Q .normal ⟨n,kb,pvT pv ++ t,h⟩)) (λpv=>by
   simp only [rc];rw [show (pv.filter λp=>!([] : List Nat).contains p.1) = pv from List.filter_eq_self.2 (by simp)];simp) (List.range ops.length) [] hd (by simp)
  simp only [List.map_nil] at this ⊢;rw [this,hmap];exact hx
 ·rintro pv st' a w ⟨rfl,hq⟩ hR
  refine ⟨_,hq,hR.dfr,hR.size,λs=>?_,hR.heap,hR.below,hR.base_le⟩
  show VRel w h.M (aD (pvT pv ++ t) s) _
  by_cases hs : ∃ p∈pvT pv,p.1 = s
  ·have e1 : ∀ x y : List (Nat × AV),aD (pvT pv ++ x) s = aD (pvT pv ++ y) s:=by
    intro x y;obtain ⟨p,hp,rfl⟩:=hs;generalize pvT pv = l at hp
    induction l with
    | nil=>simp at hp
    | cons q l ih =>
      obtain ⟨q1,q2⟩:=q;simp only [List.cons_append,aD];by_cases hq : p.1 = q1
      ·rw [if_pos hq,if_pos hq]
      ·rw [if_neg hq,if_neg hq]
       rcases List.mem_cons.1 hp with rfl | hp
       ·exact absurd rfl hq
       ·exact ih hp
   rw [e1 t (cQ pv ++ t)];exact hR.tmp s
  ·have:=hR.tmp s
   have hne : ∀ p∈pvT pv,p.1≠s:=λp hp he=>hs ⟨p,hp,he⟩
   have hne' : ∀ p∈cQ pv,p.1≠s:=by
    intro p hp he;unfold cQ at hp;rw [List.mem_filterMap] at hp;obtain ⟨x,hx,hd⟩:=hp;rw [Option.map_eq_some_iff] at hd;obtain ⟨d,hd,rfl⟩:=hd;exact hs ⟨(d,x.2.2),by unfold pvT;rw [List.mem_filterMap];exact ⟨x,hx,by rw [hd];rfl⟩,he⟩
   rw [fq hne];have h3 : aD (pvT pv ++ (cQ pv ++ t)) s = aD t s:=by rw [fq hne,fq hne']
   have h4 : VRel w h.M (aD (pvT pv ++ (cQ pv ++ t)) s) (a.tmps.getD s undef):=this;rw [h3] at h4;exact h4
end
attribute [simp ↓] I4 I5 Jm Rk OF OK OJ Lu OI OG Rl Rm OH Lw Lt Lv MU G8 MT Jh MV PQ PW PP MW Je Jg G7 Jf PU DZ PT PR PS MX Ny Jv Hm
attribute [simp] roR roV
open Go.RowKit
mutual
def AV.q : AV->Bool
 | .ro _=>false
 | .rp _=>false
 | .agg l=>AV.qL l
 | .tup l=>AV.qL l
 | .clo _ l=>AV.qL l
 | _=>true
def AV.qL : List AV->Bool
 | []=>true
 | a :: l=>a.q && AV.qL l
end
def AObj.q : AObj->Bool
 | .dead=>true
 | .vars _ _ cells=>AV.qL cells
 | .rows _ _ _ own=>own
 | _=>false
def qT : List (Nat × AV)->Bool
 | []=>true
 | (_,v) :: l=>v.q && qT l
def qH : AH->Bool
 | []=>true
 | (_,o) :: l=>o.q && qH l
def ASt.quiet (st : ASt) : Prop:=qT st.t = true/\qH st.h = true
theorem kX : ∀ (l : List AV),AV.qL l = true->∀ (i : Nat) (a : AV),l[i]? = some a->a.q = true
 | [],_,i,a,h=>by simp at h
 | b :: l, h, i, a, hi => by
   simp only [AV.qL,Bool.and_eq_true] at h
   cases i with
   | zero=>simp at hi;subst hi;exact h.1
   | succ i=>exact kX l h.2 i a (by simpa using hi)
theorem VRel.quiet {w w' : World} {M M' : Nat->Prop} {av : AV} {x : Value} (h : VRel w M av x) (hq : av.q = true) : VRel w' M' av x:=by
 induction h with
 | any x=>exact .any x
 | un=>exact .un
 | nil=>exact .nil
 | v u h=>exact .v u h
 | ro rows x h=>simp [AV.q] at hq
 | sl k H sz off len x h=>exact .sl k H sz off len x h
 | cv u len h=>exact .cv u len h
 | ml k H sz len x h=>exact .ml k H sz len x h
 | is u=>exact .is u
 | p k b c=>exact .p k b c
 | e k b o C sz r c=>exact .e k b o C sz r c
 | rp row b o cs T fr hM hb hfit hr=>simp [AV.q] at hq
 | agg l xs hs _ ih=>exact .agg l xs hs (λi av hi=>ih i av hi (kX l (by simpa [AV.q] using hq) i av hi))
 | tup l xs hs _ ih=>exact .tup l xs hs (λi av hi=>ih i av hi (kX l (by simpa [AV.q] using hq) i av hi))
 | clo f l xs hs _ ih=>exact .clo f l xs hs (λi av hi=>ih i av hi (kX l (by simpa [AV.q] using hq) i av hi))
theorem zW : ∀ (t : List (Nat × AV)),qT t = true->∀ i,(aD t i).q = true
 | [],_,i=>rfl
 | (k, v) :: t, h, i => by
   simp only [qT,Bool.and_eq_true] at h;unfold aD
   split
   ·exact h.1
   ·exact zW t h.2 i
theorem Fr : ∀ (h : AH),qH h = true->∀ i,(h.get i).q = true
 | [],_,i=>rfl
 | (k, v) :: t, h, i => by
   simp only [qH,Bool.and_eq_true] at h;rw [aH]
   split
   ·exact h.1
   ·exact Fr t h.2 i
def Ent (E : Env) (st : ASt) (S : ASt->Prop) : Prop:=∀ a w,Rep E.w0 E.base st a w->∃ st',S st'/\Rep E.w0 E.base st' a w
theorem Ent.refl {E : Env} {st : ASt} {S : ASt->Prop} (h : S st) : Ent E st S:=λ_ _ hR=>⟨st,h,hR⟩
def BT {β : Type} (E : Env) (Inv : β->Prop) (I : β->ASt) (μ : β->Nat) (x : β) (Q : Exit->ASt->Prop) : Exit->ASt->Prop
 | .normal,st=>Ent E st λst'=>∃ x',Inv x'/\μ x' < μ x/\tY st' (I x')
 | e,st=>Q e st
theorem ag {E : Env} (hE : EOk E) {body : Code} {Q : Exit->ASt->Prop} {st : ASt} {β : Type} (Inv : β->Prop) (I : β->ASt) (μ : β->Nat) (x0 : β) (h0 : Inv x0) (hw : tY st (I x0))
 (hr : ∀ x,Inv x->Ent E (I x) (d5 E body (BT E Inv I μ x Q))) : au E body Q st:=by
 intro a w hR;refine wp_loop_ghost (λn a w=>∃ x,Inv x/\μ x = n/\Rep E.w0 E.base (I x) a w) (μ x0) ⟨x0,h0,rfl,hw.rep hR⟩ ?_
 rintro n a w ⟨x,hx,rfl,hR⟩
 obtain ⟨st1,hs1,hR1⟩:=hr x hx a w hR;refine wp_mono (bM hE body _ _ a w hR1 hs1) ?_
 rintro e a' w' ⟨st',hq,hR'⟩
 cases e with
 | normal =>
   obtain ⟨st2,⟨x',h1,h2,h3⟩,hR2⟩:=hq a' w' hR';exact ⟨μ x',h2,x',h1,rfl,h3.rep hR2⟩
 | _=>exact ⟨st',hq,hR'⟩
def iV (rows : List (List CD)) (i j : Nat) (d : CD) : List (List CD):=rows.modify i λr=>r.set j d
theorem it (rows : List (List CD)) (i j : Nat) (d : CD) : (iV rows i j d).length = rows.length:=by simp [iV]
theorem xV {rows : List (List CD)} {i j : Nat} {d : CD} {i' j' : Nat} {row : List CD} {x : CD} (hi : (iV rows i j d)[i']? = some row) (hj : row[j']? = some x) :
 (i' = i/\j' = j/\x = d)\/¬ (i' = i/\j' = j)/\∃ row0,rows[i']? = some row0/\row0[j']? = some x:=by
 unfold iV at hi;rw [List.getElem?_modify] at hi;by_cases h : i = i'
 ·subst h
  simp only [↓reduceIte,Option.map_eq_map,Option.map_eq_some_iff] at hi;obtain ⟨row0,h0,rfl⟩:=hi;rw [List.getElem?_set] at hj;by_cases h2 : j = j'
  ·subst h2
   rw [if_pos rfl] at hj
   split at hj
   ·simp at hj;exact .inl ⟨rfl,rfl,hj.symm⟩
   ·simp at hj
  ·rw [if_neg h2] at hj
   exact .inr ⟨λh=>h2 h.2.symm,row0,h0,hj⟩
 ·simp only [if_neg h] at hi
  simp at hi;exact .inr ⟨λh'=>h h'.1.symm,row,hi,hj⟩
theorem xU {rows : List (List CD)} {i j sz : Nat} {d : CD} (h : ∀ row∈rows,row.length = sz) : ∀ row∈iV rows i j d,row.length = sz:=by
 intro row hr;obtain ⟨k,hk⟩:=List.getElem?_of_mem hr;unfold iV at hk;rw [List.getElem?_modify] at hk;by_cases h' : i = k
 ·subst h'
  simp only [↓reduceIte,Option.map_eq_map,Option.map_eq_some_iff] at hk;obtain ⟨row0,h0,rfl⟩:=hk;simp [h row0 (List.mem_of_getElem? h0)]
 ·simp only [if_neg h'] at hk
  simp at hk;exact h row (List.mem_of_getElem? hk)
theorem Rep.reheap {w0 : World} {base : Bs} {st : ASt} {a : Act} {w : World} (hR : Rep w0 base st a w) (hq : qT st.t = true) {h' : AH} {E' : Nat->Nat->Prop} (H : HRel base h' w E') : Rep w0 base { st with h:=h' } a w:=
 ⟨hR.dfr,hR.size,λi=>(hR.tmp i).quiet (zW _ hq i),⟨E',H⟩,hR.below,hR.base_le⟩
theorem dz.quiet {w : World} {M M' E : Nat->Prop} {o : AObj} (h : dz w M E o) (hq : o.q = true) (hM : ∀ c,E c->¬ M c->¬ M' c) : dz w M' E o:=by
 cases o with
 | dead=>exact h
 | vars b T cells =>
   obtain ⟨cs,h1,h2,h3⟩:=h;exact ⟨cs,h1,h2,λj av hj=>(h3 j av hj).quiet (kX _ (by simpa [AObj.q] using hq) j av hj)⟩
 | rows H sz rows own =>
   cases H with
   | none=>exact h
   | some q =>
     obtain ⟨b,o,C⟩:=q;obtain ⟨cs,T,F,h1,h2,h3,h4,h5,h6,h7,h8,h9⟩:=h;refine ⟨cs,T,F,h1,h2,h3,h4,h5,h6,λi j c hc=>⟨(h7 i j c hc).1,?_⟩,h8,h9⟩;exact hM c ((h7 i j c hc).1 (by simpa [AObj.q] using hq)) (h7 i j c hc).2
 | lent=>simp [AObj.q] at hq
 | part=>simp [AObj.q] at hq
theorem Ent.open {E : Env} {st : ASt} {S : ASt->Prop} (hFG : ∀ b,E.base.F b->E.base.G b) {k i j k' sz sz' : Nat} {H : Hd} {rows srows : List (List CD)} {row : List CD} (hk : st.h.get k = .rows H sz rows true)
 (hi : rows[i]? = some row) (hj : row[j]? = some (.s srows)) (hk' : st.h.get k' = .dead) (hz : 0 < sz') (hr : ∀ r∈srows,r.length = sz') (hq : st.quiet)
 (h : ∀ H',Ent E { st with h:=(k',.rows H' sz' srows true) :: (k,.rows H sz (iV rows i j (.h k' H' sz' srows.length)) true) :: st.h } S) : Ent E st S:=by
 intro a w hR;obtain ⟨Es,HH⟩:=hR.heap;have hne : k'≠k:=by rintro rfl;rw [hk] at hk';cases hk'
 have ho:=HH.obj k;rw [hk] at ho
 cases H with
 | none=>rw [show rows = [] from ho] at hi;simp at hi
 | some q =>
   obtain ⟨b,o,C⟩:=q;obtain ⟨cs,T,F,hb,hl,hC,hsz,hfit,hrl,hF,hd,hrd⟩:=ho;have hu:=hrd i j row _ hi hj;obtain ⟨u,hud⟩ : ∃ u,cs.getD (o + (i * sz + j)) undef = u:=⟨_,rfl⟩;rw [hud] at hu;have hblkk : (st.h.get k).blk = some b:=by rw [hk];rfl
   by_cases hs0 : srows = []/\(MlS k' sz' 0->∃ a,u = .slice a 0 0)
   ·obtain ⟨rfl,hs1⟩:=hs0
    refine h none a w (hR.reheap hq.1 (E':=Es) ?_)
    have hg : ∀ x,(AH.get ((k',AObj.rows none sz' [] true) :: (k,AObj.rows (some (b,o,C)) sz (iV rows i j (.h k' none sz' 0)) true) :: st.h) x).blk = (st.h.get x).blk:=by
     intro x;rw [aH,aH]
     split
     ·rename_i hx;subst hx;rw [hk'];rfl
     ·split
      ·rename_i hx;subst hx;rw [hk];rfl
      ·rfl
    have hM : ∀ c,AH.M ((k',AObj.rows none sz' [] true) :: (k,AObj.rows (some (b,o,C)) sz (iV rows i j (.h k' none sz' 0)) true) :: st.h) c ↔ st.h.M c:=by
     intro c;unfold AH.M;simp only [hg]
    refine ⟨λx=>?_,λx x' c h1 h2=>HH.inj x x' c (by rw [<- hg];exact h1) (by rw [<- hg];exact h2),λx c h1=>HH.low x c (by rw [<- hg];exact h1),HH.elow,HH.einj,λx c hc hm=>HH.em x c hc ((hM c).1 hm)⟩;rw [aH,aH]
    split
    ·rfl
    ·split
     ·rename_i hx
      subst hx;refine ⟨cs,T,F,hb,by rw [it];exact hl,hC,hsz,hfit,xU hrl,λi j c hc=>⟨(hF i j c hc).1,λhm=>(hF i j c hc).2 ((hM c).1 hm)⟩,hd,?_⟩;intro i2 j2 row2 d2 h1 h2;rcases xV h1 h2 with ⟨rfl,rfl,rfl⟩ | ⟨-,row0,h3,h4⟩
      ·rw [hud];exact .h _ _ _ _ _ (λh=>⟨hs1 h,rfl⟩) (λ_ _=>hu)
      ·exact hrd _ _ _ _ h3 h4
     ·exact (HH.obj x).mono (λc _ hc=>(hM c).1 hc) (λ_ hc=>hc)
   ·cases hu with
    | empty a cap hc=>exact absurd ⟨rfl,λ_=>⟨a,by rw [hc rfl]⟩⟩ hs0
    | slice b1 off1 cap1 sz1 cs1 T1 fr1 _ F1 hcap1 hmax1 hsz1 hS1 hb1 hfit1 hown1 hF1 hd1 hlen1 hr1 =>
      obtain ⟨hfr1,hroom1⟩:=hown1 rfl;subst hfr1
      have hkey : off1 + cap1 * sz'<=cs1.size/\(∀ row∈srows,row.length = sz')/\∀ i j row d,srows[i]? = some row->row[j]? = some d->Rd w true (F1 i j) (cs1.getD (off1 + (i * sz' + j)) undef) d:=by
       cases srows with
       | nil =>
         have h1 : sz' = 1:=Classical.byContradiction λh=>hs0 ⟨rfl,λh1=>h1.elim (λh=>absurd h (by omega)) (λh2=>absurd h2.1 h)⟩
         have:=Nat.mul_le_mul_left cap1 (show sz'<=sz1 by omega);exact ⟨by omega,by simp,λi j row d h=>by simp at h⟩
       | cons r0 l =>
         have e : sz1 = sz':=by rw [<- hlen1 r0 (List.mem_cons_self ..),hr r0 (List.mem_cons_self ..)]
         subst e;exact ⟨hroom1,hlen1,hr1⟩
      clear hr1 hlen1 hroom1 hfit1 hsz1
      obtain ⟨hroom1,hlen1,hr1⟩:=hkey;have hsz1:=hz;have hb1E : Es k b1:=(hF i j b1 hS1).1 rfl;have hb1M : ¬ st.h.M b1:=(hF i j b1 hS1).2;refine h (some (b1,off1,cap1)) a w (hR.reheap hq.1 (E':=λx c=>if x = k' then (∃ i' j',F1 i' j' c) else if x = k then Es k c/\¬ F i j c else Es x c) ?_);have hE' : ∀ c,¬ Es k' c\/True:=λ_=>.inr trivial
      have hget : ∀ x,AH.get ((k',AObj.rows (some (b1,off1,cap1)) sz' srows true) :: (k,AObj.rows (some (b,o,C)) sz (iV rows i j (.h k' (some (b1,off1,cap1)) sz' srows.length)) true) :: st.h) x =
       if x = k' then AObj.rows (some (b1,off1,cap1)) sz' srows true else if x = k then AObj.rows (some (b,o,C)) sz (iV rows i j (.h k' (some (b1,off1,cap1)) sz' srows.length)) true else st.h.get x:=λx=>rfl
      generalize hgen : (((k',AObj.rows (some (b1,off1,cap1)) sz' srows true) :: (k,AObj.rows (some (b,o,C)) sz (iV rows i j (.h k' (some (b1,off1,cap1)) sz' srows.length)) true) :: st.h) : AH) = h2 at hget ⊢
      change AH at h2
      have hblk : ∀ x c,(h2.get x).blk = some c->(x = k'/\c = b1)\/x≠k'/\(st.h.get x).blk = some c:=by
       intro x c hc;rw [hget] at hc
       split at hc
       ·rename_i hx;simp [AObj.blk] at hc;exact .inl ⟨hx,hc.symm⟩
       ·rename_i hx
        split at hc
        ·rename_i hx2;subst hx2;rw [hk];exact .inr ⟨hx,hc⟩
        ·exact .inr ⟨hx,hc⟩
      have hM : ∀ c,h2.M c->c = b1\/st.h.M c:=by
       rintro c ⟨x,hx⟩
       rcases hblk x c hx with h | h
       ·exact .inl h.2
       ·exact .inr ⟨x,h.2⟩
      have hF1E : ∀ i' j' c,F1 i' j' c->F i j c/\c≠b1:=λi' j' c hc=>⟨(hF1 i' j' c hc).1,(hF1 i' j' c hc).2 rfl⟩
      refine ⟨λx=>?_,λx x' c h1 h2=>?_,λx c h1=>?_,λx c hc=>?_,λx x' c hc hc'=>?_,λx c hc hm=>?_⟩
      ·rw [hget]
       by_cases hx : x = k'
       ·simp only [if_pos hx]
        refine ⟨cs1,T1,F1,hb1,hcap1,hmax1,hsz1,hroom1,hlen1,λi' j' c hc=>⟨λ_=>⟨i',j',hc⟩,λhm=>?_⟩,λ_=>hd1 rfl,hr1⟩;obtain ⟨h1,h2⟩:=hF1E i' j' c hc;rcases hM c hm with rfl | h
        ·exact h2 rfl
        ·exact (hF i j c h1).2 h
       ·simp only [if_neg hx]
        by_cases hxk : x = k
        ·simp only [if_pos hxk]
         refine ⟨cs,T,λi' j' c=>F i' j' c/\¬ (i' = i/\j' = j),hb,by rw [it];exact hl,hC,hsz,hfit,xU hrl,λi' j' c hc=>⟨λ_=>⟨(hF i' j' c hc.1).1 rfl,λh=>hc.2 (hd rfl _ _ _ _ c hc.1 h)⟩,λhm=>?_⟩,λ_ i1 j1 i2 j2 c h1 h2=>hd rfl _ _ _ _ c h1.1 h2.1,?_⟩
         ·rcases hM c hm with rfl | h
          ·exact hc.2 (hd rfl _ _ _ _ c hc.1 hS1)
          ·exact (hF i' j' c hc.1).2 h
         ·intro i2 j2 row2 d2 h1 h2
          rcases xV h1 h2 with ⟨rfl,rfl,rfl⟩ | ⟨hn,row0,h3,h4⟩
          ·rw [hud]
           refine .h _ _ _ _ _ (λ_=>?_) (λh0 h1=>absurd ⟨List.eq_nil_of_length_eq_zero h0,λh=>absurd (h0 ▸ h) h1⟩ hs0);exact .inl ⟨by simp,by omega⟩
          ·exact (hrd _ _ _ _ h3 h4).map (λ_ _ _=>rfl) (λc hc _=>⟨hc,hn⟩)
        ·simp only [if_neg hxk]
         refine (HH.obj x).quiet (Fr _ hq.2 x) (λc hc hm hm'=>?_);rcases hM c hm' with rfl | h
         ·exact hxk (HH.einj _ _ c hc hb1E)
         ·exact hm h
      ·rcases hblk x c h1 with ⟨rfl,rfl⟩ | ⟨hx,h1⟩<;>rcases hblk x' c h2 with ⟨hx',hc'⟩ | ⟨hx',h2⟩
       ·exact hx'.symm
       ·exact absurd ⟨x',h2⟩ hb1M
       ·rw [hc'] at h1;exact absurd ⟨x,h1⟩ hb1M
       ·exact HH.inj x x' c h1 h2
      ·rcases hblk x c h1 with ⟨rfl,rfl⟩ | ⟨hx,h1⟩
       ·have:=(HH.elow k c hb1E).1
        exact ⟨λh=>this (hFG _ h),this⟩
       ·exact HH.low x c h1
      ·split at hc
       ·obtain ⟨i',j',hc⟩:=hc
        exact HH.elow k c ((hF i j c (hF1E i' j' c hc).1).1 rfl)
       ·split at hc
        ·exact HH.elow k c hc.1
        ·exact HH.elow x c hc
      ·have key : ∀ y,(if y = k' then (∃ i' j',F1 i' j' c) else if y = k then Es k c/\¬ F i j c else Es y c)->(y = k'/\F i j c/\Es k c)\/(y≠k'/\y = k/\Es k c/\¬ F i j c)\/(y≠k'/\y≠k/\Es y c):=by
        intro y hy
        split at hy
        ·rename_i h;obtain ⟨i',j',hy⟩:=hy
         exact .inl ⟨h,(hF1E i' j' c hy).1,(hF i j c (hF1E i' j' c hy).1).1 rfl⟩
        ·rename_i h
         split at hy
         ·rename_i h3;exact .inr (.inl ⟨h,h3,hy⟩)
         ·rename_i h3;exact .inr (.inr ⟨h,h3,hy⟩)
       rcases key x hc with ⟨h1,h2,h3⟩ | ⟨h0,h1,h2,h3⟩ | ⟨h0,h1,h2⟩<;>rcases key x' hc' with ⟨g1,g2,g3⟩ | ⟨g0,g1,g2,g3⟩ | ⟨g0,g1,g2⟩
       ·rw [h1,g1]
       ·exact absurd h2 g3
       ·exact absurd (HH.einj _ _ c g2 h3) g1
       ·exact absurd g2 h3
       ·rw [h1,g1]
       ·exact absurd (HH.einj _ _ c g2 h2) g1
       ·exact absurd (HH.einj _ _ c h2 g3) h1
       ·exact absurd (HH.einj _ _ c h2 g2) h1
       ·exact HH.einj _ _ c h2 g2
      ·split at hc
       ·obtain ⟨i',j',hc⟩:=hc
        obtain ⟨h1,h2⟩:=hF1E i' j' c hc;rcases hM c hm with rfl | h
        ·exact h2 rfl
        ·exact (hF i j c h1).2 h
       ·split at hc
        ·rcases hM c hm with rfl | h
         ·exact hc.2 hS1
         ·exact HH.em k c hc.1 h
        ·rename_i hxk
         rcases hM c hm with rfl | h
         ·exact hxk (HH.einj _ _ c hc hb1E)
         ·exact HH.em x c hc h
end Go.AM
