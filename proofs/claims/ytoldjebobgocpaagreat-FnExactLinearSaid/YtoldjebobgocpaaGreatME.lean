import Derived.Test.YtoldjebobgocpaaGreatMD
namespace Go.AM
open Go.RowKit
section
variable {P : Program} {T : Nat->Option TI} {w0 : World} {base : Bs} {E : Env} {Q : Exit->ASt->Prop} {K : ASt->Prop} {st : ASt}
@[congr] theorem PD {d : Option Nat} {v v' : AV} (h : v = v') : aT st d v K = aT st d v' K:=by rw [h]
@[congr] theorem Px (f : Nat) {l l' : List AV} {d : Option Nat} (h : l = l') : aa E f l st d K = aa E f l' st d K:=by rw [h]
structure Ph {α : Sort _} (a : α) : Type where
 mk ::
def ph {α : Sort _} (a : α) : Ph a:=⟨⟩
def Br (b : Bool) {X Y : Prop} (_ : Ph X) (_ : Ph Y) : Prop:=(b = true->X)/\(b = false->Y)
theorem Q0 {X Y : Prop} {p : Ph X} {q : Ph Y} : Br true p q = X:=by simp [Br]
theorem Q2 {X Y : Prop} {p : Ph X} {q : Ph Y} : Br false p q = Y:=by simp [Br]
theorem Q1 {b : Bool} {X Y : Prop} {p : Ph X} {q : Ph Y} : Br (!b) p q = Br b q p:=by cases b<;>simp [Br]
theorem Br.mk {b : Bool} {X Y : Prop} {p : Ph X} {q : Ph Y} (h : b = true->X) (k : b = false->Y) : Br b p q:=⟨h,k⟩
theorem LG : dO E .skip Q st = Q .normal st:=(rfl)
theorem FK {id : Nat} {l : List Oper} : dO E (.region id ⟨l⟩ false) Q st = mw E l l (Q .normal) st:=(rfl)
theorem LJ {id : Nat} {l : List Oper} : dO E (.region id ⟨l⟩ true) Q st = aD E id l Q st:=(rfl)
theorem OO {x y : Code} : dO E (.seq x y) Q st = dO E x (Du (dO E y Q) Q) st:=(rfl)
theorem LK {c : Operand} {x y : Code} : dO E (.cond c x y) Q st = im (st.ev c) λb=>Br b (ph (dO E x Q st)) (ph (dO E y Q st)):=(rfl)
theorem HS {id : Nat} {x : Code} : dO E (.block id x) Q st = dO E x (uY id Q) st:=(rfl)
theorem LH {x : Code} : dO E (.loop x) Q st = ak E x Q st:=(rfl)
theorem LI {id : Nat} : dO E (.exit id) Q st = Q (.exit id) st:=(rfl)
theorem OP : dO E .ret Q st = Q .ret st:=(rfl)
theorem LQ : Du K Q .normal st = K st:=(rfl)
theorem LP : Du K Q .ret st = Q .ret st:=(rfl)
theorem LR {i : Nat} : Du K Q (.exit i) st = Q (.exit i) st:=(rfl)
theorem LU {i : Nat} : uY i Q .normal st = Q .normal st:=(rfl)
theorem LS {i : Nat} : uY i Q .ret st = Q .ret st:=(rfl)
theorem LV {i : Nat} : uY i Q (.exit i) st = Q .normal st:=by simp [uY]
theorem LT {i j : Nat} (h : j≠i) : uY i Q (.exit j) st = Q (.exit j) st:=by simp [uY,h]
def nn (x : AV) (want : Bool) {R S : Prop} (_ : Ph R) (_ : Ph S) : Prop:=
 match x with
 | .v (.bool b)=>(b = want->R)/\(b = !want->S)
 | .un=>S
 | _=>False
def ra (o : Option Nat) (F : Nat->Prop) : Prop:=
 match o with
 | some d=>F d
 | none=>False
theorem BH {d : Nat} {F : Nat->Prop} : ra (some d) F = F d:=(rfl)
theorem Hw {b : Bool} {R S : Prop} {r : Ph R} {s : Ph S} : nn .un b r s = S:=(rfl)
theorem BJ {R S : Prop} {r : Ph R} {s : Ph S} {c : Bool} : nn (.v (.bool c)) true r s = Br c r s:=(rfl)
theorem yM {R S : Prop} {r : Ph R} {s : Ph S} {c : Bool} : nn (.v (.bool c)) false r s = Br c s r:=by simp [nn,Br,And.comm]
theorem O3 {all : List Oper} : mw E all [] K st = K st:=(rfl)
theorem LY {all rest : List Oper} {d : Option Nat} {op : Op} {t : TypeId} {p : String} {af : Array Edge} :
 mw E all (⟨d,op,t,p,af,none⟩ :: rest) K st = aOp E ⟨d,op,t,p,af,none⟩ st (mw E all rest K):=(rfl)
theorem HU {all rest : List Oper} {d : Option Nat} {op : Op} {t : TypeId} {p : String} {af : Array Edge} {j : Nat} {b : Bool} :
 mw E all (⟨d,op,t,p,af,some (j,b)⟩ :: rest) K st = ra (fk all j) λs=>nn (aE st.t s) b (ph (aOp E ⟨d,op,t,p,af,some (j,b)⟩ st (mw E all rest K))) (ph (aT st d .un (mw E all rest K))):=by
 simp only [mw,Fu,ra,nn]
 cases fk all j with
 | none=>rfl
 | some s=>rfl
theorem GX {d : Option Nat} {op : Op} {t : TypeId} {p : String} {af : Array Edge} {g : Option (Nat × Bool)} {l : List Oper} : fk (⟨d,op,t,p,af,g⟩ :: l) 0 = d:=(rfl)
theorem GW {o : Oper} {l : List Oper} {j : Nat} : fk (o :: l) (j + 1) = fk l j:=(rfl)
theorem LX {v : AV} : aT st none v K = K st:=(rfl)
theorem OZ {n kb d : Nat} {t : List (Nat × AV)} {h : AH}  : aT ⟨n,kb,t,h⟩ (some d) .any K = (d < n/\K ⟨n,kb,(d,.any) :: t,h⟩):=(rfl)
theorem QI {n kb d : Nat} {t : List (Nat × AV)} {h : AH}  : aT ⟨n,kb,t,h⟩ (some d) .un K = (d < n/\K ⟨n,kb,(d,.un) :: t,h⟩):=(rfl)
theorem OX {n kb d : Nat} {t : List (Nat × AV)} {h : AH}  : aT ⟨n,kb,t,h⟩ (some d) .nil K = (d < n/\K ⟨n,kb,(d,.nil) :: t,h⟩):=(rfl)
theorem P_v {n kb d : Nat} {t : List (Nat × AV)} {h : AH} {u : Value} : aT ⟨n,kb,t,h⟩ (some d) (.v u) K = (d < n/\K ⟨n,kb,(d,(.v u)) :: t,h⟩):=(rfl)
theorem QL {n kb d : Nat} {t : List (Nat × AV)} {h : AH} {r : List (List CD)} : aT ⟨n,kb,t,h⟩ (some d) (.ro r) K = (d < n/\K ⟨n,kb,(d,(.ro r)) :: t,h⟩):=(rfl)
theorem QJ {n kb d : Nat} {t : List (Nat × AV)} {h : AH} {k sz off len : Nat} {H : Hd} : aT ⟨n,kb,t,h⟩ (some d) (.sl k H sz off len) K = (d < n/\K ⟨n,kb,(d,(.sl k H sz off len)) :: t,h⟩):=(rfl)
theorem P_p {n kb d : Nat} {t : List (Nat × AV)} {h : AH} {k b c : Nat} : aT ⟨n,kb,t,h⟩ (some d) (.p k b c) K = (d < n/\K ⟨n,kb,(d,(.p k b c)) :: t,h⟩):=(rfl)
theorem P_e {n kb d : Nat} {t : List (Nat × AV)} {h : AH} {k sz r c : Nat} {H : Hd} : aT ⟨n,kb,t,h⟩ (some d) (.e k H sz r c) K = (d < n/\K ⟨n,kb,(d,(.e k H sz r c)) :: t,h⟩):=(rfl)
theorem QK {n kb d : Nat} {t : List (Nat × AV)} {h : AH} {r : List CD} : aT ⟨n,kb,t,h⟩ (some d) (.rp r) K = (d < n/\K ⟨n,kb,(d,(.rp r)) :: t,h⟩):=(rfl)
theorem O0 {n kb d : Nat} {t : List (Nat × AV)} {h : AH} {l : List AV} : aT ⟨n,kb,t,h⟩ (some d) (.agg l) K = (d < n/\K ⟨n,kb,(d,(.agg l)) :: t,h⟩):=(rfl)
theorem OW {n kb d : Nat} {t : List (Nat × AV)} {h : AH} {l : List AV} : aT ⟨n,kb,t,h⟩ (some d) (.tup l) K = (d < n/\K ⟨n,kb,(d,(.tup l)) :: t,h⟩):=(rfl)
theorem QN {n kb d : Nat} {t : List (Nat × AV)} {h : AH} {u : Value} {len : Nat} : aT ⟨n,kb,t,h⟩ (some d) (.cv u len) K = (d < n/\K ⟨n,kb,(d,(.cv u len)) :: t,h⟩):=(rfl)
theorem QM {n kb d : Nat} {t : List (Nat × AV)} {h : AH} {k sz len : Nat} {H : Hd} : aT ⟨n,kb,t,h⟩ (some d) (.ml k H sz len) K = (d < n/\K ⟨n,kb,(d,(.ml k H sz len)) :: t,h⟩):=(rfl)
theorem OY {n kb d : Nat} {t : List (Nat × AV)} {h : AH} {f : Nat} {l : List AV} : aT ⟨n,kb,t,h⟩ (some d) (.clo f l) K = (d < n/\K ⟨n,kb,(d,(.clo f l)) :: t,h⟩):=(rfl)
theorem O9 {i : Nat} : aE [] i = .any:=(rfl)
theorem FM {i : Nat} {v : AV} {t : List (Nat × AV)} : aE ((i,v) :: t) i = v:=by simp [aE]
theorem yZ {i j : Nat} {v : AV} {t : List (Nat × AV)} (h : i≠j) : aE ((j,v) :: t) i = aE t i:=by simp [aE,h]
theorem Pu {i : Nat} : AH.get [] i = .dead:=(rfl)
theorem Pw {i : Nat} {v : AObj} {t : AH} : AH.get ((i,v) :: t) i = v:=by simp [AH.get]
theorem Mg {i j : Nat} {v : AObj} {t : AH} (h : i≠j) : AH.get ((j,v) :: t) i = AH.get t i:=by simp [AH.get,h]
@[congr] theorem Re {x x' : Operand} (h : x = x') : st.ev x = st.ev x':=by rw [h]
theorem Lb {n kb i : Nat} {t : List (Nat × AV)} {h : AH} : ASt.ev ⟨n,kb,t,h⟩ (.tmp i) = aE t i:=(rfl)
theorem Lf {k : IntKind} {i : Int} : st.ev (.const (.int k i)) = .v (.int k i):=(rfl)
theorem Ha {b : Bool} : st.ev (.const (.bool b)) = .v (.bool b):=(rfl)
theorem Lc {b : ByteArray} : st.ev (.const (.string b)) = .v (.string b):=(rfl)
theorem Le : st.ev (.const (.slice none 0 0)) = .nil:=(rfl)
theorem G9 {f : Nat} : st.ev (.func f) = .v (.func (.func f) #[] #[]):=(rfl)
theorem D4 {n kb d : Nat} {t : List (Nat × AV)} {h : AH} : ASt.key ⟨n,kb,t,h⟩ (some d) = kb + 16 * d:=(rfl)
theorem D5 {n kb : Nat} {t : List (Nat × AV)} {h : AH} : ASt.key ⟨n,kb,t,h⟩ none = kb:=(rfl)
def wT (o : Option TI) (F : TI->Prop) : Prop:=
 match o with
 | some ti=>F ti
 | none=>False
@[congr] theorem Q7 {x x' : Option TI} {F : TI->Prop} (h : x = x') : wT x F = wT x' F:=by rw [h]
theorem FV {ti : TI} {F : TI->Prop} : wT (some ti) F = F ti:=(rfl)
def wE (e : Option Nat) (F : Nat->Prop) : Prop:=
 match e with
 | some e=>F e
 | none=>False
@[congr] theorem Rb {x x' : Option Nat} {F : Nat->Prop} (h : x = x') : wE x F = wE x' F:=by rw [h]
theorem FY {e : Nat} {F : Nat->Prop} : wE (some e) F = F e:=(rfl)
theorem wG {t : Nat} {F : Nat->TI->Prop} : cu ⟨P,T,w0,base⟩ t F = wT (T t) λti=>wE ti.sl λe=>wT (T e) (F e):=by
 unfold cu wT wE;simp only
 cases T t with
 | none=>rfl
 | some ti =>
   simp only
   cases ti.sl with
   | none=>rfl
   | some e=>simp only;cases T e<;>rfl
section ops
variable {d : Option Nat} {t : TypeId} {p : String} {af : Array Edge} {g : Option (Nat × Bool)} {x y : Operand}
theorem LA : aOp E ⟨d,.move x,t,p,af,g⟩ st K = aT st d (st.ev x) K:=(rfl)
theorem FH : aOp E ⟨d,.assign x,t,p,af,g⟩ st K = aT st d (st.ev x) K:=(rfl)
theorem Lz {c a b : Operand} : aOp E ⟨d,.pick c a b,t,p,af,g⟩ st K = im (st.ev c) λz=>Br z (ph (aT st d (st.ev a) K)) (ph (aT st d (st.ev b) K)):=(rfl)
theorem HP {T' : TypeId} {l : List (Nat × Operand)} : aOp E ⟨d,.build T' ⟨l⟩,t,p,af,g⟩ st K = iZ E T' (l.map λq=>(q.1,st.ev q.2)) λv=>aT st d v K:=(rfl)
theorem LC {T' : TypeId} : aOp E ⟨d,.load T' x,t,p,af,g⟩ st K = jW E st.h T' (st.ev x) λv=>aT st d v K:=(rfl)
theorem OG : aOp E ⟨d,.nilCheck x,t,p,af,g⟩ st K = pq (st.ev x) λv=>aT st d v K:=(rfl)
theorem ON {op : BinOp} {T' U : TypeId} : aOp E ⟨d,.binOp op T' x y U,t,p,af,g⟩ st K = ji E op T' (st.ev x) (st.ev y) λv=>aT st d v K:=(rfl)
theorem OF {T' : TypeId} : aOp E ⟨d,.unOp .not T' x,t,p,af,g⟩ st K = im (st.ev x) λb=>aT st d (.v (.bool (!b))) K:=(rfl)
theorem LD {s T' : TypeId} : aOp E ⟨d,.convert s T' x,t,p,af,g⟩ st K = gE E st.h s T' (st.ev x) λv=>aT st d v K:=(rfl)
theorem FE {T' : TypeId} {lo hi : Option Operand} {mx : Operand} : aOp E ⟨d,.slice T' x lo hi (some mx),t,p,af,g⟩ st K = nr E T' (st.ev x) (lo.map st.ev) (hi.map st.ev) (st.ev mx) λv=>aT st d v K:=(rfl)
theorem HL {T' : TypeId} {lo hi : Option Operand} : aOp E ⟨d,.slice T' x lo hi none,t,p,af,g⟩ st K = fO E T' (st.ev x) (lo.map st.ev) (hi.map st.ev) λv=>aT st d v K:=(rfl)
theorem HN {T' : TypeId} {f : Nat} : aOp E ⟨d,.fieldAddr T' x f,t,p,af,g⟩ st K = jL E T' f (st.ev x) λv=>aT st d v K:=(rfl)
theorem FF {T' : TypeId} {f : Nat} : aOp E ⟨d,.field T' x f,t,p,af,g⟩ st K = jK E T' f (st.ev x) λv=>aT st d v K:=(rfl)
theorem HM {T' : TypeId} : aOp E ⟨d,.indexAddr T' x y,t,p,af,g⟩ st K = cu E T' λ_ te=>aCv E (st.ev x) λz=>indexAt te z (st.ev y) λv=>aT st d v K:=(rfl)
theorem OL {T' : TypeId} : aOp E ⟨d,.index T' x y,t,p,af,g⟩ st K = w8 E T' (st.ev x) (st.ev y) λv=>aT st d v K:=(rfl)
theorem B2 {i : Nat} : aOp E ⟨d,.extract x i,t,p,af,g⟩ st K = dn (st.ev x) i λv=>aT st d v K:=(rfl)
theorem HQ {T' : TypeId} : aOp E ⟨d,.alloc T',t,p,af,g⟩ st K = ox E st d T' K:=(rfl)
theorem OM {T' : TypeId} : aOp E ⟨d,.box T' x,t,p,af,g⟩ st K = xa E st d T' (st.ev x) K:=(rfl)
theorem FG {T' : TypeId} {len : Nat} {l : List (Nat × Operand)} : aOp E ⟨d,.buildSlice T' len ⟨l⟩,t,p,af,g⟩ st K = fu E st d T' len (l.map λq=>(q.1,st.ev q.2)) K:=(rfl)
theorem LB {T' : TypeId} : aOp E ⟨d,.makeSlice T' x y,t,p,af,g⟩ st K = tB E st d T' (st.ev x) (st.ev y) K:=(rfl)
theorem HK {T' : TypeId} : aOp E ⟨d,.store T' x y,t,p,af,g⟩ st K = iY E st T' (st.ev x) (st.ev y) λst'=>aT st' d .un K:=(rfl)
theorem OK {T' : TypeId} : aOp E ⟨d,.call ⟨.builtin .len,#[x],#[T']⟩,t,p,af,g⟩ st K = lL E T' (st.ev x) λv=>aT st d v K:=(rfl)
theorem FI {T' U : TypeId} : aOp E ⟨d,.call ⟨.builtin .append,#[x,y],#[T',U]⟩,t,p,af,g⟩ st K = (T' = U/\eK E st d T' (st.ev x) (st.ev y) K):=(rfl)
theorem OI {U1 U2 : TypeId} : aOp E ⟨d,.call ⟨.builtin .min,#[x,y],#[U1,U2]⟩,t,p,af,g⟩ st K = vc (st.ev x) (st.ev y) λv=>aT st d v K:=(rfl)
theorem OJ {U1 U2 : TypeId} : aOp E ⟨d,.call ⟨.builtin .max,#[x,y],#[U1,U2]⟩,t,p,af,g⟩ st K = w5 (st.ev x) (st.ev y) λv=>aT st d v K:=(rfl)
theorem LE {f : Nat} {l : List Operand} {ts : List TypeId} : aOp E ⟨d,.call ⟨.value (.func f),⟨l⟩,⟨ts⟩⟩,t,p,af,g⟩ st K = aa E f (l.map st.ev) st d K:=(rfl)
end ops
@[congr] theorem Ol {x x' : AV} {F : Bool->Prop} (h : x = x') : im x F = im x' F:=by rw [h]
theorem Hy {b : Bool} {F : Bool->Prop} : im (.v (.bool b)) F = F b:=(rfl)
@[congr] theorem PC {x x' y y' : AV} {F : Value->Value->Prop} (h : x = x') (k : y = y') : BM x y F = BM x' y' F:=by rw [h,k]
@[congr] theorem Ow {E : Env} {op : BinOp} {T : Nat} {x x' y y' : AV} {F : AV->Prop} (h : x = x') (k : y = y') : ji E op T x y F = ji E op T x' y' F:=by rw [h,k]
theorem HC {E : Env} {op : BinOp} {T : Nat} {a b : Value} {F : AV->Prop} : ji E op T (.v a) (.v b) F = cM (E.isBool T) op a b F:=(rfl)
theorem yc : fJ [] = some []:=(rfl)
theorem v8 {a : Int} {l : List AV} : fJ (.v (.int .i64 a) :: l) = (fJ l).map (a :: ·):=(rfl)
theorem Lo {a b : Value} {F : Value->Value->Prop} : BM (.v a) (.v b) F = F a b:=(rfl)
@[congr] theorem PF {x x' : AV} {F : AV->Prop} (h : x = x') : pq x F = pq x' F:=by rw [h]
@[congr] theorem Ip {x x' : AV} {i : Nat} {F : AV->Prop} (h : x = x') : dn x i F = dn x' i F:=by rw [h]
theorem yV {v : AV} {l : List AV} {F : AV->Prop} : dn (.tup (v :: l)) 0 F = F v:=(rfl)
theorem yU {v : AV} {l : List AV} {i : Nat} {F : AV->Prop} : dn (.tup (v :: l)) (i + 1) F = dn (.tup l) i F:=(rfl)
noncomputable def dc (p : Prop) : Bool:=@decide p (Classical.propDecidable p)
theorem Qz : dc True = true:=by simp [dc]
theorem QA : dc False = false:=by simp [dc]
theorem dN {p : Prop} : (dc p = true) = p:=by simp [dc]
theorem bb {p : Prop} : (dc p = false) = ¬ p:=by simp [dc]
theorem ee {p : Prop} (h : dc p = true) : p:=by simpa [dc] using h
theorem fR {p : Prop} (h : dc p = false) : ¬ p:=by simpa [dc] using h
theorem nk (p : Prop) [Decidable p] : dc p = decide p:=by simp [dc]
theorem tq (b : ByteArray) : b.toList = b.data.toList:=by
 unfold ByteArray.toList
 have : ∀ (n i : Nat) (r : List UInt8),b.size - i = n->ByteArray.toList.loop b i r = r.reverse ++ b.data.toList.drop i:=by
  intro n
  induction n with
  | zero =>
    intro i r h;rw [ByteArray.toList.loop];rw [if_neg (by omega)];have : b.data.toList.length<=i:=by have : b.data.size = b.size:=rfl;simp;omega
    rw [List.drop_of_length_le this];simp
  | succ n ih =>
    intro i r h;rw [ByteArray.toList.loop];rw [if_pos (by omega),ih (i + 1) _ (by omega)];have hs : i < b.data.toList.length:=by have : b.data.size = b.size:=rfl;simp;omega
    rw [List.drop_eq_getElem_cons hs]
    have hg : b.get! i = b.data.toList[i]:=by
     show b.data[i]! = _
     have : i < b.data.size:=by simpa using hs
     rw [getElem!_pos b.data i this];simp
    rw [hg];simp
 simpa using this b.size 0 [] (by omega)
theorem Dp (a b : ByteArray) : (a.toList == b.toList) = dc (a = b):=by
 rw [tq,tq,nk];by_cases h : a = b
 ·subst h;simp
 ·have : a.data.toList≠b.data.toList:=by
   intro he
   apply h
   cases a;cases b
   simpa using he
  rw [decide_eq_false h];exact beq_eq_false_iff_ne.2 this
section bins
variable {k k' : IntKind} {a b : Int} {tb : Prop} {F : AV->Prop} {s u : ByteArray} {x y : Bool}
@[congr] theorem PK {op : BinOp} {x x' y y' : Value} (h : x = x') (h' : y = y') : cM tb op x y F = cM tb op x' y' F:=by rw [h,h']
theorem Pt : cM tb .add (.int k a) (.int k b) F = F (.v (.int k (k.wrap (a + b)))):=by simp [cM]
theorem Pf : cM tb .sub (.int k a) (.int k b) F = F (.v (.int k (k.wrap (a - b)))):=by simp [cM]
theorem Pm : cM tb .mul (.int k a) (.int k b) F = F (.v (.int k (k.wrap (a * b)))):=by simp [cM]
theorem Pk : cM tb .quo (.int k a) (.int k b) F = (b≠0/\F (.v (.int k (k.wrap (a.tdiv b))))):=by simp [cM]
theorem Pj : cM tb .rem (.int k a) (.int k b) F = (b≠0/\F (.v (.int k (a.tmod b)))):=by simp [cM]
theorem Ps : cM tb .and (.int k a) (.int k b) F = F (.v (.int k (bits .and k a b))):=by simp [cM]
theorem Q3 : cM tb .or (.int k a) (.int k b) F = F (.v (.int k (bits .or k a b))):=by simp [cM]
theorem Pe : cM tb .xor (.int k a) (.int k b) F = F (.v (.int k (bits .xor k a b))):=by simp [cM]
theorem Pi : cM tb .shl (.int k a) (.int k' b) F = (0<=b/\b<=k.bits/\F (.v (.int k (k.wrap (a * 2 ^ b.toNat))))):=by simp [cM]
theorem Pg : cM tb .shr (.int k a) (.int k' b) F = (0<=b/\b<=k.bits/\F (.v (.int k (a / 2 ^ b.toNat)))):=by simp [cM]
theorem Pn : cM tb .lss (.int k a) (.int k b) F = F (.v (.bool (dc (a < b)))):=by simp [cM,nk]
theorem Po : cM tb .leq (.int k a) (.int k b) F = F (.v (.bool (dc (a<=b)))):=by simp [cM,nk]
theorem Pp : cM tb .gtr (.int k a) (.int k b) F = F (.v (.bool (dc (b < a)))):=by simp [cM,nk]
theorem Pq : cM tb .geq (.int k a) (.int k b) F = F (.v (.bool (dc (b<=a)))):=by simp [cM,nk]
theorem Pr : cM tb .eql (.int k a) (.int k b) F = F (.v (.bool (dc (a = b)))):=by simp [cM,nk]
theorem Pl : cM tb .neq (.int k a) (.int k b) F = F (.v (.bool (!dc (a = b)))):=by simp [cM,nk]
theorem Oj (x y : Bool) : (x == y) = dc (x = y):=by cases x<;>cases y<;>simp [dc]
theorem Md : cM tb .eql (.bool x) (.bool y) F = (tb/\F (.v (.bool (dc (x = y))))):=by simp only [cM,Oj]
theorem Mc : cM tb .neq (.bool x) (.bool y) F = (tb/\F (.v (.bool (!dc (x = y))))):=by simp only [cM,Oj]
theorem Ma : cM tb .eql (.string s) (.string u) F = F (.v (.bool (dc (s = u)))):=by simp only [cM,Dp]
theorem L3 : cM tb .neq (.string s) (.string u) F = F (.v (.bool (!dc (s = u)))):=by simp only [cM,Dp]
theorem Mb : cM tb .add (.string s) (.string u) F = (s.size + u.size<=140737488355328/\F (.v (.string (s ++ u)))):=by simp [cM]
end bins
def wI2 (x y : Option (List Int)) (F : List Int->List Int->Prop) : Prop:=
 match x,y with
 | some a,some b=>F a b
 | _,_=>False
theorem It {a b : List Int} {F : List Int->List Int->Prop} : wI2 (some a) (some b) F = F a b:=(rfl)
@[congr] theorem PQ {x x' y y' : Option (List Int)} {F : List Int->List Int->Prop} (h : x = x') (k : y = y') : wI2 x y F = wI2 x' y' F:=by rw [h,k]
theorem BY {t : Nat} {l m : List AV} {F : AV->Prop} : ji ⟨P,T,w0,base⟩ .eql t (.agg l) (.agg m) F = wT (T t) λti=>ti.ieq = true/\wI2 (fJ l) (fJ m) λa b=>a.length = ti.n/\b.length = ti.n/\F (.v (.bool (dc (a = b)))):=by
 simp only [ji,BU,wT,wI2,nk];rfl
theorem BX {t : Nat} {l m : List AV} {F : AV->Prop} : ji ⟨P,T,w0,base⟩ .neq t (.agg l) (.agg m) F = wT (T t) λti=>ti.ieq = true/\wI2 (fJ l) (fJ m) λa b=>a.length = ti.n/\b.length = ti.n/\F (.v (.bool (!dc (a = b)))):=by
 simp only [ji,BU,wT,wI2,nk];rfl
theorem AS {t : Nat} : Env.isBool ⟨P,T,w0,base⟩ t = wT (T t) λti=>ti.boo = true:=by
 unfold Env.isBool wT;simp only
 cases T t<;>rfl
theorem Eh {t : Nat} : Env.isStr ⟨P,T,w0,base⟩ t = wT (T t) λti=>ti.str = true:=by
 unfold Env.isStr wT;simp only
 cases T t<;>rfl
theorem v7 {t : Nat} : Env.known ⟨P,T,w0,base⟩ t = wT (T t) λ_=>True:=by
 unfold Env.known wT;simp only
 cases T t<;>rfl
section loads
variable {h : AH} {t : Nat} {x x' y y' : AV} {F : AV->Prop} {ti : TI}
@[congr] theorem Oq (hx : x = x') : jW E h t x F = jW E h t x' F:=by rw [hx]
theorem Fy : jW ⟨P,T,w0,base⟩ h t x F = wT (T t) λti=>loadAt ti h x F:=by unfold jW wT;simp only;cases T t<;>rfl
@[congr] theorem Mo {f : Nat} (hx : x = x') : jL E t f x F = jL E t f x' F:=by rw [hx]
theorem yT {f : Nat} : jK ⟨P,T,w0,base⟩ t f x F = wT (T t) λti=>jB ti f x F:=by unfold jK wT;simp only;cases T t<;>rfl
theorem BT {f : Nat} : jL ⟨P,T,w0,base⟩ t f x F = wT (T t) λti=>fieldAt ti f x F:=by unfold jL wT;simp only;cases T t<;>rfl
@[congr] theorem QG (hx : x = x') : aCv E x F = aCv E x' F:=by rw [hx]
@[simp ↓] theorem QE {rows : List (List CD)} : aCv E (.ro rows) F = F (.ro rows):=(rfl)
@[simp ↓] theorem QD {kk sz off len : Nat} {H : Hd} : aCv E (.sl kk H sz off len) F = F (.sl kk H sz off len):=(rfl)
@[simp ↓] theorem QF {kk sz len : Nat} {H : Hd} : aCv E (.ml kk H sz len) F = F (.ml kk H sz len):=(rfl)
@[simp ↓] theorem PI : aCv E .nil F = F .nil:=(rfl)
@[congr] theorem KN (hx : x = x') (hy : y = y') : indexAt ti x y F = indexAt ti x' y' F:=by rw [hx,hy]
theorem QV {rows : List (List CD)} {k : IntKind} {n : Int} : indexAt ti (.ro rows) (.v (.int k n)) F = (0<=n/\n < rows.length/\∀ row,rows[n.toNat]? = some row->row.length = ti.n/\F (.rp row)):=(rfl)
theorem QU {kk sz off len : Nat} {H : Hd} {k : IntKind} {n : Int} : indexAt ti (.sl kk H sz off len) (.v (.int k n)) F = (0<=n/\n < len/\sz = ti.n/\F (.e kk H sz (off + n.toNat) 0)):=(rfl)
theorem QW {kk sz len : Nat} {H : Hd} {k : IntKind} {n : Int} : indexAt ti (.ml kk H sz len) (.v (.int k n)) F = (0<=n/\n < len/\sz = ti.n/\F (.e kk H sz n.toNat 0)):=(rfl)
@[congr] theorem PG (hx : x = x') : lL E t x F = lL E t x' F:=by rw [hx]
theorem QR {rows : List (List CD)} : lL E t (.ro rows) F = cu E t λ_ _=>F (.v (.int .i64 rows.length)):=(rfl)
theorem QQ {kk sz off len : Nat} {H : Hd} : lL E t (.sl kk H sz off len) F = cu E t λ_ _=>F (.v (.int .i64 len)):=(rfl)
theorem QT {u : Value} {len : Nat} : lL E t (.cv u len) F = cu E t λ_ _=>F (.v (.int .i64 len)):=(rfl)
theorem QS {kk sz len : Nat} {H : Hd} : lL E t (.ml kk H sz len) F = cu E t λ_ _=>F (.v (.int .i64 len)):=(rfl)
theorem O8 : lL E t .nil F = cu E t λ_ _=>F (.v (.int .i64 0)):=(rfl)
theorem L0 : lL E t (.v (.slice none 0 0)) F = cu E t λ_ _=>F (.v (.int .i64 0)):=(rfl)
theorem O7 {s : ByteArray} : lL E t (.v (.string s)) F = (E.isStr t/\F (.v (.int .i64 s.size))):=(rfl)
@[congr] theorem Kz {row row' : List CD} (hr : row = row') : dp ti row F = dp ti row' F:=by rw [hr]
@[congr] theorem Mi (hx : x = x') : loadAt ti h x F = loadAt ti h x' F:=by rw [hx]
theorem QY {row : List CD} : loadAt ti h (.rp row) F = dp ti row F:=(rfl)
theorem Am {row : List CD} (ha : ti.agg = true) : dp ti row F = (ti.n<=row.length/\F (.agg ((row.take ti.n).map toAV))):=by simp [dp,ha]
theorem An {d : CD} {row : List CD} (ha : ti.agg = false) : dp ti (d :: row) F = F (toAV d):=by simp [dp,ha]
theorem xU {c : Nat} {cells : List AV} (ha : ti.agg = true) : fI ti cells c F = (c + ti.n<=cells.length/\F (.agg ((cells.drop c).take ti.n))):=by simp [fI,ha]
theorem xV {c : Nat} {cells : List AV} (ha : ti.agg = false) : fI ti cells c F = dn (.tup cells) c F:=by
 simp only [fI,ha,dn];rfl
def wV (o : AObj) (F : Nat->List AV->Prop) : Prop:=
 match o with
 | .vars b _ cells=>F b cells
 | _=>False
def wVT (o : AObj) (F : Nat->TypeId->List AV->Prop) : Prop:=
 match o with
 | .vars b t cells=>F b t cells
 | _=>False
def wR (o : AObj) (F : Hd->Nat->List (List CD)->Bool->Prop) : Prop:=
 match o with
 | .rows H sz rows own=>F H sz rows own
 | _=>False
def wRL (o : AObj) (F : Hd->Nat->List (List CD)->Bool->Prop) (G : Hd->Nat->List (List CD)->Prop) : Prop:=
 match o with
 | .rows H sz rows own=>F H sz rows own
 | .lent H sz rows=>G H sz rows
 | _=>False
def wRP (o : AObj) (F : Hd->Nat->List (List CD)->Bool->Prop) (G : Hd->Nat->List (List CD)->Nat->Prop) : Prop:=
 match o with
 | .rows H sz rows own=>F H sz rows own
 | .part H sz rows lo=>G H sz rows lo
 | _=>False
@[congr] theorem PP {o o' : AObj} {F : Hd->Nat->List (List CD)->Bool->Prop} {G : Hd->Nat->List (List CD)->Prop} (h : o = o') : wRL o F G = wRL o' F G:=by rw [h]
@[congr] theorem PO {o o' : AObj} {F : Hd->Nat->List (List CD)->Bool->Prop} {G : Hd->Nat->List (List CD)->Nat->Prop} (h : o = o') : wRP o F G = wRP o' F G:=by rw [h]
theorem Mw {H : Hd} {sz : Nat} {rows : List (List CD)} {own : Bool} {F : Hd->Nat->List (List CD)->Bool->Prop} {G : Hd->Nat->List (List CD)->Prop} : wRL (.rows H sz rows own) F G = F H sz rows own:=(rfl)
theorem Mx {H : Hd} {sz : Nat} {rows : List (List CD)} {F : Hd->Nat->List (List CD)->Bool->Prop} {G : Hd->Nat->List (List CD)->Prop} : wRL (.lent H sz rows) F G = G H sz rows:=(rfl)
theorem Mu {H : Hd} {sz : Nat} {rows : List (List CD)} {own : Bool} {F : Hd->Nat->List (List CD)->Bool->Prop} {G : Hd->Nat->List (List CD)->Nat->Prop} : wRP (.rows H sz rows own) F G = F H sz rows own:=(rfl)
theorem Mv {H : Hd} {sz lo : Nat} {rows : List (List CD)} {F : Hd->Nat->List (List CD)->Bool->Prop} {G : Hd->Nat->List (List CD)->Nat->Prop} : wRP (.part H sz rows lo) F G = G H sz rows lo:=(rfl)
theorem Eu {H : Hd} {sz n : Nat} {rows : List (List CD)} : uA true H sz rows n = .part H sz rows n:=(rfl)
theorem Ev {H : Hd} {sz n : Nat} {rows : List (List CD)} : uA false H sz rows n = .dead:=(rfl)
theorem Ao {ds : List CD} {h : AH} : lendL [] ds h = h:=(rfl)
theorem xX {a : AV} {l : List AV} {d : CD} {ds : List CD} {h : AH} : lendL (a :: l) (d :: ds) h = lendL l ds (oN a d h):=(rfl)
theorem GL {u : Value} {d : CD} {h : AH} : oN (.v u) d h = h:=(rfl)
theorem Aq {d : CD} {h : AH} : oN .nil d h = h:=(rfl)
theorem DV {r : List (List CD)} {d : CD} {h : AH} : oN (.ro r) d h = h:=(rfl)
theorem DU {k sz len : Nat} {H : Hd} {rows : List (List CD)} {h : AH} : oN (.sl k H sz 0 len) (.s rows) h = (k,.lent H sz rows) :: h:=(rfl)
theorem Ap {k sz len n : Nat} {H : Hd} {d : CD} {h : AH} : oN (.sl k H sz (n + 1) len) d h = h:=(rfl)
@[congr] theorem Q6 {o o' : AObj} {F : Nat->List AV->Prop} (h : o = o') : wV o F = wV o' F:=by rw [h]
@[congr] theorem PM {o o' : AObj} {F : Nat->TypeId->List AV->Prop} (h : o = o') : wVT o F = wVT o' F:=by rw [h]
@[congr] theorem Q8 {o o' : AObj} {F : Hd->Nat->List (List CD)->Bool->Prop} (h : o = o') : wR o F = wR o' F:=by rw [h]
theorem PL {b : Nat} {t : TypeId} {c : List AV} {F : Nat->List AV->Prop} : wV (.vars b t c) F = F b c:=(rfl)
theorem Mt {b : Nat} {t : TypeId} {c : List AV} {F : Nat->TypeId->List AV->Prop} : wVT (.vars b t c) F = F b t c:=(rfl)
theorem PN {H : Hd} {sz : Nat} {rows : List (List CD)} {own : Bool} {F : Hd->Nat->List (List CD)->Bool->Prop} : wR (.rows H sz rows own) F = F H sz rows own:=(rfl)
theorem D_p {k b c : Nat} : loadAt ti h (.p k b c) F = wV (h.get k) λb' cells=>b = b'/\fI ti cells c F:=by
 simp only [loadAt,wV]
 cases h.get k<;>rfl
theorem D_e {k sz r c : Nat} {H : Hd} : loadAt ti h (.e k H sz r c) F = wRL (h.get k) (λH' sz' rows _=>H = H'/\sz = sz'/\r < rows.length/\∀ row,rows[r]? = some row->dp ti (row.drop c) F) (λH' sz' rows=>H = H'/\sz = sz'/\r < rows.length/\∀ row,rows[r]? = some row->dp ti (row.drop c) F):=by
 simp only [loadAt,wRL]
 cases h.get k<;>rfl
def wF (o : Option (Nat × Nat)) (F : Nat->Nat->Prop) : Prop:=
 match o with
 | some (a,b)=>F a b
 | none=>False
@[congr] theorem Ra {o o' : Option (Nat × Nat)} {F : Nat->Nat->Prop} (h : o = o') : wF o F = wF o' F:=by rw [h]
theorem FX {a b : Nat} {F : Nat->Nat->Prop} : wF (some (a,b)) F = F a b:=(rfl)
@[congr] theorem Ml {f : Nat} (hx : x = x') : jB ti f x F = jB ti f x' F:=by rw [hx]
def wO (o : Option AV) (F : AV->Prop) : Prop:=
 match o with
 | some v=>F v
 | none=>False
@[congr] theorem Q9 {o o' : Option AV} (h : o = o') : wO o F = wO o' F:=by rw [h]
theorem FW {v : AV} : wO (some v) F = F v:=(rfl)
def wFV (o : Option (Nat × Nat)) (b : Option Bool) (l : List AV) (F : AV->Prop) : Prop:=
 match o,b with
 | some (off,n),some true=>off + n<=l.length/\F (.agg ((l.drop off).take n))
 | some (off,_),some false=>wO l[off]? F
 | _,_=>False
@[congr] theorem PR {o o' : Option (Nat × Nat)} {b b' : Option Bool} {l l' : List AV} (h : o = o') (hb : b = b') (hl : l = l') : wFV o b l F = wFV o' b' l' F:=by rw [h,hb,hl]
theorem My {off n : Nat} {l : List AV} : wFV (some (off,n)) (some true) l F = (off + n<=l.length/\F (.agg ((l.drop off).take n))):=(rfl)
theorem Mz {off n : Nat} {l : List AV} : wFV (some (off,n)) (some false) l F = wO l[off]? F:=(rfl)
theorem L1 {f : Nat} {l : List AV} : jB ti f (.agg l) F = wFV (ti.fields[f]?) (ti.fagg[f]?) l F:=by
 simp only [jB,wFV]
 cases h1 : ti.fields[f]? with
 | none=>rfl
 | some q =>
   cases h2 : ti.fagg[f]? with
   | none=>rfl
   | some b =>
     obtain ⟨off,n⟩:=q
     cases b with
     | false=>simp only [Bool.false_eq_true,if_false,wO];cases l[off]?<;>rfl
     | true=>simp only [if_true]
@[congr] theorem K7 {f : Nat} (hx : x = x') : fieldAt ti f x F = fieldAt ti f x' F:=by rw [hx]
theorem F_p {f k b c : Nat} : fieldAt ti f (.p k b c) F = wF (ti.fields[f]?) λoff _=>F (.p k b (c + off)):=by
 simp only [fieldAt,wF];cases ti.fields[f]?<;>rfl
theorem F_e {f k sz r c : Nat} {H : Hd} : fieldAt ti f (.e k H sz r c) F = wF (ti.fields[f]?) λoff _=>F (.e k H sz r (c + off)):=by
 simp only [fieldAt,wF];cases ti.fields[f]?<;>rfl
theorem QX {f : Nat} {row : List CD} : fieldAt ti f (.rp row) F = wF (ti.fields[f]?) λoff _=>off<=row.length/\F (.rp (row.drop off)):=by
 simp only [fieldAt,wF];cases ti.fields[f]?<;>rfl
theorem Jh {u : Value} : toAV (.v u) = .v u:=(rfl)
theorem Ji {r : List (List CD)} : toAV (.s r) = .ro r:=(rfl)
theorem Jj {k sz len : Nat} {H : Hd} : toAV (.h k H sz len) = .ml k H sz len:=(rfl)
theorem Jg {u : Value} : xn (.v u) = .v u:=(rfl)
theorem Cl : xn .nil = .s []:=(rfl)
@[congr] theorem Ov {s d : Nat} (hx : x = x') : pa E s d x F = pa E s d x' F:=by rw [hx]
@[congr] theorem Mp {s d : Nat} {h : AH} (hx : x = x') : gE E h s d x F = gE E h s d x' F:=by rw [hx]
def Fr (o : Option IntKind) (F : IntKind->Prop) : Prop:=
 match o with
 | some k=>F k
 | none=>False
@[congr] theorem PA {o o' : Option IntKind} {F : IntKind->Prop} (h : o = o') : Fr o F = Fr o' F:=by rw [h]
theorem BI {k : IntKind} {F : IntKind->Prop} : Fr (some k) F = F k:=(rfl)
theorem Pa {s d : Nat} {k : IntKind} {n : Int} : pa ⟨P,T,w0,base⟩ s d (.v (.int k n)) F = ((wT (T s) λ_=>True)/\wT (T d) λti=>Fr ti.kind λk'=>F (.v (.int k' (k'.wrap n)))):=by
 simp only [pa,v7]
 congr 1
 unfold wT Fr
 cases T d with
 | none=>rfl
 | some ti=>simp only;cases ti.kind<;>rfl
theorem QZ {s d : Nat} {h : AH} {u : Value} : gE ⟨P,T,w0,base⟩ h s d (.v u) F = pa ⟨P,T,w0,base⟩ s d (.v u) F:=(rfl)
theorem Pd {s d : Nat} {h : AH} {rows : List (List CD)} : gE ⟨P,T,w0,base⟩ h s d (.ro rows) F = u7 ⟨P,T,w0,base⟩ s d rows F:=(rfl)
theorem Pc {s d k sz off len : Nat} {H : Hd} {h : AH} : gE ⟨P,T,w0,base⟩ h s d (.sl k H sz off len) F = wR (h.get k) λH' sz' rows _=>H = H'/\sz = sz'/\off + len<=rows.length/\u7 ⟨P,T,w0,base⟩ s d (cut rows off len) F:=by
 simp only [gE,wR];cases h.get k<;>rfl
theorem Pb {s d : Nat} {rows : List (List CD)} : u7 ⟨P,T,w0,base⟩ s d rows F = (Env.isStr ⟨P,T,w0,base⟩ d/\wT (T s) λti=>wE ti.sl λe=>wT (T e) λte=>te.kind = some .u8/\∃ l : List UInt8,rows = l.map es/\F (.v (.string ⟨l.toArray⟩))):=by
 simp only [u7,wG]
end loads
end
open Go.RowKit
section
variable {P : Program} {T : Nat->Option TI} {w0 : World} {base : Bs} {E : Env} {Q : Exit->ASt->Prop} {K : ASt->Prop} {st : ASt}
theorem By {l : List AV} : AV.cells (.agg l) = l:=(rfl)
theorem Hi {u : Value} : AV.cells (.v u) = [.v u]:=(rfl)
theorem Bw : AV.cells .nil = [.nil]:=(rfl)
theorem Fc {r : List (List CD)} : AV.cells (.ro r) = [.ro r]:=(rfl)
theorem Fb {k sz off len : Nat} {H : Hd} : AV.cells (.sl k H sz off len) = [.sl k H sz off len]:=(rfl)
theorem Hj {k b c : Nat} : AV.cells (.p k b c) = [.p k b c]:=(rfl)
theorem Bx {f : Nat} {l : List AV} : AV.cells (.clo f l) = [.clo f l]:=(rfl)
theorem Fe {u : Value} {len : Nat} : AV.cells (.cv u len) = [.cv u len]:=(rfl)
theorem Fd {k sz len : Nat} {H : Hd} : AV.cells (.ml k H sz len) = [.ml k H sz len]:=(rfl)
theorem Kp {u : Value} {len : Nat} : AV.one (.cv u len) = true:=(rfl)
theorem Ko {k sz len : Nat} {H : Hd} : AV.one (.ml k H sz len) = true:=(rfl)
theorem NB {u : Value} : AV.one (.v u) = true:=(rfl)
theorem Gw : AV.one .nil = true:=(rfl)
theorem Kn {r : List (List CD)} : AV.one (.ro r) = true:=(rfl)
theorem Km {k sz off len : Nat} {H : Hd} : AV.one (.sl k H sz off len) = true:=(rfl)
theorem NC {k b c : Nat} : AV.one (.p k b c) = true:=(rfl)
theorem Gx {f : Nat} {l : List AV} : AV.one (.clo f l) = true:=(rfl)
theorem Gy {l : List CD} : (l.map toAV).all AV.one = true:=by
 induction l with
 | nil=>rfl
 | cons d l ih=>cases d<;>simpa [toAV,AV.one] using ih
theorem DC {α : Type} {l : List α} {i : Nat} : eb l i [] = l:=by cases l<;>rfl
theorem Kc {α : Type} {x v : α} {l vs : List α} : eb (x :: l) 0 (v :: vs) = v :: eb l 0 vs:=(rfl)
theorem Kb {α : Type} {x v : α} {l vs : List α} {c : Nat} : eb (x :: l) (c + 1) (v :: vs) = x :: eb l c (v :: vs):=(rfl)
section fr
variable {h : AH} {x x' y y' : AV} {t : Nat} {F : CD->AH->Bool->Prop} {G : List CD->AH->Bool->Prop}
@[congr] theorem PH (hx : x = x') : kW h x F = kW h x' F:=by rw [hx]
theorem Z_v {u : Value} : kW h (.v u) F = F (.v u) h true:=(rfl)
theorem Ox : kW h .nil F = F (.s []) h true:=(rfl)
theorem QH {r : List (List CD)} : kW h (.ro r) F = F (.s r) h false:=(rfl)
theorem Ls {k sz off len : Nat} {H : Hd} : kW h (.sl k H sz off len) F = wR (h.get k) λH' sz' rows own=>H = H'/\sz = sz'/\off + len<=rows.length/\F (.s (cut rows off len)) ((k,.dead) :: h) own:=by
 simp only [kW,wR];cases h.get k<;>rfl
@[congr] theorem Ot {l l' : List AV} (hx : l = l') : fT h l G = fT h l' G:=by rw [hx]
theorem Lt : fT h [] G = G [] h true:=(rfl)
theorem HD {a : AV} {l : List AV} : fT h (a :: l) G = kW h a λd h' o=>fT h' l λds h'' o'=>G (d :: ds) h'' (o && o'):=(rfl)
theorem He {α : Type} {rows : List α} : cut rows 0 rows.length = rows:=by simp [cut]
theorem pE {α : Type} {rows : List α} {n : Nat} (h : n = rows.length) : cut rows 0 n = rows:=by simp [cut,h]
@[congr] theorem Mm (hx : x = x') (hy : y = y') : iY E st t x y K = iY E st t x' y' K:=by rw [hx,hy]
theorem W_p {k b c : Nat} : iY ⟨P,T,w0,base⟩ st t (.p k b c) y K = wT (T t) λti=>y.cells.length = ti.n/\(y.cells.all AV.one) = true/\wVT (st.h.get k) λb' T' cells=>b = b'/\c + y.cells.length<=cells.length/\K { st with h:=(k,.vars b T' (eb cells c y.cells)) :: st.h }:=by
 simp only [iY,wT,wVT]
 cases T t with
 | none=>rfl
 | some ti=>simp only;cases st.h.get k<;>rfl
theorem W_e {k sz r c : Nat} {H : Hd} : iY ⟨P,T,w0,base⟩ st t (.e k H sz r c) y K = wT (T t) λti => y.cells.length = ti.n /\ (y.cells.all AV.one) = true /\ fT st.h y.cells λds h o => wR (h.get k) λH' sz' rows own => H = H' /\ sz = sz' /\ r < rows.length /\ c + ds.length <= sz /\
 K { st with h:=lendL y.cells ds ((k,.rows H sz (if c = 0/\ds.length = sz then rows.set r ds else rows.modify r λrow=>eb row c ds) (own && o)) :: h) }:=by
 simp only [iY,wT]
 cases T t with
 | none=>rfl
 | some ti =>
   simp only;rfl
@[congr] theorem Mq {l l' : List (Nat × AV)} {F : AV->Prop} (hl : l = l') : iZ E t l F = iZ E t l' F:=by rw [hl]
theorem BW {l : List (Nat × AV)} {F : AV->Prop} : iZ ⟨P,T,w0,base⟩ t l F = wT (T t) λti=>ti.agg = true/\iA ti.fields ti.zero l λl=>F (.agg l):=by
 simp only [iZ,wT];cases T t<;>rfl
@[congr] theorem Oe {fs : List (Nat × Nat)} {cells cells' : List AV} {l l' : List (Nat × AV)} {F : List AV->Prop} (hc : cells = cells') (hl : l = l') : iA fs cells l F = iA fs cells' l' F:=by rw [hc,hl]
theorem Bf {fs : List (Nat × Nat)} {cells : List AV} {F : List AV->Prop} : iA fs cells [] F = F cells:=(rfl)
theorem yw {fs : List (Nat × Nat)} {cells : List AV} {i : Nat} {v : AV} {l : List (Nat × AV)} {F : List AV->Prop} : iA fs cells ((i,v) :: l) F = wF (fs[i]?) λoff n=>v.cells.length = n/\off + n<=cells.length/\(v.cells.all AV.one) = true/\iA fs (eb cells off v.cells) l F:=by
 simp only [iA,wF];cases fs[i]?<;>rfl
variable {R : List (List CD)->AH->Bool->Prop} {te : TI}
@[congr] theorem On (hx : x = x') : iG te h x R = iG te h x' R:=by rw [hx]
theorem O6 : iG te h .nil R = R [] h true:=(rfl)
theorem QP {rows : List (List CD)} : iG te h (.ro rows) R = ((∀ row∈rows,row.length = te.n)/\(te.pln = true->∀ row∈rows,∀ d∈row,isV d = true)/\R rows h te.pln):=(rfl)
theorem O5 {k sz off len : Nat} {H : Hd} (hp : te.pln = true) : iG te h (.sl k H sz off len) R = wR (h.get k) λH' sz' rows _=>H = H'/\sz = sz'/\sz = te.n/\off + len<=rows.length/\(∀ row∈rows,∀ d∈row,isV d = true)/\R (cut rows off len) h true:=by
 simp only [iG,wR,hp];cases h.get k<;>simp
theorem QO {k sz off len : Nat} {H : Hd} (hp : te.pln = false) : iG te h (.sl k H sz off len) R = wRP (h.get k) (λH' sz' rows own=>H = H'/\sz = sz'/\sz = te.n/\off + len<=rows.length/\R (cut rows off len) ((k,uA own H sz rows (off + len)) :: h) own) (λH' sz' rows lo=>H = H'/\sz = sz'/\sz = te.n/\off + len<=rows.length/\lo<=off/\R (cut rows off len) ((k,.part H sz rows (off + len)) :: h) true):=by
 simp only [iG,wRP,hp];cases h.get k<;>simp
variable {dst : Option Nat}
@[congr] theorem Lr (hx : x = x') (hy : y = y') : eK E st dst t x y K = eK E st dst t x' y' K:=by rw [hx,hy]
theorem Pv : eK E st dst t .nil x K = cu E t λ_ te => 0 < te.bytes /\ 0 < te.n /\ iG te st.h x λnews h o => news.length * te.bytes <= 140737488355328 /\
        ∀ H,aT { st with h:=(st.key dst,.rows H te.n news o) :: h } dst (.sl (st.key dst) H te.n 0 news.length) K:=(rfl)
theorem Q4 {k sz off len : Nat} {H0 : Hd} : eK E st dst t (.sl k H0 sz off len) x K = cu E t λ_ te => 0 < te.bytes /\ 0 < te.n /\ iG te st.h x λnews h o => wR (h.get k) λH' sz' rows own => H0 = H' /\ sz = sz' /\ sz = te.n /\ off = 0 /\ len = rows.length /\ (len + news.length) * te.bytes <= 140737488355328 /\
 ∀ H,aT { st with h:=(k,.rows H te.n (rows ++ news) (own && o)) :: h } dst (.sl k H te.n 0 (len + news.length)) K:=by
 unfold eK;rfl
theorem Mf : eK E st dst t (.v (.slice none 0 0)) x K = eK E st dst t .nil x K:=(rfl)
theorem Q5 {k sz len : Nat} {H0 : Hd} (h0 : 0 < len) : eK E st dst t (.ml k H0 sz len) x K = eK E st dst t (.sl k H0 sz 0 len) x K:=by simp only [eK,AV.norm,if_pos (MlS.pos h0)]
@[congr] theorem Om {l l' : List (Nat × AV)} {i : Nat} (hl : l = l') : l9 te h l i R = l9 te h l' i R:=by rw [hl]
theorem OV {i : Nat} : l9 te h [] i R = R [] h true:=(rfl)
theorem LO {i j : Nat} {v : AV} {l : List (Nat × AV)} : l9 te h ((j,v) :: l) i R = (j = i/\v.cells.length = te.n/\(v.cells.all AV.one) = true/\fT h v.cells λds h' o=>l9 te h' l (i + 1) λrs h'' o'=>R (ds :: rs) h'' (o && o')):=(rfl)
@[congr] theorem FA {len : Nat} {l l' : List (Nat × AV)} (hl : l = l') : fu E st dst t len l K = fu E st dst t len l' K:=by rw [hl]
theorem rt {len : Nat} {l : List (Nat × AV)} : fu E st dst t len l K = cu E t λ_ te=>0 < te.n/\len = l.length/\len * te.n<=16777216/\l9 te st.h l 0 λrs h o=>
 ∀ b,aT { st with h:=(st.key dst,.rows (some (b,0,len)) te.n rs o) :: h } dst (.sl (st.key dst) (some (b,0,len)) te.n 0 len) K:=(rfl)
@[congr] theorem Oo (hx : x = x') (hy : y = y') : tB E st dst t x y K = tB E st dst t x' y' K:=by rw [hx,hy]
theorem Fx {n m : Int} : tB E st dst t (.v (.int .i64 n)) (.v (.int .i64 m)) K = cu E t λ_ te => 0 < te.n /\ 0 < te.bytes /\ n = m /\ 0 <= n /\ n * te.bytes <= 140737488355328 /\
        ∀ b,aT { st with h:=(st.key dst,.rows (some (b,0,n.toNat)) te.n (List.replicate n.toNat (te.zero.map xn)) true) :: st.h } dst (.sl (st.key dst) (some (b,0,n.toNat)) te.n 0 n.toNat) K:=(rfl)
theorem B0 : ox ⟨P,T,w0,base⟩ st dst t K = wT (T t) λti=>∀ b,aT { st with h:=(st.key dst,.vars b t ti.zero) :: st.h } dst (.p (st.key dst) b 0) K:=by
 simp only [ox,wT];cases T t<;>rfl
@[congr] theorem PJ (hx : x = x') : xa E st dst t x K = xa E st dst t x' K:=by rw [hx]
theorem HA : xa ⟨P,T,w0,base⟩ st dst t x K = wT (T t) λ_=>(x.cells.all AV.one) = true/\∀ b,aT { st with h:=(st.key dst,.vars b t x.cells) :: st.h } dst (.p (st.key dst) b 0) K:=by
 simp only [xa,wT];cases T t<;>rfl
@[congr] theorem Mn {lo lo' hi hi' : Option AV} {F : AV->Prop} (hx : x = x') (hl : lo = lo') (hh : hi = hi') : fO E t x lo hi F = fO E t x' lo' hi' F:=by rw [hx,hl,hh]
theorem LM {rows : List (List CD)} {lo : Option AV} {hv mx : AV} {F : AV->Prop} : nr E t (.ro rows) lo (some hv) mx F = cu E t λ_ te=>(∀ row∈rows,row.length = te.n)/\dr (some hv) 0 λh=>dr (some mx) 0 λm=>h<=m/\m<=rows.length/\dr lo 0 λl=>l<=h/\F (.ro (cut rows l (h - l))):=(rfl)
theorem OR {rows : List (List CD)} {lo hi : Option AV} {F : AV->Prop} : fO E t (.ro rows) lo hi F = cu E t λ_ te=>(∀ row∈rows,row.length = te.n)/\dr hi rows.length λh=>h<=rows.length/\dr lo 0 λl=>l<=h/\F (.ro (cut rows l (h - l))):=(rfl)
theorem OQ {k sz off len : Nat} {H : Hd} {lo hi : Option AV} {F : AV->Prop} : fO E t (.sl k H sz off len) lo hi F = cu E t λ_ te=>sz = te.n/\dr hi len λh=>h<=len/\dr lo 0 λl=>l<=h/\F (.sl k H sz (off + l) (h - l)):=(rfl)
theorem OS {k sz len : Nat} {H : Hd} {lo hi : Option AV} {F : AV->Prop} (h0 : 0 < len) : fO E t (.ml k H sz len) lo hi F = fO E t (.sl k H sz 0 len) lo hi F:=by simp only [fO,AV.norm,if_pos (MlS.pos h0)]
theorem LL {s : ByteArray} {lo hi : Option AV} {F : AV->Prop} : fO E t (.v (.string s)) lo hi F = (E.isStr t/\dr hi s.size λh=>h<=s.size/\dr lo 0 λl=>l<=h/\F (.v (.string (s.extract l h)))):=(rfl)
theorem yI {z : Nat} {F : Nat->Prop} : dr none z F = F z:=(rfl)
theorem BA {z : Nat} {F : Nat->Prop} {k : IntKind} {n : Int} : dr (some (.v (.int k n))) z F = (0<=n/\F n.toNat):=(rfl)
end fr
section calls
variable {h : AH} {x : AV} {R : Value->CD->Prop}
theorem Qs {u : Value} {d : CD} : aIn R h (.v u) d = (d = .v u):=(rfl)
theorem KO {d : CD} : aIn R h .nil d = (d = .s []):=(rfl)
theorem NW {r : List (List CD)} {d : CD} : aIn R h (.ro r) d = (d = .s r):=(rfl)
theorem NV {k sz off len : Nat} {H : Hd} {d : CD} : aIn R h (.sl k H sz off len) d = wRL (h.get k) (λH' sz' rows _=>H = H'/\sz = sz'/\off + len<=rows.length/\d = .s (cut rows off len)) (λH' sz' rows=>H = H'/\sz = sz'/\off = 0/\len = rows.length/\d = .s rows):=by
 simp only [aIn,wRL];cases h.get k<;>rfl
theorem NY {u : Value} {len : Nat} {d : CD} : aIn R h (.cv u len) d = R u d:=(rfl)
theorem NX {k sz len : Nat} {H : Hd} {d : CD} : aIn R h (.ml k H sz len) d = wR (h.get k) λH' sz' rows _=>H = H'/\sz = sz'/\len = rows.length/\d = .s rows:=by
 simp only [aIn,wR];cases h.get k<;>rfl
theorem GV : rm R h [] [] = True:=(rfl)
theorem Em {a : AV} {l : List AV} {d : CD} {ds : List CD} : rm R h (a :: l) (d :: ds) = (aIn R h a d/\rm R h l ds):=(rfl)
theorem NZ {a : AV} {d : CD} : yR R h a (.c d) = aIn R h a d:=(rfl)
theorem GU {l : List AV} {ds : List CD} : yR R h (.agg l) (.agg ds) = rm R h l ds:=(rfl)
theorem El : kU R h [] [] = True:=(rfl)
theorem A2 {a : AV} {l : List AV} {d : VD} {ds : List VD} : kU R h (a :: l) (d :: ds) = (yR R h a d/\kU R h l ds):=(rfl)
variable {key : Nat}
theorem KK {u : Value} {sz : Nat} {F : AV->AH->Prop} : oQ h key (.v u,sz) F = F (.v u) h:=(rfl)
theorem KM {rows : List (List CD)} {sz : Nat} {F : AV->AH->Prop} : oQ h key (.s rows,sz) F = ∀ H,F (.sl key H sz 0 rows.length) ((key,.rows H sz rows true) :: h):=(rfl)
theorem Az {F : List AV->AH->Nat->Prop} : oS h key [] F = F [] h key:=(rfl)
theorem xZ {t : CD × Nat} {ts : List (CD × Nat)} {F : List AV->AH->Nat->Prop} : oS h key (t :: ts) F = oQ h key t λv h'=>oS h' (key + 1) ts λl h'' key'=>F (v :: l) h'' key':=(rfl)
theorem GO {d : CD} {sz : Nat} {F : AV->AH->Nat->Prop} : mU h key (.c d sz) F = oQ h key (d,sz) λv h'=>F v h' (key + 1):=(rfl)
theorem Aw {ts : List (CD × Nat)} {F : AV->AH->Nat->Prop} : mU h key (.agg ts) F = oS h key ts λl h' key'=>F (.agg l) h' key':=(rfl)
theorem xY {F : List AV->AH->Prop} : kn h key [] F = F [] h:=(rfl)
theorem v3 {r : RV} {rs : List RV} {F : List AV->AH->Prop} : kn h key (r :: rs) F = mU h key r λv h' key'=>kn h' key' rs λl h''=>F (v :: l) h'':=(rfl)
theorem Ay {r : RV} {F : AV->AH->Prop} : sW h key (.one r) F = mU h key r λv h' _=>F v h':=(rfl)
theorem Ax {rs : List RV} {F : AV->AH->Prop} : sW h key (.tup rs) F = kn h key rs λl h'=>F (.tup l) h':=(rfl)
variable {F : AH->Prop} {t : CD × Nat}
@[congr] theorem PE {x' : AV} (hx : x = x') : po h x t F = po h x' t F:=by rw [hx]
theorem Nz {u : Value} : po h (.v u) t F = (t.1 = .v u/\F h):=(rfl)
theorem Gr : po h .nil t F = (t.1 = .s []/\0 < t.2/\F h):=(rfl)
theorem Ki {k sz off len : Nat} {H : Hd} : po h (.sl k H sz off len) t F = wR (h.get k) λH' sz' rows own=>H = H'/\sz = sz'/\t.2 = sz/\0 < sz/\own = true/\off + len<=rows.length/\(∀ row∈rows,row.length = sz)/\t.1 = .s (cut rows off len)/\F ((k,.dead) :: h):=by
 simp only [po,wR];cases h.get k<;>rfl
theorem DI : o7 h [] [] F = F h:=(rfl)
theorem Af {a : AV} {l : List AV} {ts : List (CD × Nat)} : o7 h (a :: l) (t :: ts) F = po h a t λh'=>o7 h' l ts F:=(rfl)
theorem Kj {d : CD} {sz : Nat} : ns h x (.c d sz) F = po h x (d,sz) F:=(rfl)
theorem DH {l : List AV} {ts : List (CD × Nat)} : ns h (.agg l) (.agg ts) F = o7 h l ts F:=(rfl)
theorem Ae : jJ h [] [] F = F h:=(rfl)
theorem xI {a : AV} {l : List AV} {r : RV} {rs : List RV} : jJ h (a :: l) (r :: rs) F = ns h a r λh'=>jJ h' l rs F:=(rfl)
theorem Gl {L : List AV->Prop} : dm E st [] L = L []:=(rfl)
theorem Gk {i : Nat} {rs : List ResultVar} {L : List AV->Prop} : dm E st (.tmp i :: rs) L = dm E st rs λl=>L (aE st.t i :: l):=(rfl)
theorem Dy {i : Nat} {t : TypeId} {rs : List ResultVar} {L : List AV->Prop} : dm E st (.cell i t :: rs) L = jW E st.h t (aE st.t i) λv=>dm E st rs λl=>L (v :: l):=(rfl)
theorem Gj {r : RV} : rL h (.one r) [x] = ns h x r λ_=>True:=(rfl)
theorem Gi {rs : List RV} {l : List AV} : rL h (.tup rs) l = (l.length≠1/\jJ h l rs λ_=>True):=(rfl)
variable {rs : List ResultVar} {rr : RR}
theorem Lk : oX E rs rr .normal st = dm E st rs (rL st.h rr):=(rfl)
theorem Lj : oX E rs rr .ret st = dm E st rs (rL st.h rr):=(rfl)
theorem Kx {β : Type} {Inv : β->Prop} {I : β->ASt} {μ : β->Nat} {x : β} : zx Inv I μ x Q .normal st = ∃ x',Inv x'/\μ x' < μ x/\se st (I x'):=(rfl)
theorem Kw {β : Type} {Inv : β->Prop} {I : β->ASt} {μ : β->Nat} {x : β} : zx Inv I μ x Q .ret st = Q .ret st:=(rfl)
theorem Ky {β : Type} {Inv : β->Prop} {I : β->ASt} {μ : β->Nat} {x : β} {i : Nat} : zx Inv I μ x Q (.exit i) st = Q (.exit i) st:=(rfl)
end calls
end
section weak
def wkT (t : List (Nat × AV)) : List (Nat × AV)->Prop
 | []=>True
 | (i,v) :: l=>fv (aE t i) v/\wkT t l
def wkH (h : AH) : AH->Prop
 | []=>True
 | (i,o) :: l=>dP (h.get i) o/\wkH h l
theorem xh {t : List (Nat × AV)} : ∀ l : List (Nat × AV),(∀ p∈l,fv (aE t p.1) p.2) = wkT t l
 | []=>by simp [wkT]
 | (i,v) :: l=>by simp only [List.mem_cons,forall_eq_or_imp,wkT,xh l]
theorem pH {h : AH} : ∀ l : AH,(∀ p∈l,dP (h.get p.1) p.2) = wkH h l
 | []=>by simp [wkH]
 | (i,v) :: l=>by simp only [List.mem_cons,forall_eq_or_imp,wkH,pH l]
theorem FU {n kb n' kb' : Nat} {t t' : List (Nat × AV)} {h h' : AH} : se ⟨n,kb,t,h⟩ ⟨n',kb',t',h'⟩ = (n = n'/\kb = kb'/\wkT t t'/\wkH h h'):=by
 unfold se;simp only [xh,pH]
theorem FS {t : List (Nat × AV)} : wkT t [] = True:=(rfl)
theorem B7 {t l : List (Nat × AV)} {i : Nat} {v : AV} : wkT t ((i,v) :: l) = (fv (aE t i) v/\wkT t l):=(rfl)
theorem FT {h : AH} : wkH h [] = True:=(rfl)
theorem B8 {h l : AH} {i : Nat} {o : AObj} : wkH h ((i,o) :: l) = (dP (h.get i) o/\wkH h l):=(rfl)
theorem KF {a : AV} : fv a .any = True:=(rfl)
theorem Qo {a : AV} {u : Value} : fv a (.v u) = (a = .v u):=(rfl)
theorem KD {a : AV} : fv a .nil = (a = .nil):=(rfl)
theorem NO {a : AV} : fv a .un = (a = .un):=(rfl)
theorem Qp {a : AV} {k b c : Nat} : fv a (.p k b c) = (a = .p k b c):=(rfl)
theorem KG {a : AV} {l : List AV} : fv a (.agg l) = (a = .agg l):=(rfl)
theorem KC {a : AV} {l : List AV} : fv a (.tup l) = (a = .tup l):=(rfl)
theorem KE {a : AV} {f : Nat} {l : List AV} : fv a (.clo f l) = (a = .clo f l):=(rfl)
theorem NS {a : AV} {u : Value} {len : Nat} : fv a (.cv u len) = (a = .cv u len):=(rfl)
theorem NR {a : AV} {k sz len : Nat} {H : Hd} : fv a (.ml k H sz len) = (a = .ml k H sz len):=(rfl)
theorem Qq {a : AV} {k sz r c : Nat} {H : Hd} : fv a (.e k H sz r c) = (a = .e k H sz r c):=(rfl)
theorem NP {a : AV} {k sz off len : Nat} {H : Hd} : fv a (.sl k H sz off len) = (a = .sl k H sz off len\/(a = .nil/\H = none/\off = 0/\len = 0)):=(rfl)
theorem NQ {a : AV} {rows : List (List CD)} : fv a (.ro rows) = (a = .ro rows\/(a = .nil/\rows = [])):=(rfl)
theorem DQ {o : AObj} : dP o .dead = True:=(rfl)
theorem DM {b b' : Nat} {t t' : TypeId} {c c' : List AV} : dP (.vars b' t' c') (.vars b t c) = (b' = b/\t' = t/\ALe c' c):=(rfl)
theorem DP {o : AObj} {H : Hd} {sz : Nat} {rows : List (List CD)} : dP o (.lent H sz rows) = (o = .lent H sz rows):=(rfl)
theorem DO {o : AObj} {H : Hd} {sz lo : Nat} {rows : List (List CD)} : dP o (.part H sz rows lo) = (o = .part H sz rows lo):=(rfl)
theorem DN {o : AObj} {H : Hd} {sz : Nat} {rows : List (List CD)} {own : Bool} : dP o (.rows H sz rows own) = (o = .rows H sz rows own\/(o = .dead/\H = none/\rows = [])):=(rfl)
theorem Hx : ALe [] [] = True:=(rfl)
theorem Ft {a b : AV} {l l' : List AV} : ALe (a :: l) (b :: l') = (fv a b/\ALe l l'):=(rfl)
end weak
def go {α : Type} (f : α->List CD) (z : List CD) (l : List α) (i : Nat) : List (List CD):=(l.take i).map f ++ List.replicate (l.length - i) z
theorem iz {α : Type} {f : α->List CD} {z : List CD} {l : List α} : go f z l 0 = List.replicate l.length z:=by simp [go]
theorem dB {α : Type} {f : α->List CD} {z : List CD} {l : List α} {i : Nat} (h : i<=l.length) : (go f z l i).length = l.length:=by simp [go];omega
theorem fm {α : Type} {f : α->List CD} {z : List CD} {l : List α} {i : Nat} (h : l.length<=i) : go f z l i = l.map f:=by
 simp [go,List.take_of_length_le h,Nat.sub_eq_zero_of_le h]
theorem fl {α : Type} {f : α->List CD} {z : List CD} {l : List α} {i : Nat} (h : i < l.length) : (go f z l i).set i (f l[i]) = go f z l (i + 1):=by
 unfold go;obtain ⟨m,hm⟩ : ∃ m,l.length - i = m + 1:=⟨l.length - i - 1,by omega⟩;have hl : (List.map f (l.take i)).length = i:=by simp;omega
 rw [List.set_append_right _ _ (by omega),hl,Nat.sub_self,hm,List.replicate_succ,List.set_cons_zero,<- List.take_append_getElem h,List.map_append];have : l.length - (i + 1) = m:=by omega
 simp [this]
theorem ai {P : Program} {T : Nat → Option TI} (hT : ∀ t ti, T t = some ti → TIok P t ti) {f : Nat} {fn : Func} {c : Code} (hf : P.funcs[f]? = some fn) (hname : (fn.name == "runtime.NumGoroutine") = false) (hb : fn.body = some c)
 {n : Nat} {rs : List ResultVar} (hn : fn.ntmps = n) (hrs : fn.results = ⟨rs⟩) {args : List VD} {res : RR} (ha : args.length<=n)
 (h : ∀ w0 base,dO ⟨P,T,w0,⟨base,base,false,λ_=>True⟩⟩ c (oX ⟨P,T,w0,⟨base,base,false,λ_=>True⟩⟩ rs res) { n:=n,kb:=0,t:=jI 0 args,h:=[] }) : ac P f args res:=by
 subst hn;exact ac.intro hT hf hname hb ha (by rw [hrs];exact h)
attribute [simp] Qz QA AS Eh v7 Jh Ji Jj Jg Cl By Hi Bw Fc Fb Hj Bx NB Fe Fd Kp Ko NS NR Qq Gw Kn Km NC Gx Gy DC Kc Kb He KF Qo KD NO Qp KG KC KE NP NQ DQ DM DN Hx Ft jI VD.toAV isV
attribute [simp ↓] Q0 Q2 Q1 LG FK LJ OO LK HS LH LI OP LQ LP LR LU LS LV LT BH Hw BJ yM O3 LY HU GX GW LX OZ QI OX P_v QL QJ P_p P_e QK O0 OW OY QN QM O9 FM yZ Pu Pw Mg Lb Lf Ha Lc Le G9 D4 D5 FV FY wG LA FH Lz HP LC OG ON OF LD HL FE LM HN FF HM OL B2 HQ OM FG LB HK OK FI OI OJ LE Hy Lo HC BY BX It yc v8 yV yU Pt Pf Pm Pk Pj Ps Q3 Pe Pi Pg Pn Po Pp Pq Pr Pl Md Mc Ma L3 Mb Fy BT yT L1 My Mz FW QV QU QW QR QQ QT QS O8 L0 O7 QY Am An xU xV PL Mt PN D_p D_e FX F_p F_e QX BI Pa QZ Pd Pc Pb Z_v Ox QH Ls Lt HD W_p W_e BW Bf yw O6 QP O5 QO Pv Q4 Q5 Mf OV LO rt Fx B0 HA OR OQ OS LL yI BA Qs KO NW NV NY NX GV Em NZ GU El A2 KK KM Az xZ GO Aw xY v3 Ay Ax Nz Gr Ki DI Af Kj DH Ae xI Gl Gk Dy Gj Gi Lk Lj Kx Kw Ky FU FS B7 FT B8
attribute [simp] DP DO
attribute [simp ↓] Mw Mx Mu Mv Eu Ev Ao xX GL Aq DV DU Ap
open Go.RowKit
def tn (x : AV) (F : Nat->List AV->Prop) : Prop:=
 match x with
 | .clo f caps=>F f caps
 | .v (.func (.func f) _ _)=>F f []
 | _=>False
@[congr] theorem Oi {x x' : AV} {F : Nat->List AV->Prop} (h : x = x') : tn x F = tn x' F:=by rw [h]
theorem Hr {f : Nat} {a b : Array Value} {F : Nat->List AV->Prop} : tn (.v (.func (.func f) a b)) F = F f []:=(rfl)
theorem Ht {f : Nat} {l : List AV} {F : Nat->List AV->Prop} : tn (.clo f l) F = F f l:=(rfl)
theorem HO {E : Env} {st : ASt} {K : ASt->Prop} {d : Option Nat} {t : TypeId} {p : String} {af : Array Edge} {g : Option (Nat × Bool)} {i : Nat} {l : List Operand} {ts : List TypeId} :
 aOp E ⟨d,.call ⟨.value (.tmp i),⟨l⟩,⟨ts⟩⟩,t,p,af,g⟩ st K = tn (aE st.t i) λf caps=>aa E f (l.map st.ev ++ caps) st d K:=by
 simp only [aOp,Fz,tn]
 cases aE st.t i with
 | v u =>
   cases u with
   | func f a b=>cases f<;>simp
   | _=>rfl
 | _=>rfl
def sv (v : AV) (F : AV->Prop) : Prop:=F v
@[congr] theorem Rc {v v' : AV} {F : AV->Prop} (h : v = v') : sv v F = sv v' F:=by rw [h]
section
variable {E : Env} {st : ASt} {F : AV->Prop} {u : Value} {rows : List (List CD)} {l : List AV} {k sz off len f b c r : Nat} {H : Hd} {row : List CD}
theorem P6 : sv (.v u) F = F (.v u):=(rfl)
theorem Np {len : Nat} : sv (.cv u len) F = F (.cv u len):=(rfl)
theorem No {len : Nat} : sv (.ml k H sz len) F = F (.ml k H sz len):=(rfl)
theorem Nk : sv .un F = F .un:=(rfl)
theorem J2 : sv .nil F = F .nil:=(rfl)
theorem Nn : sv (.ro rows) F = F (.ro rows):=(rfl)
theorem Nl : sv (.sl k H sz off len) F = F (.sl k H sz off len):=(rfl)
theorem P7 : sv (.p k b c) F = F (.p k b c):=(rfl)
theorem P8 : sv (.e k H sz r c) F = F (.e k H sz r c):=(rfl)
theorem Nm : sv (.rp row) F = F (.rp row):=(rfl)
theorem J4 : sv (.agg l) F = F (.agg l):=(rfl)
theorem J1 : sv (.tup l) F = F (.tup l):=(rfl)
theorem J3 : sv (.clo f l) F = F (.clo f l):=(rfl)
@[congr] theorem OU {f : Nat} {l l' : List AV} {h : AH} (hl : l = l') : zQ E f l h F = zQ E f l' h F:=by rw [hl]
variable {x y : Operand} {T' U : TypeId}
theorem Lv : eh E st (.move x) F = sv (st.ev x) F:=(rfl)
theorem FD : eh E st (.assign x) F = sv (st.ev x) F:=(rfl)
theorem Lu {c a b : Operand} : eh E st (.pick c a b) F = im (st.ev c) λz=>Br z (ph (sv (st.ev a) F)) (ph (sv (st.ev b) F)):=(rfl)
theorem HJ {l : List (Nat × Operand)} : eh E st (.build T' ⟨l⟩) F = iZ E T' (l.map λq=>(q.1,st.ev q.2)) λv=>sv v F:=(rfl)
theorem Lw : eh E st (.load T' x) F = jW E st.h T' (st.ev x) λv=>sv v F:=(rfl)
theorem Oz : eh E st (.nilCheck x) F = pq (st.ev x) λv=>sv v F:=(rfl)
theorem OE {op : BinOp} : eh E st (.binOp op T' x y U) F = ji E op T' (st.ev x) (st.ev y) λv=>sv v F:=(rfl)
theorem Oy : eh E st (.unOp .not T' x) F = im (st.ev x) λb=>sv (.v (.bool (!b))) F:=(rfl)
theorem Lx {s : TypeId} : eh E st (.convert s T' x) F = gE E st.h s T' (st.ev x) λv=>sv v F:=(rfl)
theorem HF {lo hi : Option Operand} : eh E st (.slice T' x lo hi none) F = fO E T' (st.ev x) (lo.map st.ev) (hi.map st.ev) λv=>sv v F:=(rfl)
theorem HI {f : Nat} : eh E st (.fieldAddr T' x f) F = jL E T' f (st.ev x) λv=>sv v F:=(rfl)
theorem FC {f : Nat} : eh E st (.field T' x f) F = jK E T' f (st.ev x) λv=>sv v F:=(rfl)
theorem HG : eh E st (.indexAddr T' x y) F = cu E T' λ_ te=>aCv E (st.ev x) λz=>indexAt te z (st.ev y) λv=>sv v F:=(rfl)
theorem OD : eh E st (.index T' x y) F = w8 E T' (st.ev x) (st.ev y) λv=>sv v F:=(rfl)
theorem B1 {i : Nat} : eh E st (.extract x i) F = dn (st.ev x) i λv=>sv v F:=(rfl)
theorem OC : eh E st (.call ⟨.builtin .len,#[x],#[T']⟩) F = lL E T' (st.ev x) λv=>sv v F:=(rfl)
theorem OA {U1 U2 : TypeId} : eh E st (.call ⟨.builtin .min,#[x,y],#[U1,U2]⟩) F = vc (st.ev x) (st.ev y) λv=>sv v F:=(rfl)
theorem OB {U1 U2 : TypeId} : eh E st (.call ⟨.builtin .max,#[x,y],#[U1,U2]⟩) F = w5 (st.ev x) (st.ev y) λv=>sv v F:=(rfl)
theorem Ly {f : Nat} {l : List Operand} {ts : List TypeId} : eh E st (.call ⟨.value (.func f),⟨l⟩,⟨ts⟩⟩) F = zQ E f (l.map st.ev) st.h λv=>sv v F:=(rfl)
end
section
variable {E : Env} {all rest : List Oper} {n kb : Nat} {t : List (Nat × AV)} {h : AH} {K : ASt->Prop}
def oy (E : Env) (all : List Oper) (n kb : Nat) (h : AH) : List Oper->(t : List (Nat × AV))->(List (Nat × AV)->Prop)->Prop
 | [],t,K=>K t
 | o :: rest,t,K=>cA E all o ⟨n,kb,t,h⟩ λv=>oy E all n kb h rest ((o.dst.getD 0,v) :: t) K
variable {F : List (Nat × AV)->Prop} {op : Op} {ty : TypeId} {p : String} {af : Array Edge} {d : Nat}
theorem Me : oy E all n kb h [] t F = F t:=(rfl)
theorem HZ : oy E all n kb h (⟨some d,op,ty,p,af,none⟩ :: rest) t F = eh E ⟨n,kb,t,h⟩ op λv=>oy E all n kb h rest ((d,v) :: t) F:=(rfl)
theorem FN {j : Nat} {b : Bool} : oy E all n kb h (⟨some d,op,ty,p,af,some (j,b)⟩ :: rest) t F = ra (fk all j) λs=>nn (aE t s) b (ph (eh E ⟨n,kb,t,h⟩ op λv=>oy E all n kb h rest ((d,v) :: t) F)) (ph (oy E all n kb h rest ((d,.un) :: t) F)):=by
 simp only [oy,cA,ra,nn]
 cases fk all j with
 | none=>rfl
 | some s=>rfl
theorem zP {ops : List Oper} {G : PV -> Prop} (hG : ∀ pv,G pv = F (pvT pv ++ t)) : ∀ (l : List Nat) (pv : PV),(∀ i ∈ l,∃ d,(aq ops i).dst = some d /\ d < n) -> (∀ p ∈ pv,∀ d,p.2.1.dst = some d -> d < n) ->
 mv E ops ⟨n,kb,t,h⟩ pv (l.map λi=>(i,aq ops i)) (λpv'=>(∀ p∈pv',∀ d,p.2.1.dst = some d->d < n)/\G pv') = oy E ops n kb h (l.map (aq ops)) (pvT pv ++ t) F
 | [], pv, _, hpv => by
   simp only [List.map_nil,mv,oy];rw [hG];exact propext ⟨λh=>h.2,λh=>⟨hpv,h⟩⟩
 | i :: l, pv, hl, hpv => by
   simp only [List.map_cons,mv,oy];refine congrArg _ ?_
   funext v
   obtain ⟨d,hd,hlt⟩:=hl i (List.mem_cons_self ..)
   rw [zP hG l _ (λj hj=>hl j (List.mem_cons_of_mem _ hj)) (λp hp d' hd'=>by
    rcases List.mem_cons.1 hp with rfl | hp
    ·rw [hd] at hd';cases hd';exact hlt
    ·exact hpv p hp d' hd')]
   have : pvT ((i,aq ops i,v) :: pv) = (d,v) :: pvT pv:=by simp [pvT,hd]
   rw [this,hd];rfl
def t0 (n : Nat) (ops : List Oper) : Bool:=mr ops (List.range ops.length) [] && ops.all λo=>match o.dst with | some d=>decide (d < n) | none=>false
theorem aD.quiet {E : Env} (hE : EOk E) (hm : E.P.follows .mixedOrders = true) {id : Nat} {ops : List Oper} {Q : Exit->ASt->Prop} {n kb : Nat} {t : List (Nat × AV)} {h : AH} (hok : t0 n ops = true)
 (hx : oy E ops n kb h ops t λt'=>Q .normal ⟨n,kb,t',h⟩) : aD E id ops Q ⟨n,kb,t,h⟩:=by
 simp only [t0,Bool.and_eq_true] at hok;obtain ⟨h1,h2⟩:=hok
 have hd : ∀ i∈List.range ops.length,∃ d,(aq ops i).dst = some d/\d < n:=by
  intro i hi;have hlt:=List.mem_range.1 hi;have hop : aq ops i = ops[i]:=by simp [aq,hlt]
  have:=List.all_eq_true.1 h2 ops[i] (List.getElem_mem hlt);rw [hop]
  split at this
  ·rename_i d hd;exact ⟨d,hd,by simpa using this⟩
  ·simp at this
 have hmap : (List.range ops.length).map (aq ops) = ops:=by
  refine List.ext_getElem (by simp) (λi hi hi'=>?_);simp [aq,hi']
 refine nD hE hm (List.range ops.length) [] (.inl rfl) h1 (λpv st'=>st' = ⟨n,kb,pvT pv ++ (cq pv ++ t),h⟩/\Q .normal ⟨n,kb,pvT pv ++ t,h⟩) ?_ ?_
 ·have:=zP (E:=E) (ops:=ops) (kb:=kb) (h:=h) (t:=t) (n:=n) (F:=λt'=>Q .normal ⟨n,kb,t',h⟩) (G:=λpv=>oY E ops ⟨n,kb,t,h⟩ pv [] [] { (⟨n,kb,t,h⟩ : ASt) with t:=cq pv ++ t } (λst'=>st' = ⟨n,kb,pvT pv ++ (cq pv ++ t),h⟩/\Q .normal ⟨n,kb,pvT pv ++ t,h⟩)) (λpv=>by
   simp only [oY];rw [show (pv.filter λp=>!([] : List Nat).contains p.1) = pv from List.filter_eq_self.2 (by simp)];simp) (List.range ops.length) [] hd (by simp)
  simp only [List.map_nil] at this ⊢;rw [this,hmap];exact hx
 ·rintro pv st' a w ⟨rfl,hq⟩ hR
  refine ⟨_,hq,hR.dfr,hR.size,λs=>?_,hR.heap,hR.below,hR.base_le⟩
  show VRel w h.M (aE (pvT pv ++ t) s) _
  by_cases hs : ∃ p∈pvT pv,p.1 = s
  ·have e1 : ∀ x y : List (Nat × AV),aE (pvT pv ++ x) s = aE (pvT pv ++ y) s:=by
    intro x y;obtain ⟨p,hp,rfl⟩:=hs;generalize pvT pv = l at hp
    induction l with
    | nil=>simp at hp
    | cons q l ih =>
      obtain ⟨q1,q2⟩:=q;simp only [List.cons_append,aE];by_cases hq : p.1 = q1
      ·rw [if_pos hq,if_pos hq]
      ·rw [if_neg hq,if_neg hq]
       rcases List.mem_cons.1 hp with rfl | hp
       ·exact absurd rfl hq
       ·exact ih hp
   rw [e1 t (cq pv ++ t)];exact hR.tmp s
  ·have:=hR.tmp s
   have hne : ∀ p∈pvT pv,p.1≠s:=λp hp he=>hs ⟨p,hp,he⟩
   have hne' : ∀ p∈cq pv,p.1≠s:=by
    intro p hp he;unfold cq at hp;rw [List.mem_filterMap] at hp;obtain ⟨x,hx,hd⟩:=hp;rw [Option.map_eq_some_iff] at hd;obtain ⟨d,hd,rfl⟩:=hd;exact hs ⟨(d,x.2.2),by unfold pvT;rw [List.mem_filterMap];exact ⟨x,hx,by rw [hd];rfl⟩,he⟩
   rw [eC hne];have h3 : aE (pvT pv ++ (cq pv ++ t)) s = aE t s:=by rw [eC hne,eC hne']
   have h4 : VRel w h.M (aE (pvT pv ++ (cq pv ++ t)) s) (a.tmps.getD s undef):=this;rw [h3] at h4;exact h4
end
attribute [simp ↓] Hr Ht HO P6 Nk Np No J2 Nn Nl P7 P8 Nm J4 J1 J3 Lv FD Lu HJ Lw Oz OE Oy Lx HF HI FC HG OD B1 OC OA OB Ly Me HZ FN
attribute [simp] roR roV
open Go.RowKit
mutual
def AV.q : AV->Bool
 | .ro _=>false
 | .rp _=>false
 | .agg l=>AV.qL l
 | .tup l=>AV.qL l
 | .clo _ l=>AV.qL l
 | _=>true
def AV.qL : List AV->Bool
 | []=>true
 | a :: l=>a.q && AV.qL l
end
def AObj.q : AObj->Bool
 | .dead=>true
 | .vars _ _ cells=>AV.qL cells
 | .rows _ _ _ own=>own
 | _=>false
def qT : List (Nat × AV)->Bool
 | []=>true
 | (_,v) :: l=>v.q && qT l
def qH : AH->Bool
 | []=>true
 | (_,o) :: l=>o.q && qH l
def ASt.quiet (st : ASt) : Prop:=qT st.t = true/\qH st.h = true
theorem jl : ∀ (l : List AV),AV.qL l = true->∀ (i : Nat) (a : AV),l[i]? = some a->a.q = true
 | [],_,i,a,h=>by simp at h
 | b :: l, h, i, a, hi => by
   simp only [AV.qL,Bool.and_eq_true] at h
   cases i with
   | zero=>simp at hi;subst hi;exact h.1
   | succ i=>exact jl l h.2 i a (by simpa using hi)
theorem VRel.quiet {w w' : World} {M M' : Nat->Prop} {av : AV} {x : Value} (h : VRel w M av x) (hq : av.q = true) : VRel w' M' av x:=by
 induction h with
 | any x=>exact .any x
 | un=>exact .un
 | nil=>exact .nil
 | v u h=>exact .v u h
 | ro rows x h=>simp [AV.q] at hq
 | sl k H sz off len x h=>exact .sl k H sz off len x h
 | cv u len h=>exact .cv u len h
 | ml k H sz len x h=>exact .ml k H sz len x h
 | is u=>exact .is u
 | p k b c=>exact .p k b c
 | e k b o C sz r c=>exact .e k b o C sz r c
 | rp row b o cs T fr hM hb hfit hr=>simp [AV.q] at hq
 | agg l xs hs _ ih=>exact .agg l xs hs (λi av hi=>ih i av hi (jl l (by simpa [AV.q] using hq) i av hi))
 | tup l xs hs _ ih=>exact .tup l xs hs (λi av hi=>ih i av hi (jl l (by simpa [AV.q] using hq) i av hi))
 | clo f l xs hs _ ih=>exact .clo f l xs hs (λi av hi=>ih i av hi (jl l (by simpa [AV.q] using hq) i av hi))
def Ent (E : Env) (st : ASt) (S : ASt->Prop) : Prop:=∀ a w,Rep E.w0 E.base st a w->∃ st',S st'/\Rep E.w0 E.base st' a w
theorem Ent.refl {E : Env} {st : ASt} {S : ASt->Prop} (h : S st) : Ent E st S:=λ_ _ hR=>⟨st,h,hR⟩
def zy {β : Type} (E : Env) (Inv : β->Prop) (I : β->ASt) (μ : β->Nat) (x : β) (Q : Exit->ASt->Prop) : Exit->ASt->Prop
 | .normal,st=>Ent E st λst'=>∃ x',Inv x'/\μ x' < μ x/\se st' (I x')
 | e,st=>Q e st
theorem aj {E : Env} (hE : EOk E) {body : Code} {Q : Exit->ASt->Prop} {st : ASt} {β : Type} (Inv : β->Prop) (I : β->ASt) (μ : β->Nat) (x0 : β) (h0 : Inv x0) (hw : se st (I x0))
 (hr : ∀ x,Inv x->Ent E (I x) (dO E body (zy E Inv I μ x Q))) : ak E body Q st:=by
 intro a w hR;refine wp_loop_ghost (λn a w=>∃ x,Inv x/\μ x = n/\Rep E.w0 E.base (I x) a w) (μ x0) ⟨x0,h0,rfl,hw.rep hR⟩ ?_
 rintro n a w ⟨x,hx,rfl,hR⟩
 obtain ⟨st1,hs1,hR1⟩:=hr x hx a w hR;refine wp_mono (bQ hE body _ _ a w hR1 hs1) ?_
 rintro e a' w' ⟨st',hq,hR'⟩
 cases e with
 | normal =>
   obtain ⟨st2,⟨x',h1,h2,h3⟩,hR2⟩:=hq a' w' hR';exact ⟨μ x',h2,x',h1,rfl,h3.rep hR2⟩
 | _=>exact ⟨st',hq,hR'⟩
def Nr (rows : List (List CD)) (i j : Nat) (d : CD) : List (List CD):=rows.modify i λr=>r.set j d
theorem vC (rows : List (List CD)) (i j : Nat) (d : CD) : (Nr rows i j d).length = rows.length:=by simp [Nr]
theorem cX.quiet {w : World} {M M' E : Nat->Prop} {o : AObj} (h : cX w M E o) (hq : o.q = true) (hM : ∀ c,E c->¬ M c->¬ M' c) : cX w M' E o:=by
 cases o with
 | dead=>exact h
 | vars b T cells =>
   obtain ⟨cs,h1,h2,h3⟩:=h;exact ⟨cs,h1,h2,λj av hj=>(h3 j av hj).quiet (jl _ (by simpa [AObj.q] using hq) j av hj)⟩
 | rows H sz rows own =>
   cases H with
   | none=>exact h
   | some q =>
     obtain ⟨b,o,C⟩:=q;obtain ⟨cs,T,F,h1,h2,h3,h4,h5,h6,h7,h8,h9⟩:=h;refine ⟨cs,T,F,h1,h2,h3,h4,h5,h6,λi j c hc=>⟨(h7 i j c hc).1,?_⟩,h8,h9⟩;exact hM c ((h7 i j c hc).1 (by simpa [AObj.q] using hq)) (h7 i j c hc).2
 | lent=>simp [AObj.q] at hq
 | part=>simp [AObj.q] at hq
end Go.AM
