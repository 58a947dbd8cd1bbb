import Derived.Test.YtoldjebobgocpaaGreatMD
namespace Go.AM
open Go.RowKit
section
variable {P : Program} {T : Nat->Option TI} {w0 : World} {base : Bs} {E : Env} {Q : Exit->ASt->Prop} {K : ASt->Prop} {st : ASt}
@[congr] theorem QW {d : Option Nat} {v v' : AV} (h : v = v') : aW st d v K = aW st d v' K:=by rw [h]
@[congr] theorem QQ (f : Nat) {l l' : List AV} {d : Option Nat} (h : l = l') : aa E f l st d K = aa E f l' st d K:=by rw [h]
structure Ph {α : Sort _} (a : α) : Type where
 mk ::
def ph {α : Sort _} (a : α) : Ph a:=⟨⟩
def Br (b : Bool) {X Y : Prop} (_ : Ph X) (_ : Ph Y) : Prop:=(b = true->X)/\(b = false->Y)
theorem So {X Y : Prop} {p : Ph X} {q : Ph Y} : Br true p q = X:=by simp [Br]
theorem Sq {X Y : Prop} {p : Ph X} {q : Ph Y} : Br false p q = Y:=by simp [Br]
theorem Sp {b : Bool} {X Y : Prop} {p : Ph X} {q : Ph Y} : Br (!b) p q = Br b q p:=by cases b<;>simp [Br]
theorem Br.mk {b : Bool} {X Y : Prop} {p : Ph X} {q : Ph Y} (h : b = true->X) (k : b = false->Y) : Br b p q:=⟨h,k⟩
theorem M8 : dZ E .skip Q st = Q .normal st:=(rfl)
theorem Hk {id : Nat} {l : List Oper} : dZ E (.region id ⟨l⟩ false) Q st = om E l l (Q .normal) st:=(rfl)
theorem Nb {id : Nat} {l : List Oper} : dZ E (.region id ⟨l⟩ true) Q st = am E id l Q st:=(rfl)
theorem Qb {x y : Code} : dZ E (.seq x y) Q st = dZ E x (Fl (dZ E y Q) Q) st:=(rfl)
theorem Nc {c : Operand} {x y : Code} : dZ E (.cond c x y) Q st = jG (st.ev c) λb=>Br b (ph (dZ E x Q st)) (ph (dZ E y Q st)):=(rfl)
theorem Ju {id : Nat} {x : Code} : dZ E (.block id x) Q st = dZ E x (wY id Q) st:=(rfl)
theorem M9 {x : Code} : dZ E (.loop x) Q st = au E x Q st:=(rfl)
theorem Na {id : Nat} : dZ E (.exit id) Q st = Q (.exit id) st:=(rfl)
theorem Qd : dZ E .ret Q st = Q .ret st:=(rfl)
theorem Nj : Fl K Q .normal st = K st:=(rfl)
theorem Ni : Fl K Q .ret st = Q .ret st:=(rfl)
theorem Nk {i : Nat} : Fl K Q (.exit i) st = Q (.exit i) st:=(rfl)
theorem Nn {i : Nat} : wY i Q .normal st = Q .normal st:=(rfl)
theorem Nl {i : Nat} : wY i Q .ret st = Q .ret st:=(rfl)
theorem No {i : Nat} : wY i Q (.exit i) st = Q .normal st:=by simp [wY]
theorem Nm {i j : Nat} (h : j≠i) : wY i Q (.exit j) st = Q (.exit j) st:=by simp [wY,h]
def rg (x : AV) (want : Bool) {R S : Prop} (_ : Ph R) (_ : Ph S) : Prop:=
 match x with
 | .v (.bool b)=>(b = want->R)/\(b = !want->S)
 | .un=>S
 | _=>False
def w7 (o : Option Nat) (F : Nat->Prop) : Prop:=
 match o with
 | some d=>F d
 | none=>False
theorem DP {d : Nat} {F : Nat->Prop} : w7 (some d) F = F d:=(rfl)
theorem Ja {b : Bool} {R S : Prop} {r : Ph R} {s : Ph S} : rg .un b r s = S:=(rfl)
theorem DR {R S : Prop} {r : Ph R} {s : Ph S} {c : Bool} : rg (.v (.bool c)) true r s = Br c r s:=(rfl)
theorem A2 {R S : Prop} {r : Ph R} {s : Ph S} {c : Bool} : rg (.v (.bool c)) false r s = Br c s r:=by simp [rg,Br,And.comm]
theorem Qo {all : List Oper} : om E all [] K st = K st:=(rfl)
theorem Nr {all rest : List Oper} {d : Option Nat} {op : Op} {t : TypeId} {p : String} {af : Array Edge} :
 om E all (⟨d,op,t,p,af,none⟩ :: rest) K st = aOp E ⟨d,op,t,p,af,none⟩ st (om E all rest K):=(rfl)
theorem Jw {all rest : List Oper} {d : Option Nat} {op : Op} {t : TypeId} {p : String} {af : Array Edge} {j : Nat} {b : Bool} :
 om E all (⟨d,op,t,p,af,some (j,b)⟩ :: rest) K st = w7 (gO all j) λs=>rg (aD st.t s) b (ph (aOp E ⟨d,op,t,p,af,some (j,b)⟩ st (om E all rest K))) (ph (aW st d .un (om E all rest K))):=by
 simp only [om,G4,w7,rg]
 cases gO all j with
 | none=>rfl
 | some s=>rfl
theorem IP {d : Option Nat} {op : Op} {t : TypeId} {p : String} {af : Array Edge} {g : Option (Nat × Bool)} {l : List Oper} : gO (⟨d,op,t,p,af,g⟩ :: l) 0 = d:=(rfl)
theorem IO {o : Oper} {l : List Oper} {j : Nat} : gO (o :: l) (j + 1) = gO l j:=(rfl)
theorem Nq {v : AV} : aW st none v K = K st:=(rfl)
theorem Qm {n kb d : Nat} {t : List (Nat × AV)} {h : AH}  : aW ⟨n,kb,t,h⟩ (some d) .any K = (d < n/\K ⟨n,kb,(d,.any) :: t,h⟩):=(rfl)
theorem R5 {n kb d : Nat} {t : List (Nat × AV)} {h : AH}  : aW ⟨n,kb,t,h⟩ (some d) .un K = (d < n/\K ⟨n,kb,(d,.un) :: t,h⟩):=(rfl)
theorem Qk {n kb d : Nat} {t : List (Nat × AV)} {h : AH}  : aW ⟨n,kb,t,h⟩ (some d) .nil K = (d < n/\K ⟨n,kb,(d,.nil) :: t,h⟩):=(rfl)
theorem P_v {n kb d : Nat} {t : List (Nat × AV)} {h : AH} {u : Value} : aW ⟨n,kb,t,h⟩ (some d) (.v u) K = (d < n/\K ⟨n,kb,(d,(.v u)) :: t,h⟩):=(rfl)
theorem R8 {n kb d : Nat} {t : List (Nat × AV)} {h : AH} {r : List (List CD)} : aW ⟨n,kb,t,h⟩ (some d) (.ro r) K = (d < n/\K ⟨n,kb,(d,(.ro r)) :: t,h⟩):=(rfl)
theorem R6 {n kb d : Nat} {t : List (Nat × AV)} {h : AH} {k sz off len : Nat} {H : Hd} : aW ⟨n,kb,t,h⟩ (some d) (.sl k H sz off len) K = (d < n/\K ⟨n,kb,(d,(.sl k H sz off len)) :: t,h⟩):=(rfl)
theorem P_p {n kb d : Nat} {t : List (Nat × AV)} {h : AH} {k b c : Nat} : aW ⟨n,kb,t,h⟩ (some d) (.p k b c) K = (d < n/\K ⟨n,kb,(d,(.p k b c)) :: t,h⟩):=(rfl)
theorem P_e {n kb d : Nat} {t : List (Nat × AV)} {h : AH} {k sz r c : Nat} {H : Hd} : aW ⟨n,kb,t,h⟩ (some d) (.e k H sz r c) K = (d < n/\K ⟨n,kb,(d,(.e k H sz r c)) :: t,h⟩):=(rfl)
theorem R7 {n kb d : Nat} {t : List (Nat × AV)} {h : AH} {r : List CD} : aW ⟨n,kb,t,h⟩ (some d) (.rp r) K = (d < n/\K ⟨n,kb,(d,(.rp r)) :: t,h⟩):=(rfl)
theorem Qn {n kb d : Nat} {t : List (Nat × AV)} {h : AH} {l : List AV} : aW ⟨n,kb,t,h⟩ (some d) (.agg l) K = (d < n/\K ⟨n,kb,(d,(.agg l)) :: t,h⟩):=(rfl)
theorem Qj {n kb d : Nat} {t : List (Nat × AV)} {h : AH} {l : List AV} : aW ⟨n,kb,t,h⟩ (some d) (.tup l) K = (d < n/\K ⟨n,kb,(d,(.tup l)) :: t,h⟩):=(rfl)
theorem Sa {n kb d : Nat} {t : List (Nat × AV)} {h : AH} {u : Value} {len : Nat} : aW ⟨n,kb,t,h⟩ (some d) (.cv u len) K = (d < n/\K ⟨n,kb,(d,(.cv u len)) :: t,h⟩):=(rfl)
theorem R9 {n kb d : Nat} {t : List (Nat × AV)} {h : AH} {k sz len : Nat} {H : Hd} : aW ⟨n,kb,t,h⟩ (some d) (.ml k H sz len) K = (d < n/\K ⟨n,kb,(d,(.ml k H sz len)) :: t,h⟩):=(rfl)
theorem Ql {n kb d : Nat} {t : List (Nat × AV)} {h : AH} {f : Nat} {l : List AV} : aW ⟨n,kb,t,h⟩ (some d) (.clo f l) K = (d < n/\K ⟨n,kb,(d,(.clo f l)) :: t,h⟩):=(rfl)
theorem Qt {i : Nat} : aD [] i = .any:=(rfl)
theorem Hr {i : Nat} {v : AV} {t : List (Nat × AV)} : aD ((i,v) :: t) i = v:=by simp [aD]
theorem Bf {i j : Nat} {v : AV} {t : List (Nat × AV)} (h : i≠j) : aD ((j,v) :: t) i = aD t i:=by simp [aD,h]
theorem QN {i : Nat} : AH.get [] i = .dead:=(rfl)
theorem QP {i : Nat} {v : AObj} {t : AH} : AH.get ((i,v) :: t) i = v:=by simp [AH.get]
theorem NE {i j : Nat} {v : AObj} {t : AH} (h : i≠j) : AH.get ((j,v) :: t) i = AH.get t i:=by simp [AH.get,h]
@[congr] theorem SB {x x' : Operand} (h : x = x') : st.ev x = st.ev x':=by rw [h]
theorem MD {n kb i : Nat} {t : List (Nat × AV)} {h : AH} : ASt.ev ⟨n,kb,t,h⟩ (.tmp i) = aD t i:=(rfl)
theorem MH {k : IntKind} {i : Int} : st.ev (.const (.int k i)) = .v (.int k i):=(rfl)
theorem I0 {b : Bool} : st.ev (.const (.bool b)) = .v (.bool b):=(rfl)
theorem ME {b : ByteArray} : st.ev (.const (.string b)) = .v (.string b):=(rfl)
theorem MG : st.ev (.const (.slice none 0 0)) = .nil:=(rfl)
theorem IZ {f : Nat} : st.ev (.func f) = .v (.func (.func f) #[] #[]):=(rfl)
theorem F4 {n kb d : Nat} {t : List (Nat × AV)} {h : AH} : ASt.key ⟨n,kb,t,h⟩ (some d) = kb + 16 * d:=(rfl)
theorem F5 {n kb : Nat} {t : List (Nat × AV)} {h : AH} : ASt.key ⟨n,kb,t,h⟩ none = kb:=(rfl)
def wT (o : Option TI) (F : TI->Prop) : Prop:=
 match o with
 | some ti=>F ti
 | none=>False
@[congr] theorem Sv {x x' : Option TI} {F : TI->Prop} (h : x = x') : wT x F = wT x' F:=by rw [h]
theorem HJ {ti : TI} {F : TI->Prop} : wT (some ti) F = F ti:=(rfl)
def wE (e : Option Nat) (F : Nat->Prop) : Prop:=
 match e with
 | some e=>F e
 | none=>False
@[congr] theorem Sz {x x' : Option Nat} {F : Nat->Prop} (h : x = x') : wE x F = wE x' F:=by rw [h]
theorem HM {e : Nat} {F : Nat->Prop} : wE (some e) F = F e:=(rfl)
theorem yT {t : Nat} {F : Nat->TI->Prop} : cO ⟨P,T,w0,base⟩ t F = wT (T t) λti=>wE ti.sl λe=>wT (T e) (F e):=by
 unfold cO wT wE;simp only
 cases T t with
 | none=>rfl
 | some ti=>
   simp only
   cases ti.sl with
   | none=>rfl
   | some e=>simp only;cases T e<;>rfl
section ops
variable {d : Option Nat} {t : TypeId} {p : String} {af : Array Edge} {g : Option (Nat × Bool)} {x y : Operand}
theorem M3 : aOp E ⟨d,.move x,t,p,af,g⟩ st K = aW st d (st.ev x) K:=(rfl)
theorem Hh : aOp E ⟨d,.assign x,t,p,af,g⟩ st K = aW st d (st.ev x) K:=(rfl)
theorem M2 {c a b : Operand} : aOp E ⟨d,.pick c a b,t,p,af,g⟩ st K = jG (st.ev c) λz=>Br z (ph (aW st d (st.ev a) K)) (ph (aW st d (st.ev b) K)):=(rfl)
theorem Jr {T' : TypeId} {l : List (Nat × Operand)} : aOp E ⟨d,.build T' ⟨l⟩,t,p,af,g⟩ st K = kC E T' (l.map λq=>(q.1,st.ev q.2)) λv=>aW st d v K:=(rfl)
theorem M5 {T' : TypeId} : aOp E ⟨d,.load T' x,t,p,af,g⟩ st K = lT E st.h T' (st.ev x) λv=>aW st d v K:=(rfl)
theorem P0 : aOp E ⟨d,.nilCheck x,t,p,af,g⟩ st K = ri (st.ev x) λv=>aW st d v K:=(rfl)
theorem Qa {op : BinOp} {T' U : TypeId} : aOp E ⟨d,.binOp op T' x y U,t,p,af,g⟩ st K = kR E op T' (st.ev x) (st.ev y) λv=>aW st d v K:=(rfl)
theorem PZ {T' : TypeId} : aOp E ⟨d,.unOp .not T' x,t,p,af,g⟩ st K = jG (st.ev x) λb=>aW st d (.v (.bool (!b))) K:=(rfl)
theorem M6 {s T' : TypeId} : aOp E ⟨d,.convert s T' x,t,p,af,g⟩ st K = iK E st.h s T' (st.ev x) λv=>aW st d v K:=(rfl)
theorem He {T' : TypeId} {lo hi : Option Operand} {mx : Operand} : aOp E ⟨d,.slice T' x lo hi (some mx),t,p,af,g⟩ st K = pi E T' (st.ev x) (lo.map st.ev) (hi.map st.ev) (st.ev mx) λv=>aW st d v K:=(rfl)
theorem Jn {T' : TypeId} {lo hi : Option Operand} : aOp E ⟨d,.slice T' x lo hi none,t,p,af,g⟩ st K = gL E T' (st.ev x) (lo.map st.ev) (hi.map st.ev) λv=>aW st d v K:=(rfl)
theorem Jp {T' : TypeId} {f : Nat} : aOp E ⟨d,.fieldAddr T' x f,t,p,af,g⟩ st K = lG E T' f (st.ev x) λv=>aW st d v K:=(rfl)
theorem Hf {T' : TypeId} {f : Nat} : aOp E ⟨d,.field T' x f,t,p,af,g⟩ st K = lF E T' f (st.ev x) λv=>aW st d v K:=(rfl)
theorem Jo {T' : TypeId} : aOp E ⟨d,.indexAddr T' x y,t,p,af,g⟩ st K = cO E T' λ_ te=>aCv E (st.ev x) λz=>indexAt te z (st.ev y) λv=>aW st d v K:=(rfl)
theorem P8 {T' : TypeId} : aOp E ⟨d,.index T' x y,t,p,af,g⟩ st K = zd E T' (st.ev x) (st.ev y) λv=>aW st d v K:=(rfl)
theorem D8 {i : Nat} : aOp E ⟨d,.extract x i,t,p,af,g⟩ st K = dE (st.ev x) i λv=>aW st d v K:=(rfl)
theorem Js {T' : TypeId} : aOp E ⟨d,.alloc T',t,p,af,g⟩ st K = qf E st d T' K:=(rfl)
theorem P9 {T' : TypeId} : aOp E ⟨d,.box T' x,t,p,af,g⟩ st K = zf E st d T' (st.ev x) K:=(rfl)
theorem Hg {T' : TypeId} {len : Nat} {l : List (Nat × Operand)} : aOp E ⟨d,.buildSlice T' len ⟨l⟩,t,p,af,g⟩ st K = go E st d T' len (l.map λq=>(q.1,st.ev q.2)) K:=(rfl)
theorem M4 {T' : TypeId} : aOp E ⟨d,.makeSlice T' x y,t,p,af,g⟩ st K = vu E st d T' (st.ev x) (st.ev y) K:=(rfl)
theorem Jm {T' : TypeId} : aOp E ⟨d,.store T' x y,t,p,af,g⟩ st K = kB E st T' (st.ev x) (st.ev y) λst'=>aW st' d .un K:=(rfl)
theorem P7 {T' : TypeId} : aOp E ⟨d,.call ⟨.builtin .len,#[x],#[T']⟩,t,p,af,g⟩ st K = np E T' (st.ev x) λv=>aW st d v K:=(rfl)
theorem Hi {T' U : TypeId} : aOp E ⟨d,.call ⟨.builtin .append,#[x,y],#[T',U]⟩,t,p,af,g⟩ st K = (T' = U/\eh E st d T' (st.ev x) (st.ev y) K):=(rfl)
theorem P4 {U1 U2 : TypeId} : aOp E ⟨d,.call ⟨.builtin .min,#[x,y],#[U1,U2]⟩,t,p,af,g⟩ st K = xc (st.ev x) (st.ev y) λv=>aW st d v K:=(rfl)
theorem P6 {U1 U2 : TypeId} : aOp E ⟨d,.call ⟨.builtin .max,#[x,y],#[U1,U2]⟩,t,p,af,g⟩ st K = y9 (st.ev x) (st.ev y) λv=>aW st d v K:=(rfl)
theorem M7 {f : Nat} {l : List Operand} {ts : List TypeId} : aOp E ⟨d,.call ⟨.value (.func f),⟨l⟩,⟨ts⟩⟩,t,p,af,g⟩ st K = aa E f (l.map st.ev) st d K:=(rfl)
end ops
@[congr] theorem PH {x x' : AV} {F : Bool->Prop} (h : x = x') : jG x F = jG x' F:=by rw [h]
theorem Jd {b : Bool} {F : Bool->Prop} : jG (.v (.bool b)) F = F b:=(rfl)
@[congr] theorem QV {x x' y y' : AV} {F : Value->Value->Prop} (h : x = x') (k : y = y') : DU x y F = DU x' y' F:=by rw [h,k]
@[congr] theorem PP {E : Env} {op : BinOp} {T : Nat} {x x' y y' : AV} {F : AV->Prop} (h : x = x') (k : y = y') : kR E op T x y F = kR E op T x' y' F:=by rw [h,k]
theorem Jg {E : Env} {op : BinOp} {T : Nat} {a b : Value} {F : AV->Prop} : kR E op T (.v a) (.v b) F = da (E.isBool T) op a b F:=(rfl)
theorem Aw : gE [] = some []:=(rfl)
theorem yq {a : Int} {l : List AV} : gE (.v (.int .i64 a) :: l) = (gE l).map (a :: ·):=(rfl)
theorem MR {a b : Value} {F : Value->Value->Prop} : DU (.v a) (.v b) F = F a b:=(rfl)
@[congr] theorem QY {x x' : AV} {F : AV->Prop} (h : x = x') : ri x F = ri x' F:=by rw [h]
@[congr] theorem JP {x x' : AV} {i : Nat} {F : AV->Prop} (h : x = x') : dE x i F = dE x' i F:=by rw [h]
theorem Bb {v : AV} {l : List AV} {F : AV->Prop} : dE (.tup (v :: l)) 0 F = F v:=(rfl)
theorem Ba {v : AV} {l : List AV} {i : Nat} {F : AV->Prop} : dE (.tup (v :: l)) (i + 1) F = dE (.tup l) i F:=(rfl)
noncomputable def dc (p : Prop) : Bool:=@decide p (Classical.propDecidable p)
theorem RT : dc True = true:=by simp [dc]
theorem RU : dc False = false:=by simp [dc]
theorem jA {p : Prop} : (dc p = true) = p:=by simp [dc]
theorem cE {p : Prop} : (dc p = false) = ¬ p:=by simp [dc]
theorem me {p : Prop} (h : dc p = true) : p:=by simpa [dc] using h
theorem qy {p : Prop} (h : dc p = false) : ¬ p:=by simpa [dc] using h
theorem pd (p : Prop) [Decidable p] : dc p = decide p:=by simp [dc]
theorem vo (b : ByteArray) : b.toList = b.data.toList:=by
 unfold ByteArray.toList
 have : ∀ (n i : Nat) (r : List UInt8),b.size - i = n->ByteArray.toList.loop b i r = r.reverse ++ b.data.toList.drop i:=by
  intro n
  induction n with
  | zero=>
    intro i r h;rw [ByteArray.toList.loop];rw [if_neg (by omega)];have : b.data.toList.length<=i:=by have : b.data.size = b.size:=rfl;simp;omega
    rw [List.drop_of_length_le this];simp
  | succ n ih=>
    intro i r h;rw [ByteArray.toList.loop];rw [if_pos (by omega),ih (i + 1) _ (by omega)];have hs : i < b.data.toList.length:=by have : b.data.size = b.size:=rfl;simp;omega
    rw [List.drop_eq_getElem_cons hs]
    have hg : b.get! i = b.data.toList[i]:=by
     show b.data[i]! = _
     have : i < b.data.size:=by simpa using hs
     rw [getElem!_pos b.data i this];simp
    rw [hg];simp
 simpa using this b.size 0 [] (by omega)
theorem Ff (a b : ByteArray) : (a.toList == b.toList) = dc (a = b):=by
 rw [vo,vo,pd];by_cases h : a = b
 ·subst h;simp
 ·have : a.data.toList≠b.data.toList:=by
   intro he
   apply h
   cases a;cases b
   simpa using he
  rw [decide_eq_false h];exact beq_eq_false_iff_ne.2 this
section bins
variable {k k' : IntKind} {a b : Int} {tb : Prop} {F : AV->Prop} {s u : ByteArray} {x y : Bool}
@[congr] theorem Q3 {op : BinOp} {x x' y y' : Value} (h : x = x') (h' : y = y') : da tb op x y F = da tb op x' y' F:=by rw [h,h']
theorem QM : da tb .add (.int k a) (.int k b) F = F (.v (.int k (k.wrap (a + b)))):=by simp [da]
theorem Qz : da tb .sub (.int k a) (.int k b) F = F (.v (.int k (k.wrap (a - b)))):=by simp [da]
theorem QF : da tb .mul (.int k a) (.int k b) F = F (.v (.int k (k.wrap (a * b)))):=by simp [da]
theorem QD : da tb .quo (.int k a) (.int k b) F = (b≠0/\F (.v (.int k (k.wrap (a.tdiv b))))):=by simp [da]
theorem QC : da tb .rem (.int k a) (.int k b) F = (b≠0/\F (.v (.int k (a.tmod b)))):=by simp [da]
theorem QL : da tb .and (.int k a) (.int k b) F = F (.v (.int k (bits .and k a b))):=by simp [da]
theorem Sr : da tb .or (.int k a) (.int k b) F = F (.v (.int k (bits .or k a b))):=by simp [da]
theorem Qy : da tb .xor (.int k a) (.int k b) F = F (.v (.int k (bits .xor k a b))):=by simp [da]
theorem QB : da tb .shl (.int k a) (.int k' b) F = (0<=b/\b<=k.bits/\F (.v (.int k (k.wrap (a * 2 ^ b.toNat))))):=by simp [da]
theorem QA : da tb .shr (.int k a) (.int k' b) F = (0<=b/\b<=k.bits/\F (.v (.int k (a / 2 ^ b.toNat)))):=by simp [da]
theorem QG : da tb .lss (.int k a) (.int k b) F = F (.v (.bool (dc (a < b)))):=by simp [da,pd]
theorem QH : da tb .leq (.int k a) (.int k b) F = F (.v (.bool (dc (a<=b)))):=by simp [da,pd]
theorem QI : da tb .gtr (.int k a) (.int k b) F = F (.v (.bool (dc (b < a)))):=by simp [da,pd]
theorem QJ : da tb .geq (.int k a) (.int k b) F = F (.v (.bool (dc (b<=a)))):=by simp [da,pd]
theorem QK : da tb .eql (.int k a) (.int k b) F = F (.v (.bool (dc (a = b)))):=by simp [da,pd]
theorem QE : da tb .neq (.int k a) (.int k b) F = F (.v (.bool (!dc (a = b)))):=by simp [da,pd]
theorem PF (x y : Bool) : (x == y) = dc (x = y):=by cases x<;>cases y<;>simp [dc]
theorem NB : da tb .eql (.bool x) (.bool y) F = (tb/\F (.v (.bool (dc (x = y))))):=by simp only [da,PF]
theorem NA : da tb .neq (.bool x) (.bool y) F = (tb/\F (.v (.bool (!dc (x = y))))):=by simp only [da,PF]
theorem Ny : da tb .eql (.string s) (.string u) F = F (.v (.bool (dc (s = u)))):=by simp only [da,Ff]
theorem Nv : da tb .neq (.string s) (.string u) F = F (.v (.bool (!dc (s = u)))):=by simp only [da,Ff]
theorem Nz : da tb .add (.string s) (.string u) F = (s.size + u.size<=140737488355328/\F (.v (.string (s ++ u)))):=by simp [da]
end bins
def wI2 (x y : Option (List Int)) (F : List Int->List Int->Prop) : Prop:=
 match x,y with
 | some a,some b=>F a b
 | _,_=>False
theorem JS {a b : List Int} {F : List Int->List Int->Prop} : wI2 (some a) (some b) F = F a b:=(rfl)
@[congr] theorem Q9 {x x' y y' : Option (List Int)} {F : List Int->List Int->Prop} (h : x = x') (k : y = y') : wI2 x y F = wI2 x' y' F:=by rw [h,k]
theorem D5 {t : Nat} {l m : List AV} {F : AV->Prop} : kR ⟨P,T,w0,base⟩ .eql t (.agg l) (.agg m) F = wT (T t) λti=>ti.ieq = true/\wI2 (gE l) (gE m) λa b=>a.length = ti.n/\b.length = ti.n/\F (.v (.bool (dc (a = b)))):=by
 simp only [kR,D1,wT,wI2,pd];rfl
theorem D4 {t : Nat} {l m : List AV} {F : AV->Prop} : kR ⟨P,T,w0,base⟩ .neq t (.agg l) (.agg m) F = wT (T t) λti=>ti.ieq = true/\wI2 (gE l) (gE m) λa b=>a.length = ti.n/\b.length = ti.n/\F (.v (.bool (!dc (a = b)))):=by
 simp only [kR,D1,wT,wI2,pd];rfl
theorem Df {t : Nat} : Env.isBool ⟨P,T,w0,base⟩ t = wT (T t) λti=>ti.boo = true:=by
 unfold Env.isBool wT;simp only
 cases T t<;>rfl
theorem F7 {t : Nat} : Env.isStr ⟨P,T,w0,base⟩ t = wT (T t) λti=>ti.str = true:=by
 unfold Env.isStr wT;simp only
 cases T t<;>rfl
theorem yp {t : Nat} : Env.known ⟨P,T,w0,base⟩ t = wT (T t) λ_=>True:=by
 unfold Env.known wT;simp only
 cases T t<;>rfl
section loads
variable {h : AH} {t : Nat} {x x' y y' : AV} {F : AV->Prop} {ti : TI}
@[congr] theorem PL (hx : x = x') : lT E h t x F = lT E h t x' F:=by rw [hx]
theorem G7 : lT ⟨P,T,w0,base⟩ h t x F = wT (T t) λti=>loadAt ti h x F:=by unfold lT wT;simp only;cases T t<;>rfl
@[congr] theorem NL {f : Nat} (hx : x = x') : lG E t f x F = lG E t f x' F:=by rw [hx]
theorem A9 {f : Nat} : lF ⟨P,T,w0,base⟩ t f x F = wT (T t) λti=>lu ti f x F:=by unfold lF wT;simp only;cases T t<;>rfl
theorem D0 {f : Nat} : lG ⟨P,T,w0,base⟩ t f x F = wT (T t) λti=>fieldAt ti f x F:=by unfold lG wT;simp only;cases T t<;>rfl
@[congr] theorem R3 (hx : x = x') : aCv E x F = aCv E x' F:=by rw [hx]
@[simp ↓] theorem RZ {rows : List (List CD)} : aCv E (.ro rows) F = F (.ro rows):=(rfl)
@[simp ↓] theorem RY {kk sz off len : Nat} {H : Hd} : aCv E (.sl kk H sz off len) F = F (.sl kk H sz off len):=(rfl)
@[simp ↓] theorem R0 {kk sz len : Nat} {H : Hd} : aCv E (.ml kk H sz len) F = F (.ml kk H sz len):=(rfl)
@[simp ↓] theorem Q1 : aCv E .nil F = F .nil:=(rfl)
@[congr] theorem Mm (hx : x = x') (hy : y = y') : indexAt ti x y F = indexAt ti x' y' F:=by rw [hx,hy]
theorem Sj {rows : List (List CD)} {k : IntKind} {n : Int} : indexAt ti (.ro rows) (.v (.int k n)) F = (0<=n/\n < rows.length/\∀ row,rows[n.toNat]? = some row->row.length = ti.n/\F (.rp row)):=(rfl)
theorem Si {kk sz off len : Nat} {H : Hd} {k : IntKind} {n : Int} : indexAt ti (.sl kk H sz off len) (.v (.int k n)) F = (0<=n/\n < len/\sz = ti.n/\F (.e kk H sz (off + n.toNat) 0)):=(rfl)
theorem Sk {kk sz len : Nat} {H : Hd} {k : IntKind} {n : Int} : indexAt ti (.ml kk H sz len) (.v (.int k n)) F = (0<=n/\n < len/\sz = ti.n/\F (.e kk H sz n.toNat 0)):=(rfl)
@[congr] theorem QZ (hx : x = x') : np E t x F = np E t x' F:=by rw [hx]
theorem Se {rows : List (List CD)} : np E t (.ro rows) F = cO E t λ_ _=>F (.v (.int .i64 rows.length)):=(rfl)
theorem Sd {kk sz off len : Nat} {H : Hd} : np E t (.sl kk H sz off len) F = cO E t λ_ _=>F (.v (.int .i64 len)):=(rfl)
theorem Sg {u : Value} {len : Nat} : np E t (.cv u len) F = cO E t λ_ _=>F (.v (.int .i64 len)):=(rfl)
theorem Sf {kk sz len : Nat} {H : Hd} : np E t (.ml kk H sz len) F = cO E t λ_ _=>F (.v (.int .i64 len)):=(rfl)
theorem Qs : np E t .nil F = cO E t λ_ _=>F (.v (.int .i64 0)):=(rfl)
theorem Nt : np E t (.v (.slice none 0 0)) F = cO E t λ_ _=>F (.v (.int .i64 0)):=(rfl)
theorem Qr {s : ByteArray} : np E t (.v (.string s)) F = (E.isStr t/\F (.v (.int .i64 s.size))):=(rfl)
@[congr] theorem Mb {row row' : List CD} (hr : row = row') : dF ti row F = dF ti row' F:=by rw [hr]
@[congr] theorem NG (hx : x = x') : loadAt ti h x F = loadAt ti h x' F:=by rw [hx]
theorem Sm {row : List CD} : loadAt ti h (.rp row) F = dF ti row F:=(rfl)
theorem CJ {row : List CD} (ha : ti.agg = true) : dF ti row F = (ti.n<=row.length/\F (.agg ((row.take ti.n).map toAV))):=by simp [dF,ha]
theorem CK {d : CD} {row : List CD} (ha : ti.agg = false) : dF ti (d :: row) F = F (toAV d):=by simp [dF,ha]
theorem zY {c : Nat} {cells : List AV} (ha : ti.agg = true) : gC ti cells c F = (c + ti.n<=cells.length/\F (.agg ((cells.drop c).take ti.n))):=by simp [gC,ha]
theorem zZ {c : Nat} {cells : List AV} (ha : ti.agg = false) : gC ti cells c F = dE (.tup cells) c F:=by
 simp only [gC,ha,dE];rfl
def wV (o : AObj) (F : Nat->List AV->Prop) : Prop:=
 match o with
 | .vars b _ cells=>F b cells
 | _=>False
def wVT (o : AObj) (F : Nat->TypeId->List AV->Prop) : Prop:=
 match o with
 | .vars b t cells=>F b t cells
 | _=>False
def wR (o : AObj) (F : Hd->Nat->List (List CD)->Bool->Prop) : Prop:=
 match o with
 | .rows H sz rows own=>F H sz rows own
 | _=>False
def wRL (o : AObj) (F : Hd->Nat->List (List CD)->Bool->Prop) (G : Hd->Nat->List (List CD)->Prop) : Prop:=
 match o with
 | .rows H sz rows own=>F H sz rows own
 | .lent H sz rows=>G H sz rows
 | _=>False
def wRP (o : AObj) (F : Hd->Nat->List (List CD)->Bool->Prop) (G : Hd->Nat->List (List CD)->Nat->Prop) : Prop:=
 match o with
 | .rows H sz rows own=>F H sz rows own
 | .part H sz rows lo=>G H sz rows lo
 | _=>False
@[congr] theorem Q8 {o o' : AObj} {F : Hd->Nat->List (List CD)->Bool->Prop} {G : Hd->Nat->List (List CD)->Prop} (h : o = o') : wRL o F G = wRL o' F G:=by rw [h]
@[congr] theorem Q7 {o o' : AObj} {F : Hd->Nat->List (List CD)->Bool->Prop} {G : Hd->Nat->List (List CD)->Nat->Prop} (h : o = o') : wRP o F G = wRP o' F G:=by rw [h]
theorem NU {H : Hd} {sz : Nat} {rows : List (List CD)} {own : Bool} {F : Hd->Nat->List (List CD)->Bool->Prop} {G : Hd->Nat->List (List CD)->Prop} : wRL (.rows H sz rows own) F G = F H sz rows own:=(rfl)
theorem NV {H : Hd} {sz : Nat} {rows : List (List CD)} {F : Hd->Nat->List (List CD)->Bool->Prop} {G : Hd->Nat->List (List CD)->Prop} : wRL (.lent H sz rows) F G = G H sz rows:=(rfl)
theorem NS {H : Hd} {sz : Nat} {rows : List (List CD)} {own : Bool} {F : Hd->Nat->List (List CD)->Bool->Prop} {G : Hd->Nat->List (List CD)->Nat->Prop} : wRP (.rows H sz rows own) F G = F H sz rows own:=(rfl)
theorem NT {H : Hd} {sz lo : Nat} {rows : List (List CD)} {F : Hd->Nat->List (List CD)->Bool->Prop} {G : Hd->Nat->List (List CD)->Nat->Prop} : wRP (.part H sz rows lo) F G = G H sz rows lo:=(rfl)
theorem Gj {H : Hd} {sz n : Nat} {rows : List (List CD)} : wq true H sz rows n = .part H sz rows n:=(rfl)
theorem Gk {H : Hd} {sz n : Nat} {rows : List (List CD)} : wq false H sz rows n = .dead:=(rfl)
theorem CM {ds : List CD} {h : AH} : lendL [] ds h = h:=(rfl)
theorem z9 {a : AV} {l : List AV} {d : CD} {ds : List CD} {h : AH} : lendL (a :: l) (d :: ds) h = lendL l ds (qD a d h):=(rfl)
theorem IB {u : Value} {d : CD} {h : AH} : qD (.v u) d h = h:=(rfl)
theorem CO {d : CD} {h : AH} : qD .nil d h = h:=(rfl)
theorem FS {r : List (List CD)} {d : CD} {h : AH} : qD (.ro r) d h = h:=(rfl)
theorem FQ {k sz len : Nat} {H : Hd} {rows : List (List CD)} {h : AH} : qD (.sl k H sz 0 len) (.s rows) h = (k,.lent H sz rows) :: h:=(rfl)
theorem CN {k sz len n : Nat} {H : Hd} {d : CD} {h : AH} : qD (.sl k H sz (n + 1) len) d h = h:=(rfl)
@[congr] theorem Su {o o' : AObj} {F : Nat->List AV->Prop} (h : o = o') : wV o F = wV o' F:=by rw [h]
@[congr] theorem Q5 {o o' : AObj} {F : Nat->TypeId->List AV->Prop} (h : o = o') : wVT o F = wVT o' F:=by rw [h]
@[congr] theorem Sw {o o' : AObj} {F : Hd->Nat->List (List CD)->Bool->Prop} (h : o = o') : wR o F = wR o' F:=by rw [h]
theorem Q4 {b : Nat} {t : TypeId} {c : List AV} {F : Nat->List AV->Prop} : wV (.vars b t c) F = F b c:=(rfl)
theorem NR {b : Nat} {t : TypeId} {c : List AV} {F : Nat->TypeId->List AV->Prop} : wVT (.vars b t c) F = F b t c:=(rfl)
theorem Q6 {H : Hd} {sz : Nat} {rows : List (List CD)} {own : Bool} {F : Hd->Nat->List (List CD)->Bool->Prop} : wR (.rows H sz rows own) F = F H sz rows own:=(rfl)
theorem D_p {k b c : Nat} : loadAt ti h (.p k b c) F = wV (h.get k) λb' cells=>b = b'/\gC ti cells c F:=by
 simp only [loadAt,wV]
 cases h.get k<;>rfl
theorem D_e {k sz r c : Nat} {H : Hd} : loadAt ti h (.e k H sz r c) F = wRL (h.get k) (λH' sz' rows _=>H = H'/\sz = sz'/\r < rows.length/\∀ row,rows[r]? = some row->dF ti (row.drop c) F) (λH' sz' rows=>H = H'/\sz = sz'/\r < rows.length/\∀ row,rows[r]? = some row->dF ti (row.drop c) F):=by
 simp only [loadAt,wRL]
 cases h.get k<;>rfl
def wF (o : Option (Nat × Nat)) (F : Nat->Nat->Prop) : Prop:=
 match o with
 | some (a,b)=>F a b
 | none=>False
@[congr] theorem Sy {o o' : Option (Nat × Nat)} {F : Nat->Nat->Prop} (h : o = o') : wF o F = wF o' F:=by rw [h]
theorem HL {a b : Nat} {F : Nat->Nat->Prop} : wF (some (a,b)) F = F a b:=(rfl)
@[congr] theorem NI {f : Nat} (hx : x = x') : lu ti f x F = lu ti f x' F:=by rw [hx]
def wO (o : Option AV) (F : AV->Prop) : Prop:=
 match o with
 | some v=>F v
 | none=>False
@[congr] theorem Sx {o o' : Option AV} (h : o = o') : wO o F = wO o' F:=by rw [h]
theorem HK {v : AV} : wO (some v) F = F v:=(rfl)
def wFV (o : Option (Nat × Nat)) (b : Option Bool) (l : List AV) (F : AV->Prop) : Prop:=
 match o,b with
 | some (off,n),some true=>off + n<=l.length/\F (.agg ((l.drop off).take n))
 | some (off,_),some false=>wO l[off]? F
 | _,_=>False
@[congr] theorem Ra {o o' : Option (Nat × Nat)} {b b' : Option Bool} {l l' : List AV} (h : o = o') (hb : b = b') (hl : l = l') : wFV o b l F = wFV o' b' l' F:=by rw [h,hb,hl]
theorem NW {off n : Nat} {l : List AV} : wFV (some (off,n)) (some true) l F = (off + n<=l.length/\F (.agg ((l.drop off).take n))):=(rfl)
theorem NX {off n : Nat} {l : List AV} : wFV (some (off,n)) (some false) l F = wO l[off]? F:=(rfl)
theorem Nu {f : Nat} {l : List AV} : lu ti f (.agg l) F = wFV (ti.fields[f]?) (ti.fagg[f]?) l F:=by
 simp only [lu,wFV]
 cases h1 : ti.fields[f]? with
 | none=>rfl
 | some q=>
   cases h2 : ti.fagg[f]? with
   | none=>rfl
   | some b=>
     obtain ⟨off,n⟩:=q
     cases b with
     | false=>simp only [Bool.false_eq_true,if_false,wO];cases l[off]?<;>rfl
     | true=>simp only [if_true]
@[congr] theorem MB {f : Nat} (hx : x = x') : fieldAt ti f x F = fieldAt ti f x' F:=by rw [hx]
theorem F_p {f k b c : Nat} : fieldAt ti f (.p k b c) F = wF (ti.fields[f]?) λoff _=>F (.p k b (c + off)):=by
 simp only [fieldAt,wF];cases ti.fields[f]?<;>rfl
theorem F_e {f k sz r c : Nat} {H : Hd} : fieldAt ti f (.e k H sz r c) F = wF (ti.fields[f]?) λoff _=>F (.e k H sz r (c + off)):=by
 simp only [fieldAt,wF];cases ti.fields[f]?<;>rfl
theorem Sl {f : Nat} {row : List CD} : fieldAt ti f (.rp row) F = wF (ti.fields[f]?) λoff _=>off<=row.length/\F (.rp (row.drop off)):=by
 simp only [fieldAt,wF];cases ti.fields[f]?<;>rfl
theorem KG {u : Value} : toAV (.v u) = .v u:=(rfl)
theorem KH {r : List (List CD)} : toAV (.s r) = .ro r:=(rfl)
theorem KJ {k sz len : Nat} {H : Hd} : toAV (.h k H sz len) = .ml k H sz len:=(rfl)
theorem KF {u : Value} : zq (.v u) = .v u:=(rfl)
theorem Ej : zq .nil = .s []:=(rfl)
@[congr] theorem PO {s d : Nat} (hx : x = x') : q5 E s d x F = q5 E s d x' F:=by rw [hx]
@[congr] theorem NM {s d : Nat} {h : AH} (hx : x = x') : iK E h s d x F = iK E h s d x' F:=by rw [hx]
def GX (o : Option IntKind) (F : IntKind->Prop) : Prop:=
 match o with
 | some k=>F k
 | none=>False
@[congr] theorem QT {o o' : Option IntKind} {F : IntKind->Prop} (h : o = o') : GX o F = GX o' F:=by rw [h]
theorem DQ {k : IntKind} {F : IntKind->Prop} : GX (some k) F = F k:=(rfl)
theorem Qu {s d : Nat} {k : IntKind} {n : Int} : q5 ⟨P,T,w0,base⟩ s d (.v (.int k n)) F = ((wT (T s) λ_=>True)/\wT (T d) λti=>GX ti.kind λk'=>F (.v (.int k' (k'.wrap n)))):=by
 simp only [q5,yp]
 congr 1
 unfold wT GX
 cases T d with
 | none=>rfl
 | some ti=>simp only;cases ti.kind<;>rfl
theorem Sn {s d : Nat} {h : AH} {u : Value} : iK ⟨P,T,w0,base⟩ h s d (.v u) F = q5 ⟨P,T,w0,base⟩ s d (.v u) F:=(rfl)
theorem Qx {s d : Nat} {h : AH} {rows : List (List CD)} : iK ⟨P,T,w0,base⟩ h s d (.ro rows) F = w9 ⟨P,T,w0,base⟩ s d rows F:=(rfl)
theorem Qw {s d k sz off len : Nat} {H : Hd} {h : AH} : iK ⟨P,T,w0,base⟩ h s d (.sl k H sz off len) F = wR (h.get k) λH' sz' rows _=>H = H'/\sz = sz'/\off + len<=rows.length/\w9 ⟨P,T,w0,base⟩ s d (cut rows off len) F:=by
 simp only [iK,wR];cases h.get k<;>rfl
theorem Qv {s d : Nat} {rows : List (List CD)} : w9 ⟨P,T,w0,base⟩ s d rows F = (Env.isStr ⟨P,T,w0,base⟩ d/\wT (T s) λti=>wE ti.sl λe=>wT (T e) λte=>te.kind = some .u8/\∃ l : List UInt8,rows = l.map e8/\F (.v (.string ⟨l.toArray⟩))):=by
 simp only [w9,yT]
end loads
end
open Go.RowKit
section
variable {P : Program} {T : Nat->Option TI} {w0 : World} {base : Bs} {E : Env} {Q : Exit->ASt->Prop} {K : ASt->Prop} {st : ASt}
theorem DH {l : List AV} : AV.cells (.agg l) = l:=(rfl)
theorem I5 {u : Value} : AV.cells (.v u) = [.v u]:=(rfl)
theorem DF : AV.cells .nil = [.nil]:=(rfl)
theorem GR {r : List (List CD)} : AV.cells (.ro r) = [.ro r]:=(rfl)
theorem GQ {k sz off len : Nat} {H : Hd} : AV.cells (.sl k H sz off len) = [.sl k H sz off len]:=(rfl)
theorem I6 {k b c : Nat} : AV.cells (.p k b c) = [.p k b c]:=(rfl)
theorem DG {f : Nat} {l : List AV} : AV.cells (.clo f l) = [.clo f l]:=(rfl)
theorem GT {u : Value} {len : Nat} : AV.cells (.cv u len) = [.cv u len]:=(rfl)
theorem GS {k sz len : Nat} {H : Hd} : AV.cells (.ml k H sz len) = [.ml k H sz len]:=(rfl)
theorem LW {u : Value} {len : Nat} : AV.one (.cv u len) = true:=(rfl)
theorem LV {k sz len : Nat} {H : Hd} : AV.one (.ml k H sz len) = true:=(rfl)
theorem O3 {u : Value} : AV.one (.v u) = true:=(rfl)
theorem Im : AV.one .nil = true:=(rfl)
theorem LU {r : List (List CD)} : AV.one (.ro r) = true:=(rfl)
theorem LT {k sz off len : Nat} {H : Hd} : AV.one (.sl k H sz off len) = true:=(rfl)
theorem O4 {k b c : Nat} : AV.one (.p k b c) = true:=(rfl)
theorem In {f : Nat} {l : List AV} : AV.one (.clo f l) = true:=(rfl)
theorem Io {l : List CD} : (l.map toAV).all AV.one = true:=by
 induction l with
 | nil=>rfl
 | cons d l ih=>cases d<;>simpa [toAV,AV.one] using ih
theorem Fz {α : Type} {l : List α} {i : Nat} : eA l i [] = l:=by cases l<;>rfl
theorem LK {α : Type} {x v : α} {l vs : List α} : eA (x :: l) 0 (v :: vs) = v :: eA l 0 vs:=(rfl)
theorem LJ {α : Type} {x v : α} {l vs : List α} {c : Nat} : eA (x :: l) (c + 1) (v :: vs) = x :: eA l c (v :: vs):=(rfl)
section fr
variable {h : AH} {x x' y y' : AV} {t : Nat} {F : CD->AH->Bool->Prop} {G : List CD->AH->Bool->Prop}
@[congr] theorem Q0 (hx : x = x') : mI h x F = mI h x' F:=by rw [hx]
theorem Z_v {u : Value} : mI h (.v u) F = F (.v u) h true:=(rfl)
theorem PQ : mI h .nil F = F (.s []) h true:=(rfl)
theorem R4 {r : List (List CD)} : mI h (.ro r) F = F (.s r) h false:=(rfl)
theorem MV {k sz off len : Nat} {H : Hd} : mI h (.sl k H sz off len) F = wR (h.get k) λH' sz' rows own=>H = H'/\sz = sz'/\off + len<=rows.length/\F (.s (cut rows off len)) ((k,.dead) :: h) own:=by
 simp only [mI,wR];cases h.get k<;>rfl
@[congr] theorem PM {l l' : List AV} (hx : l = l') : gS h l G = gS h l' G:=by rw [hx]
theorem MW : gS h [] G = G [] h true:=(rfl)
theorem Jh {a : AV} {l : List AV} : gS h (a :: l) G = mI h a λd h' o=>gS h' l λds h'' o'=>G (d :: ds) h'' (o && o'):=(rfl)
theorem I2 {α : Type} {rows : List α} : cut rows 0 rows.length = rows:=by simp [cut]
theorem pe {α : Type} {rows : List α} {n : Nat} (h : n = rows.length) : cut rows 0 n = rows:=by simp [cut,h]
@[congr] theorem NJ (hx : x = x') (hy : y = y') : kB E st t x y K = kB E st t x' y' K:=by rw [hx,hy]
theorem W_p {k b c : Nat} : kB ⟨P,T,w0,base⟩ st t (.p k b c) y K = wT (T t) λti=>y.cells.length = ti.n/\(y.cells.all AV.one) = true/\wVT (st.h.get k) λb' T' cells=>b = b'/\c + y.cells.length<=cells.length/\K { st with h:=(k,.vars b T' (eA cells c y.cells)) :: st.h }:=by
 simp only [kB,wT,wVT]
 cases T t with
 | none=>rfl
 | some ti=>simp only;cases st.h.get k<;>rfl
theorem W_e {k sz r c : Nat} {H : Hd} : kB ⟨P,T,w0,base⟩ st t (.e k H sz r c) y K = wT (T t) λti => y.cells.length = ti.n /\ (y.cells.all AV.one) = true /\ gS st.h y.cells λds h o => wR (h.get k) λH' sz' rows own => H = H' /\ sz = sz' /\ r < rows.length /\ c + ds.length <= sz /\
 K { st with h:=lendL y.cells ds ((k,.rows H sz (if c = 0/\ds.length = sz then rows.set r ds else rows.modify r λrow=>eA row c ds) (own && o)) :: h) }:=by
 simp only [kB,wT]
 cases T t with
 | none=>rfl
 | some ti=>
   simp only;rfl
@[congr] theorem NN {l l' : List (Nat × AV)} {F : AV->Prop} (hl : l = l') : kC E t l F = kC E t l' F:=by rw [hl]
theorem D3 {l : List (Nat × AV)} {F : AV->Prop} : kC ⟨P,T,w0,base⟩ t l F = wT (T t) λti=>ti.agg = true/\jP ti.fields ti.zero l λl=>F (.agg l):=by
 simp only [kC,wT];cases T t<;>rfl
@[congr] theorem PB {fs : List (Nat × Nat)} {cells cells' : List AV} {l l' : List (Nat × AV)} {F : List AV->Prop} (hc : cells = cells') (hl : l = l') : jP fs cells l F = jP fs cells' l' F:=by rw [hc,hl]
theorem Dt {fs : List (Nat × Nat)} {cells : List AV} {F : List AV->Prop} : jP fs cells [] F = F cells:=(rfl)
theorem AL {fs : List (Nat × Nat)} {cells : List AV} {i : Nat} {v : AV} {l : List (Nat × AV)} {F : List AV->Prop} : jP fs cells ((i,v) :: l) F = wF (fs[i]?) λoff n=>v.cells.length = n/\off + n<=cells.length/\(v.cells.all AV.one) = true/\jP fs (eA cells off v.cells) l F:=by
 simp only [jP,wF];cases fs[i]?<;>rfl
variable {R : List (List CD)->AH->Bool->Prop} {te : TI}
@[congr] theorem PJ (hx : x = x') : jW te h x R = jW te h x' R:=by rw [hx]
theorem Qq : jW te h .nil R = R [] h true:=(rfl)
theorem Sc {rows : List (List CD)} : jW te h (.ro rows) R = ((∀ row∈rows,row.length = te.n)/\(te.pln = true->∀ row∈rows,∀ d∈row,isV d = true)/\R rows h te.pln):=(rfl)
theorem Qp {k sz off len : Nat} {H : Hd} (hp : te.pln = true) : jW te h (.sl k H sz off len) R = wR (h.get k) λH' sz' rows _=>H = H'/\sz = sz'/\sz = te.n/\off + len<=rows.length/\(∀ row∈rows,∀ d∈row,isV d = true)/\R (cut rows off len) h true:=by
 simp only [jW,wR,hp];cases h.get k<;>simp
theorem Sb {k sz off len : Nat} {H : Hd} (hp : te.pln = false) : jW te h (.sl k H sz off len) R = wRP (h.get k) (λH' sz' rows own=>H = H'/\sz = sz'/\sz = te.n/\off + len<=rows.length/\R (cut rows off len) ((k,wq own H sz rows (off + len)) :: h) own) (λH' sz' rows lo=>H = H'/\sz = sz'/\sz = te.n/\off + len<=rows.length/\lo<=off/\R (cut rows off len) ((k,.part H sz rows (off + len)) :: h) true):=by
 simp only [jW,wRP,hp];cases h.get k<;>simp
variable {dst : Option Nat}
@[congr] theorem MU (hx : x = x') (hy : y = y') : eh E st dst t x y K = eh E st dst t x' y' K:=by rw [hx,hy]
theorem QO : eh E st dst t .nil x K = cO E t λ_ te => 0 < te.bytes /\ 0 < te.n /\ jW te st.h x λnews h o => news.length * te.bytes <= 140737488355328 /\
        ∀ H,aW { st with h:=(st.key dst,.rows H te.n news o) :: h } dst (.sl (st.key dst) H te.n 0 news.length) K:=(rfl)
theorem Ss {k sz off len : Nat} {H0 : Hd} : eh E st dst t (.sl k H0 sz off len) x K = cO E t λ_ te => 0 < te.bytes /\ 0 < te.n /\ jW te st.h x λnews h o => wR (h.get k) λH' sz' rows own => H0 = H' /\ sz = sz' /\ sz = te.n /\ off = 0 /\ len = rows.length /\ (len + news.length) * te.bytes <= 140737488355328 /\
 ∀ H,aW { st with h:=(k,.rows H te.n (rows ++ news) (own && o)) :: h } dst (.sl k H te.n 0 (len + news.length)) K:=by
 unfold eh;rfl
theorem ND : eh E st dst t (.v (.slice none 0 0)) x K = eh E st dst t .nil x K:=(rfl)
theorem Hx {k len : Nat} {H0 : Hd} (hk : 50000<=k) : eh E st dst t (.ml k H0 1 len) x K = eh E st dst t (.sl k H0 1 0 len) x K:=by simp only [eh,AV.norm,if_pos (MlS.key hk)]
theorem St {k sz len : Nat} {H0 : Hd} (h0 : 0 < len) : eh E st dst t (.ml k H0 sz len) x K = eh E st dst t (.sl k H0 sz 0 len) x K:=by simp only [eh,AV.norm,if_pos (MlS.pos h0)]
@[congr] theorem PI {l l' : List (Nat × AV)} {i : Nat} (hl : l = l') : nT te h l i R = nT te h l' i R:=by rw [hl]
theorem Qi {i : Nat} : nT te h [] i R = R [] h true:=(rfl)
theorem Nh {i j : Nat} {v : AV} {l : List (Nat × AV)} : nT te h ((j,v) :: l) i R = (j = i/\v.cells.length = te.n/\(v.cells.all AV.one) = true/\gS h v.cells λds h' o=>nT te h' l (i + 1) λrs h'' o'=>R (ds :: rs) h'' (o && o')):=(rfl)
@[congr] theorem G9 {len : Nat} {l l' : List (Nat × AV)} (hl : l = l') : go E st dst t len l K = go E st dst t len l' K:=by rw [hl]
theorem tL {len : Nat} {l : List (Nat × AV)} : go E st dst t len l K = cO E t λ_ te=>0 < te.n/\len = l.length/\len * te.n<=16777216/\nT te st.h l 0 λrs h o=>
 ∀ b,aW { st with h:=(st.key dst,.rows (some (b,0,len)) te.n rs o) :: h } dst (.sl (st.key dst) (some (b,0,len)) te.n 0 len) K:=(rfl)
@[congr] theorem PK (hx : x = x') (hy : y = y') : vu E st dst t x y K = vu E st dst t x' y' K:=by rw [hx,hy]
theorem G6 {n m : Int} : vu E st dst t (.v (.int .i64 n)) (.v (.int .i64 m)) K = cO E t λ_ te => 0 < te.n /\ 0 < te.bytes /\ n = m /\ 0 <= n /\ n * te.bytes <= 140737488355328 /\
        ∀ b,aW { st with h:=(st.key dst,.rows (some (b,0,n.toNat)) te.n (List.replicate n.toNat (te.zero.map zq)) true) :: st.h } dst (.sl (st.key dst) (some (b,0,n.toNat)) te.n 0 n.toNat) K:=(rfl)
theorem D6 : qf ⟨P,T,w0,base⟩ st dst t K = wT (T t) λti=>∀ b,aW { st with h:=(st.key dst,.vars b t ti.zero) :: st.h } dst (.p (st.key dst) b 0) K:=by
 simp only [qf,wT];cases T t<;>rfl
@[congr] theorem Q2 (hx : x = x') : zf E st dst t x K = zf E st dst t x' K:=by rw [hx]
theorem Jf : zf ⟨P,T,w0,base⟩ st dst t x K = wT (T t) λ_=>(x.cells.all AV.one) = true/\∀ b,aW { st with h:=(st.key dst,.vars b t x.cells) :: st.h } dst (.p (st.key dst) b 0) K:=by
 simp only [zf,wT];cases T t<;>rfl
@[congr] theorem NK {lo lo' hi hi' : Option AV} {F : AV->Prop} (hx : x = x') (hl : lo = lo') (hh : hi = hi') : gL E t x lo hi F = gL E t x' lo' hi' F:=by rw [hx,hl,hh]
theorem Nf {rows : List (List CD)} {lo : Option AV} {hv mx : AV} {F : AV->Prop} : pi E t (.ro rows) lo (some hv) mx F = cO E t λ_ te=>(∀ row∈rows,row.length = te.n)/\dI (some hv) 0 λh=>dI (some mx) 0 λm=>h<=m/\m<=rows.length/\dI lo 0 λl=>l<=h/\F (.ro (cut rows l (h - l))):=(rfl)
theorem Qf {rows : List (List CD)} {lo hi : Option AV} {F : AV->Prop} : gL E t (.ro rows) lo hi F = cO E t λ_ te=>(∀ row∈rows,row.length = te.n)/\dI hi rows.length λh=>h<=rows.length/\dI lo 0 λl=>l<=h/\F (.ro (cut rows l (h - l))):=(rfl)
theorem Qe {k sz off len : Nat} {H : Hd} {lo hi : Option AV} {F : AV->Prop} : gL E t (.sl k H sz off len) lo hi F = cO E t λ_ te=>sz = te.n/\dI hi len λh=>h<=len/\dI lo 0 λl=>l<=h/\F (.sl k H sz (off + l) (h - l)):=(rfl)
theorem Qg {k sz len : Nat} {H : Hd} {lo hi : Option AV} {F : AV->Prop} (h0 : 0 < len) : gL E t (.ml k H sz len) lo hi F = gL E t (.sl k H sz 0 len) lo hi F:=by simp only [gL,AV.norm,if_pos (MlS.pos h0)]
theorem Nd {s : ByteArray} {lo hi : Option AV} {F : AV->Prop} : gL E t (.v (.string s)) lo hi F = (E.isStr t/\dI hi s.size λh=>h<=s.size/\dI lo 0 λl=>l<=h/\F (.v (.string (s.extract l h)))):=(rfl)
theorem AZ {z : Nat} {F : Nat->Prop} : dI none z F = F z:=(rfl)
theorem DJ {z : Nat} {F : Nat->Prop} {k : IntKind} {n : Int} : dI (some (.v (.int k n))) z F = (0<=n/\F n.toNat):=(rfl)
end fr
section calls
variable {h : AH} {x : AV} {R : Value->CD->Prop}
theorem RK {u : Value} {d : CD} : aIn R h (.v u) d = (d = .v u):=(rfl)
theorem Mn {d : CD} : aIn R h .nil d = (d = .s []):=(rfl)
theorem Pj {r : List (List CD)} {d : CD} : aIn R h (.ro r) d = (d = .s r):=(rfl)
theorem Pi {k sz off len : Nat} {H : Hd} {d : CD} : aIn R h (.sl k H sz off len) d = wRL (h.get k) (λH' sz' rows _=>H = H'/\sz = sz'/\off + len<=rows.length/\d = .s (cut rows off len)) (λH' sz' rows=>H = H'/\sz = sz'/\off = 0/\len = rows.length/\d = .s rows):=by
 simp only [aIn,wRL];cases h.get k<;>rfl
theorem Pl {u : Value} {len : Nat} {d : CD} : aIn R h (.cv u len) d = R u d:=(rfl)
theorem Pk {k sz len : Nat} {H : Hd} {d : CD} : aIn R h (.ml k H sz len) d = wR (h.get k) λH' sz' rows _=>H = H'/\sz = sz'/\len = rows.length/\d = .s rows:=by
 simp only [aIn,wR];cases h.get k<;>rfl
theorem IN : tI R h [] [] = True:=(rfl)
theorem Gc {a : AV} {l : List AV} {d : CD} {ds : List CD} : tI R h (a :: l) (d :: ds) = (aIn R h a d/\tI R h l ds):=(rfl)
theorem Pm {a : AV} {d : CD} : xe R h a (.c d) = aIn R h a d:=(rfl)
theorem IM {l : List AV} {ds : List CD} : xe R h (.agg l) (.agg ds) = tI R h l ds:=(rfl)
theorem Gb : kQ R h [] [] = True:=(rfl)
theorem Dk {a : AV} {l : List AV} {d : VD} {ds : List VD} : kQ R h (a :: l) (d :: ds) = (xe R h a d/\kQ R h l ds):=(rfl)
variable {key : Nat}
theorem Mj {u : Value} {sz : Nat} {F : AV->AH->Prop} : qG h key (.v u,sz) F = F (.v u) h:=(rfl)
theorem Ml {rows : List (List CD)} {sz : Nat} {F : AV->AH->Prop} : qG h key (.s rows,sz) F = ∀ H,F (.sl key H sz 0 rows.length) ((key,.rows H sz rows true) :: h):=(rfl)
theorem CY {F : List AV->AH->Nat->Prop} : qK h key [] F = F [] h key:=(rfl)
theorem Ae {t : CD × Nat} {ts : List (CD × Nat)} {F : List AV->AH->Nat->Prop} : qK h key (t :: ts) F = qG h key t λv h'=>qK h' (key + 1) ts λl h'' key'=>F (v :: l) h'' key':=(rfl)
theorem IF {d : CD} {sz : Nat} {F : AV->AH->Nat->Prop} : oQ h key (.c d sz) F = qG h key (d,sz) λv h'=>F v h' (key + 1):=(rfl)
theorem CV {ts : List (CD × Nat)} {F : AV->AH->Nat->Prop} : oQ h key (.agg ts) F = qK h key ts λl h' key'=>F (.agg l) h' key':=(rfl)
theorem Ad {F : List AV->AH->Prop} : mh h key [] F = F [] h:=(rfl)
theorem yj {r : RV} {rs : List RV} {F : List AV->AH->Prop} : mh h key (r :: rs) F = oQ h key r λv h' key'=>mh h' key' rs λl h''=>F (v :: l) h'':=(rfl)
theorem CX {r : RV} {F : AV->AH->Prop} : sD h key (.one r) F = oQ h key r λv h' _=>F v h':=(rfl)
theorem CW {rs : List RV} {F : AV->AH->Prop} : sD h key (.tup rs) F = mh h key rs λl h'=>F (.tup l) h':=(rfl)
variable {F : AH->Prop} {t : CD × Nat}
@[congr] theorem QX {x' : AV} (hx : x = x') : rh h x t F = rh h x' t F:=by rw [hx]
theorem O0 {u : Value} : rh h (.v u) t F = (t.1 = .v u/\F h):=(rfl)
theorem Ih : rh h .nil t F = (t.1 = .s []/\0 < t.2/\F h):=(rfl)
theorem LP {k sz off len : Nat} {H : Hd} : rh h (.sl k H sz off len) t F = wR (h.get k) λH' sz' rows own=>H = H'/\sz = sz'/\t.2 = sz/\0 < sz/\own = true/\off + len<=rows.length/\(∀ row∈rows,row.length = sz)/\t.1 = .s (cut rows off len)/\F ((k,.dead) :: h):=by
 simp only [rh,wR];cases h.get k<;>rfl
theorem FD : qZ h [] [] F = F h:=(rfl)
theorem CC {a : AV} {l : List AV} {ts : List (CD × Nat)} : qZ h (a :: l) (t :: ts) F = rh h a t λh'=>qZ h' l ts F:=(rfl)
theorem LQ {d : CD} {sz : Nat} : nU h x (.c d sz) F = rh h x (d,sz) F:=(rfl)
theorem FB {l : List AV} {ts : List (CD × Nat)} : nU h (.agg l) (.agg ts) F = qZ h l ts F:=(rfl)
theorem Cy : lE h [] [] F = F h:=(rfl)
theorem zK {a : AV} {l : List AV} {r : RV} {rs : List RV} : lE h (a :: l) (r :: rs) F = nU h a r λh'=>lE h' l rs F:=(rfl)
theorem Ib {L : List AV->Prop} : dB E st [] L = L []:=(rfl)
theorem Ia {i : Nat} {rs : List ResultVar} {L : List AV->Prop} : dB E st (.tmp i :: rs) L = dB E st rs λl=>L (aD st.t i :: l):=(rfl)
theorem Fq {i : Nat} {t : TypeId} {rs : List ResultVar} {L : List AV->Prop} : dB E st (.cell i t :: rs) L = lT E st.h t (aD st.t i) λv=>dB E st rs λl=>L (v :: l):=(rfl)
theorem H8 {r : RV} : tW h (.one r) [x] = nU h x r λ_=>True:=(rfl)
theorem HZ {rs : List RV} {l : List AV} : tW h (.tup rs) l = (l.length≠1/\lE h l rs λ_=>True):=(rfl)
variable {rs : List ResultVar} {rr : RR}
theorem MM : qS E rs rr .normal st = dB E st rs (tW st.h rr):=(rfl)
theorem ML : qS E rs rr .ret st = dB E st rs (tW st.h rr):=(rfl)
theorem L9 {β : Type} {Inv : β->Prop} {I : β->ASt} {μ : β->Nat} {x : β} : BS Inv I μ x Q .normal st = ∃ x',Inv x'/\μ x' < μ x/\tM st (I x'):=(rfl)
theorem L5 {β : Type} {Inv : β->Prop} {I : β->ASt} {μ : β->Nat} {x : β} : BS Inv I μ x Q .ret st = Q .ret st:=(rfl)
theorem Ma {β : Type} {Inv : β->Prop} {I : β->ASt} {μ : β->Nat} {x : β} {i : Nat} : BS Inv I μ x Q (.exit i) st = Q (.exit i) st:=(rfl)
end calls
end
section weak
def wkT (t : List (Nat × AV)) : List (Nat × AV)->Prop
 | []=>True
 | (i,v) :: l=>gq (aD t i) v/\wkT t l
def wkH (h : AH) : AH->Prop
 | []=>True
 | (i,o) :: l=>ez (h.get i) o/\wkH h l
theorem zk {t : List (Nat × AV)} : ∀ l : List (Nat × AV),(∀ p∈l,gq (aD t p.1) p.2) = wkT t l
 | []=>by simp [wkT]
 | (i,v) :: l=>by simp only [List.mem_cons,forall_eq_or_imp,wkT,zk l]
theorem rB {h : AH} : ∀ l : AH,(∀ p∈l,ez (h.get p.1) p.2) = wkH h l
 | []=>by simp [wkH]
 | (i,v) :: l=>by simp only [List.mem_cons,forall_eq_or_imp,wkH,rB l]
theorem HI {n kb n' kb' : Nat} {t t' : List (Nat × AV)} {h h' : AH} : tM ⟨n,kb,t,h⟩ ⟨n',kb',t',h'⟩ = (n = n'/\kb = kb'/\wkT t t'/\wkH h h'):=by
 unfold tM;simp only [zk,rB]
theorem HF {t : List (Nat × AV)} : wkT t [] = True:=(rfl)
theorem Ed {t l : List (Nat × AV)} {i : Nat} {v : AV} : wkT t ((i,v) :: l) = (gq (aD t i) v/\wkT t l):=(rfl)
theorem HG {h : AH} : wkH h [] = True:=(rfl)
theorem Ee {h l : AH} {i : Nat} {o : AObj} : wkH h ((i,o) :: l) = (ez (h.get i) o/\wkH h l):=(rfl)
theorem Mf {a : AV} : gq a .any = True:=(rfl)
theorem RG {a : AV} {u : Value} : gq a (.v u) = (a = .v u):=(rfl)
theorem Md {a : AV} : gq a .nil = (a = .nil):=(rfl)
theorem Pa {a : AV} : gq a .un = (a = .un):=(rfl)
theorem RH {a : AV} {k b c : Nat} : gq a (.p k b c) = (a = .p k b c):=(rfl)
theorem Mg {a : AV} {l : List AV} : gq a (.agg l) = (a = .agg l):=(rfl)
theorem Mc {a : AV} {l : List AV} : gq a (.tup l) = (a = .tup l):=(rfl)
theorem Me {a : AV} {f : Nat} {l : List AV} : gq a (.clo f l) = (a = .clo f l):=(rfl)
theorem Pe {a : AV} {u : Value} {len : Nat} : gq a (.cv u len) = (a = .cv u len):=(rfl)
theorem Pd {a : AV} {k sz len : Nat} {H : Hd} : gq a (.ml k H sz len) = (a = .ml k H sz len):=(rfl)
theorem RI {a : AV} {k sz r c : Nat} {H : Hd} : gq a (.e k H sz r c) = (a = .e k H sz r c):=(rfl)
theorem Pb {a : AV} {k sz off len : Nat} {H : Hd} : gq a (.sl k H sz off len) = (a = .sl k H sz off len\/(a = .nil/\H = none/\off = 0/\len = 0)):=(rfl)
theorem Pc {a : AV} {rows : List (List CD)} : gq a (.ro rows) = (a = .ro rows\/(a = .nil/\rows = [])):=(rfl)
theorem FL {o : AObj} : ez o .dead = True:=(rfl)
theorem FH {b b' : Nat} {t t' : TypeId} {c c' : List AV} : ez (.vars b' t' c') (.vars b t c) = (b' = b/\t' = t/\ALe c' c):=(rfl)
theorem FK {o : AObj} {H : Hd} {sz : Nat} {rows : List (List CD)} : ez o (.lent H sz rows) = (o = .lent H sz rows):=(rfl)
theorem FJ {o : AObj} {H : Hd} {sz lo : Nat} {rows : List (List CD)} : ez o (.part H sz rows lo) = (o = .part H sz rows lo):=(rfl)
theorem FI {o : AObj} {H : Hd} {sz : Nat} {rows : List (List CD)} {own : Bool} : ez o (.rows H sz rows own) = (o = .rows H sz rows own\/(o = .dead/\H = none/\rows = [])):=(rfl)
theorem Jb : ALe [] [] = True:=(rfl)
theorem G0 {a b : AV} {l l' : List AV} : ALe (a :: l) (b :: l') = (gq a b/\ALe l l'):=(rfl)
end weak
theorem xp {P : Program} {T : Nat → Option TI} (hT : ∀ t ti, T t = some ti → TIok P t ti) {f : Nat} {fn : Func} {c : Code} (hf : P.funcs[f]? = some fn) (hname : (fn.name == "runtime.NumGoroutine") = false) (hb : fn.body = some c)
 {n : Nat} {rs : List ResultVar} (hn : fn.ntmps = n) (hrs : fn.results = ⟨rs⟩) {args : List VD} {res : RR} (ha : args.length<=n)
 (h : ∀ w0 base,dZ ⟨P,T,w0,⟨base,base,false,λ_=>True⟩⟩ c (qS ⟨P,T,w0,⟨base,base,false,λ_=>True⟩⟩ rs res) { n:=n,kb:=0,t:=jE 0 args,h:=[] }) : aj P f args res:=by
 subst hn;exact aj.intro hT hf hname hb ha (by rw [hrs];exact h)
attribute [simp] RT RU Df F7 yp KG KH KJ KF Ej DH I5 DF GR GQ I6 DG O3 GT GS LW LV Pe Pd RI Im LU LT O4 In Io Fz LK LJ I2 Mf RG Md Pa RH Mg Mc Me Pb Pc FL FH FI Jb G0 jE VD.toAV isV
attribute [simp ↓] So Sq Sp M8 Hk Nb Qb Nc Ju M9 Na Qd Nj Ni Nk Nn Nl No Nm DP Ja DR A2 Qo Nr Jw IP IO Nq Qm R5 Qk P_v R8 R6 P_p P_e R7 Qn Qj Ql Sa R9 Qt Hr Bf QN QP NE MD MH I0 ME MG IZ F4 F5 HJ HM yT M3 Hh M2 Jr M5 P0 Qa PZ M6 Jn He Nf Jp Hf Jo P8 D8 Js P9 Hg M4 Jm P7 Hi P4 P6 M7 Jd MR Jg D5 D4 JS Aw yq Bb Ba QM Qz QF QD QC QL Sr Qy QB QA QG QH QI QJ QK QE NB NA Ny Nv Nz G7 D0 A9 Nu NW NX HK Sj Si Sk Se Sd Sg Sf Qs Nt Qr Sm CJ CK zY zZ Q4 NR Q6 D_p D_e HL F_p F_e Sl DQ Qu Sn Qx Qw Qv Z_v PQ R4 MV MW Jh W_p W_e D3 Dt AL Qq Sc Qp Sb QO Ss St ND Qi Nh tL G6 D6 Jf Qf Qe Qg Nd AZ DJ RK Mn Pj Pi Pl Pk IN Gc Pm IM Gb Dk Mj Ml CY Ae IF CV Ad yj CX CW O0 Ih LP FD CC LQ FB Cy zK Ib Ia Fq H8 HZ MM ML L9 L5 Ma HI HF Ed HG Ee
attribute [simp] FK FJ
attribute [simp ↓] NU NV NS NT Gj Gk CM z9 IB CO FS FQ CN
open Go.RowKit
def vl (x : AV) (F : Nat->List AV->Prop) : Prop:=
 match x with
 | .clo f caps=>F f caps
 | .v (.func (.func f) _ _)=>F f []
 | _=>False
@[congr] theorem PE {x x' : AV} {F : Nat->List AV->Prop} (h : x = x') : vl x F = vl x' F:=by rw [h]
theorem I7 {f : Nat} {a b : Array Value} {F : Nat->List AV->Prop} : vl (.v (.func (.func f) a b)) F = F f []:=(rfl)
theorem I8 {f : Nat} {l : List AV} {F : Nat->List AV->Prop} : vl (.clo f l) F = F f l:=(rfl)
theorem Jq {E : Env} {st : ASt} {K : ASt->Prop} {d : Option Nat} {t : TypeId} {p : String} {af : Array Edge} {g : Option (Nat × Bool)} {i : Nat} {l : List Operand} {ts : List TypeId} :
 aOp E ⟨d,.call ⟨.value (.tmp i),⟨l⟩,⟨ts⟩⟩,t,p,af,g⟩ st K = vl (aD st.t i) λf caps=>aa E f (l.map st.ev ++ caps) st d K:=by
 simp only [aOp,G8,vl]
 cases aD st.t i with
 | v u=>
   cases u with
   | func f a b=>cases f<;>simp
   | _=>rfl
 | _=>rfl
def sv (v : AV) (F : AV->Prop) : Prop:=F v
@[congr] theorem SA {v v' : AV} {F : AV->Prop} (h : v = v') : sv v F = sv v' F:=by rw [h]
section
variable {E : Env} {st : ASt} {F : AV->Prop} {u : Value} {rows : List (List CD)} {l : List AV} {k sz off len f b c r : Nat} {H : Hd} {row : List CD}
theorem Rm : sv (.v u) F = F (.v u):=(rfl)
theorem OO {len : Nat} : sv (.cv u len) F = F (.cv u len):=(rfl)
theorem ON {len : Nat} : sv (.ml k H sz len) F = F (.ml k H sz len):=(rfl)
theorem OJ : sv .un F = F .un:=(rfl)
theorem Ly : sv .nil F = F .nil:=(rfl)
theorem OM : sv (.ro rows) F = F (.ro rows):=(rfl)
theorem OK : sv (.sl k H sz off len) F = F (.sl k H sz off len):=(rfl)
theorem Rn : sv (.p k b c) F = F (.p k b c):=(rfl)
theorem Ro : sv (.e k H sz r c) F = F (.e k H sz r c):=(rfl)
theorem OL : sv (.rp row) F = F (.rp row):=(rfl)
theorem LA : sv (.agg l) F = F (.agg l):=(rfl)
theorem Lx : sv (.tup l) F = F (.tup l):=(rfl)
theorem Lz : sv (.clo f l) F = F (.clo f l):=(rfl)
@[congr] theorem Qh {f : Nat} {l l' : List AV} {h : AH} (hl : l = l') : Cd E f l h F = Cd E f l' h F:=by rw [hl]
variable {x y : Operand} {T' U : TypeId}
theorem MY : fb E st (.move x) F = sv (st.ev x) F:=(rfl)
theorem Hc : fb E st (.assign x) F = sv (st.ev x) F:=(rfl)
theorem MX {c a b : Operand} : fb E st (.pick c a b) F = jG (st.ev c) λz=>Br z (ph (sv (st.ev a) F)) (ph (sv (st.ev b) F)):=(rfl)
theorem Jl {l : List (Nat × Operand)} : fb E st (.build T' ⟨l⟩) F = kC E T' (l.map λq=>(q.1,st.ev q.2)) λv=>sv v F:=(rfl)
theorem MZ : fb E st (.load T' x) F = lT E st.h T' (st.ev x) λv=>sv v F:=(rfl)
theorem PS : fb E st (.nilCheck x) F = ri (st.ev x) λv=>sv v F:=(rfl)
theorem PY {op : BinOp} : fb E st (.binOp op T' x y U) F = kR E op T' (st.ev x) (st.ev y) λv=>sv v F:=(rfl)
theorem PR : fb E st (.unOp .not T' x) F = jG (st.ev x) λb=>sv (.v (.bool (!b))) F:=(rfl)
theorem M0 {s : TypeId} : fb E st (.convert s T' x) F = iK E st.h s T' (st.ev x) λv=>sv v F:=(rfl)
theorem Ji {lo hi : Option Operand} : fb E st (.slice T' x lo hi none) F = gL E T' (st.ev x) (lo.map st.ev) (hi.map st.ev) λv=>sv v F:=(rfl)
theorem Jk {f : Nat} : fb E st (.fieldAddr T' x f) F = lG E T' f (st.ev x) λv=>sv v F:=(rfl)
theorem Hb {f : Nat} : fb E st (.field T' x f) F = lF E T' f (st.ev x) λv=>sv v F:=(rfl)
theorem Jj : fb E st (.indexAddr T' x y) F = cO E T' λ_ te=>aCv E (st.ev x) λz=>indexAt te z (st.ev y) λv=>sv v F:=(rfl)
theorem PX : fb E st (.index T' x y) F = zd E T' (st.ev x) (st.ev y) λv=>sv v F:=(rfl)
theorem D7 {i : Nat} : fb E st (.extract x i) F = dE (st.ev x) i λv=>sv v F:=(rfl)
theorem PW : fb E st (.call ⟨.builtin .len,#[x],#[T']⟩) F = np E T' (st.ev x) λv=>sv v F:=(rfl)
theorem PT {U1 U2 : TypeId} : fb E st (.call ⟨.builtin .min,#[x,y],#[U1,U2]⟩) F = xc (st.ev x) (st.ev y) λv=>sv v F:=(rfl)
theorem PU {U1 U2 : TypeId} : fb E st (.call ⟨.builtin .max,#[x,y],#[U1,U2]⟩) F = y9 (st.ev x) (st.ev y) λv=>sv v F:=(rfl)
theorem M1 {f : Nat} {l : List Operand} {ts : List TypeId} : fb E st (.call ⟨.value (.func f),⟨l⟩,⟨ts⟩⟩) F = Cd E f (l.map st.ev) st.h λv=>sv v F:=(rfl)
end
section
variable {E : Env} {all rest : List Oper} {n kb : Nat} {t : List (Nat × AV)} {h : AH} {K : ASt->Prop}
def rj (E : Env) (all : List Oper) (n kb : Nat) (h : AH) : List Oper->(t : List (Nat × AV))->(List (Nat × AV)->Prop)->Prop
 | [],t,K=>K t
 | o :: rest,t,K=>dg E all o ⟨n,kb,t,h⟩ λv=>rj E all n kb h rest ((o.dst.getD 0,v) :: t) K
variable {F : List (Nat × AV)->Prop} {op : Op} {ty : TypeId} {p : String} {af : Array Edge} {d : Nat}
theorem NC : rj E all n kb h [] t F = F t:=(rfl)
theorem Jz : rj E all n kb h (⟨some d,op,ty,p,af,none⟩ :: rest) t F = fb E ⟨n,kb,t,h⟩ op λv=>rj E all n kb h rest ((d,v) :: t) F:=(rfl)
theorem Hw {j : Nat} {b : Bool} : rj E all n kb h (⟨some d,op,ty,p,af,some (j,b)⟩ :: rest) t F = w7 (gO all j) λs=>rg (aD t s) b (ph (fb E ⟨n,kb,t,h⟩ op λv=>rj E all n kb h rest ((d,v) :: t) F)) (ph (rj E all n kb h rest ((d,.un) :: t) F)):=by
 simp only [rj,dg,w7,rg]
 cases gO all j with
 | none=>rfl
 | some s=>rfl
theorem Cc {ops : List Oper} {G : PV -> Prop} (hG : ∀ pv,G pv = F (pvT pv ++ t)) : ∀ (l : List Nat) (pv : PV),(∀ i ∈ l,∃ d,(aq ops i).dst = some d /\ d < n) -> (∀ p ∈ pv,∀ d,p.2.1.dst = some d -> d < n) ->
 ol E ops ⟨n,kb,t,h⟩ pv (l.map λi=>(i,aq ops i)) (λpv'=>(∀ p∈pv',∀ d,p.2.1.dst = some d->d < n)/\G pv') = rj E ops n kb h (l.map (aq ops)) (pvT pv ++ t) F
 | [],pv,_,hpv=>by
   simp only [List.map_nil,ol,rj];rw [hG];exact propext ⟨λh=>h.2,λh=>⟨hpv,h⟩⟩
 | i :: l,pv,hl,hpv=>by
   simp only [List.map_cons,ol,rj];refine congrArg _ ?_
   funext v
   obtain ⟨d,hd,hlt⟩:=hl i (List.mem_cons_self ..)
   rw [Cc hG l _ (λj hj=>hl j (List.mem_cons_of_mem _ hj)) (λp hp d' hd'=>by
    rcases List.mem_cons.1 hp with rfl | hp
    ·rw [hd] at hd';cases hd';exact hlt
    ·exact hpv p hp d' hd')]
   have : pvT ((i,aq ops i,v) :: pv) = (d,v) :: pvT pv:=by simp [pvT,hd]
   rw [this,hd];rfl
def Bz (n : Nat) (ops : List Oper) : Bool:=og ops (List.range ops.length) [] && ops.all λo=>match o.dst with | some d=>decide (d < n) | none=>false
theorem am.quiet {E : Env} (hE : EOk E) (hm : E.P.follows .mixedOrders = true) {id : Nat} {ops : List Oper} {Q : Exit->ASt->Prop} {n kb : Nat} {t : List (Nat × AV)} {h : AH} (hok : Bz n ops = true)
 (hx : rj E ops n kb h ops t λt'=>Q .normal ⟨n,kb,t',h⟩) : am E id ops Q ⟨n,kb,t,h⟩:=by
 simp only [Bz,Bool.and_eq_true] at hok;obtain ⟨h1,h2⟩:=hok
 have hd : ∀ i∈List.range ops.length,∃ d,(aq ops i).dst = some d/\d < n:=by
  intro i hi;have hlt:=List.mem_range.1 hi;have hop : aq ops i = ops[i]:=by simp [aq,hlt]
  have:=List.all_eq_true.1 h2 ops[i] (List.getElem_mem hlt);rw [hop]
  split at this
  ·rename_i d hd;exact ⟨d,hd,by simpa using this⟩
  ·simp at this
 have hmap : (List.range ops.length).map (aq ops) = ops:=by
  refine List.ext_getElem (by simp) (λi hi hi'=>?_);simp [aq,hi']
 refine pt hE hm (List.range ops.length) [] (.inl rfl) h1 (λpv st'=>st' = ⟨n,kb,pvT pv ++ (cM pv ++ t),h⟩/\Q .normal ⟨n,kb,pvT pv ++ t,h⟩) ?_ ?_
 ·have:=Cc (E:=E) (ops:=ops) (kb:=kb) (h:=h) (t:=t) (n:=n) (F:=λt'=>Q .normal ⟨n,kb,t',h⟩) (G:=λpv=>qU E ops ⟨n,kb,t,h⟩ pv [] [] { (⟨n,kb,t,h⟩ : ASt) with t:=cM pv ++ t } (λst'=>st' = ⟨n,kb,pvT pv ++ (cM pv ++ t),h⟩/\Q .normal ⟨n,kb,pvT pv ++ t,h⟩)) (λpv=>by
   simp only [qU];rw [show (pv.filter λp=>!([] : List Nat).contains p.1) = pv from List.filter_eq_self.2 (by simp)];simp) (List.range ops.length) [] hd (by simp)
  simp only [List.map_nil] at this ⊢;rw [this,hmap];exact hx
 ·rintro pv st' a w ⟨rfl,hq⟩ hR
  refine ⟨_,hq,hR.dfr,hR.size,λs=>?_,hR.heap,hR.below,hR.base_le⟩
  show VRel w h.M (aD (pvT pv ++ t) s) _
  by_cases hs : ∃ p∈pvT pv,p.1 = s
  ·have e1 : ∀ x y : List (Nat × AV),aD (pvT pv ++ x) s = aD (pvT pv ++ y) s:=by
    intro x y;obtain ⟨p,hp,rfl⟩:=hs;generalize pvT pv = l at hp
    induction l with
    | nil=>simp at hp
    | cons q l ih=>
      obtain ⟨q1,q2⟩:=q;simp only [List.cons_append,aD];by_cases hq : p.1 = q1
      ·rw [if_pos hq,if_pos hq]
      ·rw [if_neg hq,if_neg hq]
       rcases List.mem_cons.1 hp with rfl | hp
       ·exact absurd rfl hq
       ·exact ih hp
   rw [e1 t (cM pv ++ t)];exact hR.tmp s
  ·have:=hR.tmp s
   have hne : ∀ p∈pvT pv,p.1≠s:=λp hp he=>hs ⟨p,hp,he⟩
   have hne' : ∀ p∈cM pv,p.1≠s:=by
    intro p hp he;unfold cM at hp;rw [List.mem_filterMap] at hp;obtain ⟨x,hx,hd⟩:=hp;rw [Option.map_eq_some_iff] at hd;obtain ⟨d,hd,rfl⟩:=hd;exact hs ⟨(d,x.2.2),by unfold pvT;rw [List.mem_filterMap];exact ⟨x,hx,by rw [hd];rfl⟩,he⟩
   rw [fi hne];have h3 : aD (pvT pv ++ (cM pv ++ t)) s = aD t s:=by rw [fi hne,fi hne']
   have h4 : VRel w h.M (aD (pvT pv ++ (cM pv ++ t)) s) (a.tmps.getD s undef):=this;rw [h3] at h4;exact h4
end
attribute [simp ↓] I7 I8 Jq Rm OJ OO ON Ly OM OK Rn Ro OL LA Lx Lz MY Hc MX Jl MZ PS PY PR M0 Ji Jk Hb Jj PX D7 PW PT PU M1 NC Jz Hw
attribute [simp] roR roV
open Go.RowKit
mutual
def AV.q : AV->Bool
 | .ro _=>false
 | .rp _=>false
 | .agg l=>AV.qL l
 | .tup l=>AV.qL l
 | .clo _ l=>AV.qL l
 | _=>true
def AV.qL : List AV->Bool
 | []=>true
 | a :: l=>a.q && AV.qL l
end
def AObj.q : AObj->Bool
 | .dead=>true
 | .vars _ _ cells=>AV.qL cells
 | .rows _ _ _ own=>own
 | _=>false
def qT : List (Nat × AV)->Bool
 | []=>true
 | (_,v) :: l=>v.q && qT l
def qH : AH->Bool
 | []=>true
 | (_,o) :: l=>o.q && qH l
def ASt.quiet (st : ASt) : Prop:=qT st.t = true/\qH st.h = true
theorem kT : ∀ (l : List AV),AV.qL l = true->∀ (i : Nat) (a : AV),l[i]? = some a->a.q = true
 | [],_,i,a,h=>by simp at h
 | b :: l,h,i,a,hi=>by
   simp only [AV.qL,Bool.and_eq_true] at h
   cases i with
   | zero=>simp at hi;subst hi;exact h.1
   | succ i=>exact kT l h.2 i a (by simpa using hi)
theorem VRel.quiet {w w' : World} {M M' : Nat->Prop} {av : AV} {x : Value} (h : VRel w M av x) (hq : av.q = true) : VRel w' M' av x:=by
 induction h with
 | any x=>exact .any x
 | un=>exact .un
 | nil=>exact .nil
 | v u h=>exact .v u h
 | ro rows x h=>simp [AV.q] at hq
 | sl k H sz off len x h=>exact .sl k H sz off len x h
 | cv u len h=>exact .cv u len h
 | ml k H sz len x h=>exact .ml k H sz len x h
 | is u=>exact .is u
 | p k b c=>exact .p k b c
 | e k b o C sz r c=>exact .e k b o C sz r c
 | rp row b o cs T fr hM hb hfit hr=>simp [AV.q] at hq
 | agg l xs hs _ ih=>exact .agg l xs hs (λi av hi=>ih i av hi (kT l (by simpa [AV.q] using hq) i av hi))
 | tup l xs hs _ ih=>exact .tup l xs hs (λi av hi=>ih i av hi (kT l (by simpa [AV.q] using hq) i av hi))
 | clo f l xs hs _ ih=>exact .clo f l xs hs (λi av hi=>ih i av hi (kT l (by simpa [AV.q] using hq) i av hi))
theorem zG : ∀ (t : List (Nat × AV)),qT t = true->∀ i,(aD t i).q = true
 | [],_,i=>rfl
 | (k,v) :: t,h,i=>by
   simp only [qT,Bool.and_eq_true] at h;unfold aD
   split
   ·exact h.1
   ·exact zG t h.2 i
theorem Fy : ∀ (h : AH),qH h = true->∀ i,(h.get i).q = true
 | [],_,i=>rfl
 | (k,v) :: t,h,i=>by
   simp only [qH,Bool.and_eq_true] at h;rw [aH]
   split
   ·exact h.1
   ·exact Fy t h.2 i
def Ent (E : Env) (st : ASt) (S : ASt->Prop) : Prop:=∀ a w,Rep E.w0 E.base st a w->∃ st',S st'/\Rep E.w0 E.base st' a w
theorem Ent.refl {E : Env} {st : ASt} {S : ASt->Prop} (h : S st) : Ent E st S:=λ_ _ hR=>⟨st,h,hR⟩
def BT {β : Type} (E : Env) (Inv : β->Prop) (I : β->ASt) (μ : β->Nat) (x : β) (Q : Exit->ASt->Prop) : Exit->ASt->Prop
 | .normal,st=>Ent E st λst'=>∃ x',Inv x'/\μ x' < μ x/\tM st' (I x')
 | e,st=>Q e st
theorem ag {E : Env} (hE : EOk E) {body : Code} {Q : Exit->ASt->Prop} {st : ASt} {β : Type} (Inv : β->Prop) (I : β->ASt) (μ : β->Nat) (x0 : β) (h0 : Inv x0) (hw : tM st (I x0))
 (hr : ∀ x,Inv x->Ent E (I x) (dZ E body (BT E Inv I μ x Q))) : au E body Q st:=by
 intro a w hR;refine wp_loop_ghost (λn a w=>∃ x,Inv x/\μ x = n/\Rep E.w0 E.base (I x) a w) (μ x0) ⟨x0,h0,rfl,hw.rep hR⟩ ?_
 rintro n a w ⟨x,hx,rfl,hR⟩
 obtain ⟨st1,hs1,hR1⟩:=hr x hx a w hR;refine wp_mono (bL hE body _ _ a w hR1 hs1) ?_
 rintro e a' w' ⟨st',hq,hR'⟩
 cases e with
 | normal=>
   obtain ⟨st2,⟨x',h1,h2,h3⟩,hR2⟩:=hq a' w' hR';exact ⟨μ x',h2,x',h1,rfl,h3.rep hR2⟩
 | _=>exact ⟨st',hq,hR'⟩
def iR (rows : List (List CD)) (i j : Nat) (d : CD) : List (List CD):=rows.modify i λr=>r.set j d
theorem io (rows : List (List CD)) (i j : Nat) (d : CD) : (iR rows i j d).length = rows.length:=by simp [iR]
theorem xG {rows : List (List CD)} {i j : Nat} {d : CD} {i' j' : Nat} {row : List CD} {x : CD} (hi : (iR rows i j d)[i']? = some row) (hj : row[j']? = some x) :
 (i' = i/\j' = j/\x = d)\/¬ (i' = i/\j' = j)/\∃ row0,rows[i']? = some row0/\row0[j']? = some x:=by
 unfold iR at hi;rw [List.getElem?_modify] at hi;by_cases h : i = i'
 ·subst h
  simp only [↓reduceIte,Option.map_eq_map,Option.map_eq_some_iff] at hi;obtain ⟨row0,h0,rfl⟩:=hi;rw [List.getElem?_set] at hj;by_cases h2 : j = j'
  ·subst h2
   rw [if_pos rfl] at hj
   split at hj
   ·simp at hj;exact .inl ⟨rfl,rfl,hj.symm⟩
   ·simp at hj
  ·rw [if_neg h2] at hj
   exact .inr ⟨λh=>h2 h.2.symm,row0,h0,hj⟩
 ·simp only [if_neg h] at hi
  simp at hi;exact .inr ⟨λh'=>h h'.1.symm,row,hi,hj⟩
theorem xF {rows : List (List CD)} {i j sz : Nat} {d : CD} (h : ∀ row∈rows,row.length = sz) : ∀ row∈iR rows i j d,row.length = sz:=by
 intro row hr;obtain ⟨k,hk⟩:=List.getElem?_of_mem hr;unfold iR at hk;rw [List.getElem?_modify] at hk;by_cases h' : i = k
 ·subst h'
  simp only [↓reduceIte,Option.map_eq_map,Option.map_eq_some_iff] at hk;obtain ⟨row0,h0,rfl⟩:=hk;simp [h row0 (List.mem_of_getElem? h0)]
 ·simp only [if_neg h'] at hk
  simp at hk;exact h row (List.mem_of_getElem? hk)
theorem Rep.reheap {w0 : World} {base : Bs} {st : ASt} {a : Act} {w : World} (hR : Rep w0 base st a w) (hq : qT st.t = true) {h' : AH} {E' : Nat->Nat->Prop} (H : HRel base h' w E') : Rep w0 base { st with h:=h' } a w:=
 ⟨hR.dfr,hR.size,λi=>(hR.tmp i).quiet (zG _ hq i),⟨E',H⟩,hR.below,hR.base_le⟩
theorem dw.quiet {w : World} {M M' E : Nat->Prop} {o : AObj} (h : dw w M E o) (hq : o.q = true) (hM : ∀ c,E c->¬ M c->¬ M' c) : dw w M' E o:=by
 cases o with
 | dead=>exact h
 | vars b T cells=>
   obtain ⟨cs,h1,h2,h3⟩:=h;exact ⟨cs,h1,h2,λj av hj=>(h3 j av hj).quiet (kT _ (by simpa [AObj.q] using hq) j av hj)⟩
 | rows H sz rows own=>
   cases H with
   | none=>exact h
   | some q=>
     obtain ⟨b,o,C⟩:=q;obtain ⟨cs,T,F,h1,h2,h3,h4,h5,h6,h7,h8,h9⟩:=h;refine ⟨cs,T,F,h1,h2,h3,h4,h5,h6,λi j c hc=>⟨(h7 i j c hc).1,?_⟩,h8,h9⟩;exact hM c ((h7 i j c hc).1 (by simpa [AObj.q] using hq)) (h7 i j c hc).2
 | lent=>simp [AObj.q] at hq
 | part=>simp [AObj.q] at hq
theorem Ent.open {E : Env} {st : ASt} {S : ASt->Prop} (hFG : ∀ b,E.base.F b->E.base.G b) {k i j k' sz sz' : Nat} {H : Hd} {rows srows : List (List CD)} {row : List CD} (hk : st.h.get k = .rows H sz rows true)
 (hi : rows[i]? = some row) (hj : row[j]? = some (.s srows)) (hk' : st.h.get k' = .dead) (hz : 0 < sz') (hr : ∀ r∈srows,r.length = sz') (hq : st.quiet)
 (h : ∀ H',Ent E { st with h:=(k',.rows H' sz' srows true) :: (k,.rows H sz (iR rows i j (.h k' H' sz' srows.length)) true) :: st.h } S) : Ent E st S:=by
 intro a w hR;obtain ⟨Es,HH⟩:=hR.heap;have hne : k'≠k:=by rintro rfl;rw [hk] at hk';cases hk'
 have ho:=HH.obj k;rw [hk] at ho
 cases H with
 | none=>rw [show rows = [] from ho] at hi;simp at hi
 | some q=>
   obtain ⟨b,o,C⟩:=q;obtain ⟨cs,T,F,hb,hl,hC,hsz,hfit,hrl,hF,hd,hrd⟩:=ho;have hu:=hrd i j row _ hi hj;obtain ⟨u,hud⟩ : ∃ u,cs.getD (o + (i * sz + j)) undef = u:=⟨_,rfl⟩;rw [hud] at hu;have hblkk : (st.h.get k).blk = some b:=by rw [hk];rfl
   by_cases hs0 : srows = []/\(MlS k' sz' 0->∃ a,u = .slice a 0 0)
   ·obtain ⟨rfl,hs1⟩:=hs0
    refine h none a w (hR.reheap hq.1 (E':=Es) ?_)
    have hg : ∀ x,(AH.get ((k',AObj.rows none sz' [] true) :: (k,AObj.rows (some (b,o,C)) sz (iR rows i j (.h k' none sz' 0)) true) :: st.h) x).blk = (st.h.get x).blk:=by
     intro x;rw [aH,aH]
     split
     ·rename_i hx;subst hx;rw [hk'];rfl
     ·split
      ·rename_i hx;subst hx;rw [hk];rfl
      ·rfl
    have hM : ∀ c,AH.M ((k',AObj.rows none sz' [] true) :: (k,AObj.rows (some (b,o,C)) sz (iR rows i j (.h k' none sz' 0)) true) :: st.h) c ↔ st.h.M c:=by
     intro c;unfold AH.M;simp only [hg]
    refine ⟨λx=>?_,λx x' c h1 h2=>HH.inj x x' c (by rw [<- hg];exact h1) (by rw [<- hg];exact h2),λx c h1=>HH.low x c (by rw [<- hg];exact h1),HH.elow,HH.einj,λx c hc hm=>HH.em x c hc ((hM c).1 hm)⟩;rw [aH,aH]
    split
    ·rfl
    ·split
     ·rename_i hx
      subst hx;refine ⟨cs,T,F,hb,by rw [io];exact hl,hC,hsz,hfit,xF hrl,λi j c hc=>⟨(hF i j c hc).1,λhm=>(hF i j c hc).2 ((hM c).1 hm)⟩,hd,?_⟩;intro i2 j2 row2 d2 h1 h2;rcases xG h1 h2 with ⟨rfl,rfl,rfl⟩ | ⟨-,row0,h3,h4⟩
      ·rw [hud];exact .h _ _ _ _ _ (λh=>⟨hs1 h,rfl⟩) (λ_ _=>hu)
      ·exact hrd _ _ _ _ h3 h4
     ·exact (HH.obj x).mono (λc _ hc=>(hM c).1 hc) (λ_ hc=>hc)
   ·cases hu with
    | empty a cap hc=>exact absurd ⟨rfl,λ_=>⟨a,by rw [hc rfl]⟩⟩ hs0
    | slice b1 off1 cap1 sz1 cs1 T1 fr1 _ F1 hcap1 hmax1 hsz1 hS1 hb1 hfit1 hown1 hF1 hd1 hlen1 hr1=>
      obtain ⟨hfr1,hroom1⟩:=hown1 rfl;subst hfr1
      have hkey : off1 + cap1 * sz'<=cs1.size/\(∀ row∈srows,row.length = sz')/\∀ i j row d,srows[i]? = some row->row[j]? = some d->Rd w true (F1 i j) (cs1.getD (off1 + (i * sz' + j)) undef) d:=by
       cases srows with
       | nil=>
         have h1 : sz' = 1:=Classical.byContradiction λh=>hs0 ⟨rfl,λh1=>h1.elim (λh=>absurd h (by omega)) (λh2=>absurd h2.1 h)⟩
         have:=Nat.mul_le_mul_left cap1 (show sz'<=sz1 by omega);exact ⟨by omega,by simp,λi j row d h=>by simp at h⟩
       | cons r0 l=>
         have e : sz1 = sz':=by rw [<- hlen1 r0 (List.mem_cons_self ..),hr r0 (List.mem_cons_self ..)]
         subst e;exact ⟨hroom1,hlen1,hr1⟩
      clear hr1 hlen1 hroom1 hfit1 hsz1
      obtain ⟨hroom1,hlen1,hr1⟩:=hkey;have hsz1:=hz;have hb1E : Es k b1:=(hF i j b1 hS1).1 rfl;have hb1M : ¬ st.h.M b1:=(hF i j b1 hS1).2;refine h (some (b1,off1,cap1)) a w (hR.reheap hq.1 (E':=λx c=>if x = k' then (∃ i' j',F1 i' j' c) else if x = k then Es k c/\¬ F i j c else Es x c) ?_);have hE' : ∀ c,¬ Es k' c\/True:=λ_=>.inr trivial
      have hget : ∀ x,AH.get ((k',AObj.rows (some (b1,off1,cap1)) sz' srows true) :: (k,AObj.rows (some (b,o,C)) sz (iR rows i j (.h k' (some (b1,off1,cap1)) sz' srows.length)) true) :: st.h) x =
       if x = k' then AObj.rows (some (b1,off1,cap1)) sz' srows true else if x = k then AObj.rows (some (b,o,C)) sz (iR rows i j (.h k' (some (b1,off1,cap1)) sz' srows.length)) true else st.h.get x:=λx=>rfl
      generalize hgen : (((k',AObj.rows (some (b1,off1,cap1)) sz' srows true) :: (k,AObj.rows (some (b,o,C)) sz (iR rows i j (.h k' (some (b1,off1,cap1)) sz' srows.length)) true) :: st.h) : AH) = h2 at hget ⊢
      change AH at h2
      have hblk : ∀ x c,(h2.get x).blk = some c->(x = k'/\c = b1)\/x≠k'/\(st.h.get x).blk = some c:=by
       intro x c hc;rw [hget] at hc
       split at hc
       ·rename_i hx;simp [AObj.blk] at hc;exact .inl ⟨hx,hc.symm⟩
       ·rename_i hx
        split at hc
        ·rename_i hx2;subst hx2;rw [hk];exact .inr ⟨hx,hc⟩
        ·exact .inr ⟨hx,hc⟩
      have hM : ∀ c,h2.M c->c = b1\/st.h.M c:=by
       rintro c ⟨x,hx⟩
       rcases hblk x c hx with h | h
       ·exact .inl h.2
       ·exact .inr ⟨x,h.2⟩
      have hF1E : ∀ i' j' c,F1 i' j' c->F i j c/\c≠b1:=λi' j' c hc=>⟨(hF1 i' j' c hc).1,(hF1 i' j' c hc).2 rfl⟩
      refine ⟨λx=>?_,λx x' c h1 h2=>?_,λx c h1=>?_,λx c hc=>?_,λx x' c hc hc'=>?_,λx c hc hm=>?_⟩
      ·rw [hget]
       by_cases hx : x = k'
       ·simp only [if_pos hx]
        refine ⟨cs1,T1,F1,hb1,hcap1,hmax1,hsz1,hroom1,hlen1,λi' j' c hc=>⟨λ_=>⟨i',j',hc⟩,λhm=>?_⟩,λ_=>hd1 rfl,hr1⟩;obtain ⟨h1,h2⟩:=hF1E i' j' c hc;rcases hM c hm with rfl | h
        ·exact h2 rfl
        ·exact (hF i j c h1).2 h
       ·simp only [if_neg hx]
        by_cases hxk : x = k
        ·simp only [if_pos hxk]
         refine ⟨cs,T,λi' j' c=>F i' j' c/\¬ (i' = i/\j' = j),hb,by rw [io];exact hl,hC,hsz,hfit,xF hrl,λi' j' c hc=>⟨λ_=>⟨(hF i' j' c hc.1).1 rfl,λh=>hc.2 (hd rfl _ _ _ _ c hc.1 h)⟩,λhm=>?_⟩,λ_ i1 j1 i2 j2 c h1 h2=>hd rfl _ _ _ _ c h1.1 h2.1,?_⟩
         ·rcases hM c hm with rfl | h
          ·exact hc.2 (hd rfl _ _ _ _ c hc.1 hS1)
          ·exact (hF i' j' c hc.1).2 h
         ·intro i2 j2 row2 d2 h1 h2
          rcases xG h1 h2 with ⟨rfl,rfl,rfl⟩ | ⟨hn,row0,h3,h4⟩
          ·rw [hud]
           refine .h _ _ _ _ _ (λ_=>?_) (λh0 h1=>absurd ⟨List.eq_nil_of_length_eq_zero h0,λh=>absurd (h0 ▸ h) h1⟩ hs0);exact .inl ⟨by simp,by omega⟩
          ·exact (hrd _ _ _ _ h3 h4).map (λ_ _ _=>rfl) (λc hc _=>⟨hc,hn⟩)
        ·simp only [if_neg hxk]
         refine (HH.obj x).quiet (Fy _ hq.2 x) (λc hc hm hm'=>?_);rcases hM c hm' with rfl | h
         ·exact hxk (HH.einj _ _ c hc hb1E)
         ·exact hm h
      ·rcases hblk x c h1 with ⟨rfl,rfl⟩ | ⟨hx,h1⟩<;>rcases hblk x' c h2 with ⟨hx',hc'⟩ | ⟨hx',h2⟩
       ·exact hx'.symm
       ·exact absurd ⟨x',h2⟩ hb1M
       ·rw [hc'] at h1;exact absurd ⟨x,h1⟩ hb1M
       ·exact HH.inj x x' c h1 h2
      ·rcases hblk x c h1 with ⟨rfl,rfl⟩ | ⟨hx,h1⟩
       ·have:=(HH.elow k c hb1E).1
        exact ⟨λh=>this (hFG _ h),this⟩
       ·exact HH.low x c h1
      ·split at hc
       ·obtain ⟨i',j',hc⟩:=hc
        exact HH.elow k c ((hF i j c (hF1E i' j' c hc).1).1 rfl)
       ·split at hc
        ·exact HH.elow k c hc.1
        ·exact HH.elow x c hc
      ·have key : ∀ y,(if y = k' then (∃ i' j',F1 i' j' c) else if y = k then Es k c/\¬ F i j c else Es y c)->(y = k'/\F i j c/\Es k c)\/(y≠k'/\y = k/\Es k c/\¬ F i j c)\/(y≠k'/\y≠k/\Es y c):=by
        intro y hy
        split at hy
        ·rename_i h;obtain ⟨i',j',hy⟩:=hy
         exact .inl ⟨h,(hF1E i' j' c hy).1,(hF i j c (hF1E i' j' c hy).1).1 rfl⟩
        ·rename_i h
         split at hy
         ·rename_i h3;exact .inr (.inl ⟨h,h3,hy⟩)
         ·rename_i h3;exact .inr (.inr ⟨h,h3,hy⟩)
       rcases key x hc with ⟨h1,h2,h3⟩ | ⟨h0,h1,h2,h3⟩ | ⟨h0,h1,h2⟩<;>rcases key x' hc' with ⟨g1,g2,g3⟩ | ⟨g0,g1,g2,g3⟩ | ⟨g0,g1,g2⟩
       ·rw [h1,g1]
       ·exact absurd h2 g3
       ·exact absurd (HH.einj _ _ c g2 h3) g1
       ·exact absurd g2 h3
       ·rw [h1,g1]
       ·exact absurd (HH.einj _ _ c g2 h2) g1
       ·exact absurd (HH.einj _ _ c h2 g3) h1
       ·exact absurd (HH.einj _ _ c h2 g2) h1
       ·exact HH.einj _ _ c h2 g2
      ·split at hc
       ·obtain ⟨i',j',hc⟩:=hc
        obtain ⟨h1,h2⟩:=hF1E i' j' c hc;rcases hM c hm with rfl | h
        ·exact h2 rfl
        ·exact (hF i j c h1).2 h
       ·split at hc
        ·rcases hM c hm with rfl | h
         ·exact hc.2 hS1
         ·exact HH.em k c hc.1 h
        ·rename_i hxk
         rcases hM c hm with rfl | h
         ·exact hxk (HH.einj _ _ c hc hb1E)
         ·exact HH.em x c hc h
end Go.AM
